/- Parts of the proof: DY1a. -/
import Derived.Test.YthhidjfahmcekaaDoorPM11
import Derived.Test.YthhidjfahmcekaaDoorPM14
set_option linter.unusedSectionVars false
set_option linter.unusedVariables false
set_option linter.unusedSimpArgs false
namespace Go.Proofs.YthhidjfahmcekaaDoor
open Go Go.SL Go.Proofs.A1 Go.ChangeShapes Go.WideShapes Go.ChangeAt Go.RowKit Go.Joins
theorem rec25:Tryd.prog.readableRec 25 = true:=by kernel_rfl
theorem row25:(25:TypeId) < Tryd.prog.types.size:=of_decide_eq_true (by kernel_rfl)
theorem rec26:Tryd.prog.readableRec 26 = true:=by kernel_rfl
theorem row26:(26:TypeId) < Tryd.prog.types.size:=of_decide_eq_true (by kernel_rfl)
set_option maxRecDepth 100000 in
theorem contract (H:Type) (enc:TypeId × Value → H) (W:World) (base:Nat) (args:Array Value) (ds gs:List (DataW H)) (before:List MemPlace)
    (hval:∀ (j:Nat) t v,Tryd.f3.params[j]? = some t → args[j]? = some v → Value.okWide Tryd.prog W .any base t v)
    (hW:DataW.Whole enc Tryd.prog Tryd.f3.params.toList Rows.topPedestalTitlesSpec.vars false W args.toList ds gs before) (hG:GlobR W) :
    Calls Tryd.prog 3 args W fun e W'=>∃ v,e = .returned v ∧ Rows.topPedestalTitlesSpec.post enc Tryd.prog Tryd.f3 false true false false W args v W':=by
  have hW':=hW
  obtain ⟨p,q,hA0,hV,rfl,hfz,hnd⟩:=hW
  have hA:DataW.TrodAll enc Tryd.prog W 0 (fun _=>true) true Tryd.f3.params.toList args.toList ds p:=hA0
  rw [Tryd.params3] at hA hval
  obtain ⟨v0,vs0,d0,ds0,p0,q0,hargs,rfl,rfl,h0,r0⟩:=trodAll_cons hA
  obtain ⟨v1,vs1,d1,ds1,p1,q1,rfl,rfl,rfl,h1,r1⟩:=trodAll_cons r0
  obtain ⟨rfl,rfl,rfl⟩:=trodAll_nil r1
  obtain rfl:args = #[v0,v1]:=Array.ext' hargs
  obtain ⟨rfl,rfl⟩:=trodVars_none hV
  obtain ⟨cs0,rfl,hsz0⟩:=okWide_struct Tryd.underlying25 (hval 0 25 v0 (by simp) (by simp))
  obtain ⟨fu0,hf0⟩:=h0
  obtain ⟨za0,zb0,zc0,zd0,ze0,hcs0⟩:=cells25 hf0
  obtain rfl:cs0 = #[.int .i64 za0,.int .i64 zb0,.int .i64 zc0,.int .i64 zd0,.string ze0]:=Array.ext' hcs0
  obtain ⟨cs1,rfl,hsz1⟩:=okWide_arrayT Tryd.underlying26 (hval 1 26 v1 (by simp) (by simp))
  obtain ⟨fu1,hf1⟩:=h1
  obtain ⟨za1,zb1,hcs1,bdza1,bdzb1⟩:=cells26 hf1
  obtain rfl:cs1 = #[.int .u8 za1,.int .u8 zb1]:=Array.ext' hcs1
  clear hA0
  simp only [List.append_nil,List.nil_append] at hW'
  refine (pedestal_law ⟨za0,zb0,zc0,zd0,ze0⟩ za1 zb1 bdza1 bdzb1 W hG:Calls Tryd.prog 3 #[.agg #[.int .i64 za0,.int .i64 zb0,.int .i64 zc0,.int .i64 zd0,.string ze0],.agg #[.int .u8 za1,.int .u8 zb1]] W _).mono fun e W' ⟨he,hk⟩=>?_
  subst he
  have hb:=hk.below
  refine ⟨_,rfl,post_of_below (pa:=p0++p1) (pv:=[]) hW' (fun _ _ _=>(trodAll_cons_mk (shut_bool Tryd.underlying4 _) trodAll_mk0)) (fun sp hsp=>?_) (fun _ _=>rfl) (by simp) hb (ok_one (by kernel_rfl) rfl (okWide_bool_mk Tryd.underlying4 _))⟩
  have:=trodAll_cons_mk ((⟨fu0,staysT rec25 row25 hf0 (fun p hp=>hb.same (DataW.trod_lt fu0 25 _ _ hf0 p hp)) (fun p hp=>hsp p (by simp [hp]))⟩:DataW.Trod enc Tryd.prog W' 0 sp true 25 _ d0 p0)) (trodAll_cons_mk ((⟨fu1,staysT rec26 row26 hf1 (fun p hp=>hb.same (DataW.trod_lt fu1 26 _ _ hf1 p hp)) (fun p hp=>hsp p (by simp [hp]))⟩:DataW.Trod enc Tryd.prog W' 0 sp true 26 _ d1 p1)) (trodAll_mk0))
  have h2:DataW.TrodAll enc Tryd.prog W' 0 sp true [25,26] [.agg #[.int .i64 za0,.int .i64 zb0,.int .i64 zc0,.int .i64 zd0,.string ze0],.agg #[.int .u8 za1,.int .u8 zb1]] [d0,d1] (p0++p1):=by simpa using this
  exact h2
set_option maxRecDepth 100000 in
theorem lifted (os:Os) (started:os.Started) (H:Type) (enc:TypeId × Value → H) :
    ReturnsInHanded {} Tryd.checked os 3 .any (fun w args=>(Rows.topPedestalTitlesSpec.pre enc Tryd.prog Tryd.f3 Rows.topPedestalTitlesRow.domain false w args ∧ laidMetH Tryd.prog Rows.topPedestalTitlesRow.laid w) ∧ sizedMet enc Tryd.prog Tryd.f3 (OpenSpec.ofChange Rows.topPedestalTitlesSpec) false w args)
      (Rows.topPedestalTitlesSpec.post enc Tryd.prog Tryd.f3 false true false false):=by
  refine returnsInHanded_of_change_and (C:=Tryd.checked) (X:=fun w _=>laidMetH Tryd.prog Rows.topPedestalTitlesRow.laid w) (fun _ _ _ hh h=>h.of_heap hh) ownK started (by kernel_rfl) Tryd.func3
    (ChangeSpec.witness_shaped (enc:=enc) (C:=Tryd.checked) (os:=os) (X:=fun w _=>laidMetH Tryd.prog Rows.topPedestalTitlesRow.laid w) false (World.laidAll Tryd.prog os Rows.topPedestalTitlesRow.laid) #[.agg #[.int .i64 0,.int .i64 0,.int .i64 0,.int .i64 0,.string ⟨#[]⟩],.agg #[.int .u8 0,.int .u8 0]] 8 (World.laidAll_os _ _ _)
      (World.shaped_of_ZipB (by kernel_rfl) (by kernel_rfl)) (by kernel_rfl) (by kernel_rfl) (by kernel_rfl)
      (by rw [MakeChecks.laidMetH_plain _ _ _ (by kernel_rfl)];exact laidMet_laidAll _ (by kernel_rfl) (by kernel_rfl))) ?_
  intro W base args ds gs before hval hW _ _ hL _
  exact contract H enc W base args ds gs before hval hW (of_laid hL)
end Go.Proofs.YthhidjfahmcekaaDoor
