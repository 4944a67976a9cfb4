/- Parts of the proof: Y2a. -/
import Derived.Test.YthhidjfahmcekaaGreatDoorFM16
import Derived.Test.YthhidjfahmcekaaGreatDoorFM18
set_option linter.unusedSectionVars false
set_option linter.unusedVariables false
set_option linter.unusedSimpArgs false
namespace Go.Proofs.YthhidjfahmcekaaGreatDoor
open Go Go.SL Go.Proofs.A1 Go.ChangeShapes Go.WideShapes Go.ChangeAt Go.RowKit Go.Joins
theorem rec3:Tryz.prog.readableRec 3 = true:=by kernel_rfl
theorem row3:(3:TypeId) < Tryz.prog.types.size:=of_decide_eq_true (by kernel_rfl)
theorem rec23:Tryz.prog.readableRec 23 = true:=by kernel_rfl
theorem row23:(23:TypeId) < Tryz.prog.types.size:=of_decide_eq_true (by kernel_rfl)
theorem rec25:Tryz.prog.readableRec 25 = true:=by kernel_rfl
theorem row25:(25:TypeId) < Tryz.prog.types.size:=of_decide_eq_true (by kernel_rfl)
set_option maxRecDepth 100000 in
theorem contract (H:Type) (enc:TypeId × Value → H) (W:World) (base:Nat) (args:Array Value) (ds gs:List (DataW H)) (before:List MemPlace)
    (hval:∀ (j:Nat) t v,Tryz.f4.params[j]? = some t → args[j]? = some v → Value.okWide Tryz.prog W .any base t v)
    (hW:DataW.Whole enc Tryz.prog Tryz.f4.params.toList Rows.codeFramesSpec.vars false W args.toList ds gs before) (hG:GlobR W) (hT:Tab10 W) :
    Calls Tryz.prog 4 args W fun e W'=>∃ v,e = .returned v ∧ Rows.codeFramesSpec.post enc Tryz.prog Tryz.f4 false true false false W args v W':=by
  have hW':=hW
  obtain ⟨p,q,hA0,hV,rfl,hfz,hnd⟩:=hW
  have hA:DataW.TrodAll enc Tryz.prog W 0 (fun _=>true) true Tryz.f4.params.toList args.toList ds p:=hA0
  rw [Tryz.params4] at hA hval
  obtain ⟨v0,vs0,d0,ds0,p0,q0,hargs,rfl,rfl,h0,r0⟩:=trodAll_cons hA
  obtain ⟨v1,vs1,d1,ds1,p1,q1,rfl,rfl,rfl,h1,r1⟩:=trodAll_cons r0
  obtain ⟨v2,vs2,d2,ds2,p2,q2,rfl,rfl,rfl,h2,r2⟩:=trodAll_cons r1
  obtain ⟨rfl,rfl,rfl⟩:=trodAll_nil r2
  obtain rfl:args = #[v0,v1,v2]:=Array.ext' hargs
  obtain ⟨rfl,rfl⟩:=trodVars_none hV
  obtain ⟨cs0,rfl,hsz0⟩:=okWide_struct Tryz.underlying23 (hval 0 23 v0 (by simp) (by simp))
  obtain ⟨fu0,hf0⟩:=h0
  obtain ⟨za0,zb0,hcs0⟩:=cells23 hf0
  obtain rfl:cs0 = #[.int .i64 za0,.bool zb0]:=Array.ext' hcs0
  obtain ⟨cs1,rfl,hsz1⟩:=okWide_struct Tryz.underlying25 (hval 1 25 v1 (by simp) (by simp))
  obtain ⟨fu1,hf1⟩:=h1
  obtain ⟨za1,zb1,zc1,zd1,hcs1⟩:=cells25 hf1
  obtain rfl:cs1 = #[.int .i64 za1,.int .i64 zb1,.int .i64 zc1,.int .i64 zd1]:=Array.ext' hcs1
  obtain ⟨n2,rfl,rfl,rfl,wn2⟩:=open_int Tryz.underlying3 (hval 2 3 v2 (by simp) (by simp)) h2
  clear hA0
  simp only [List.append_nil,List.nil_append] at hW'
  refine (frames_law ⟨za0,zb0⟩ ⟨za1,zb1,zc1,zd1⟩ n2 W hG hT:Calls Tryz.prog 4 #[.agg #[.int .i64 za0,.bool zb0],.agg #[.int .i64 za1,.int .i64 zb1,.int .i64 zc1,.int .i64 zd1],.int .i64 n2] W _).mono fun e W' ⟨he,hk⟩=>?_
  subst he
  have hb:=hk.below
  refine ⟨_,rfl,post_of_below (pa:=p0++p1) (pv:=[]) hW' (fun _ _ _=>(trodAll_cons_mk (shut_bool Tryz.underlying4 _) trodAll_mk0)) (fun sp hsp=>?_) (fun _ _=>rfl) (by simp) hb (ok_one (by kernel_rfl) rfl (okWide_bool_mk Tryz.underlying4 _))⟩
  have:=trodAll_cons_mk ((⟨fu0,staysT rec23 row23 hf0 (fun p hp=>hb.same (DataW.trod_lt fu0 23 _ _ hf0 p hp)) (fun p hp=>hsp p (by simp [hp]))⟩:DataW.Trod enc Tryz.prog W' 0 sp true 23 _ d0 p0)) (trodAll_cons_mk ((⟨fu1,staysT rec25 row25 hf1 (fun p hp=>hb.same (DataW.trod_lt fu1 25 _ _ hf1 p hp)) (fun p hp=>hsp p (by simp [hp]))⟩:DataW.Trod enc Tryz.prog W' 0 sp true 25 _ d1 p1)) (trodAll_cons_mk (shut_int (enc:=enc) (P:=Tryz.prog) (w:=W') (base:=0) (spare:=sp) (held:=true) Tryz.underlying3 wn2) (trodAll_mk0)))
  have h2:DataW.TrodAll enc Tryz.prog W' 0 sp true [23,25,3] [.agg #[.int .i64 za0,.bool zb0],.agg #[.int .i64 za1,.int .i64 zb1,.int .i64 zc1,.int .i64 zd1],.int .i64 n2] [d0,d1,.lit (.int .i64 n2)] (p0++p1):=by simpa using this
  exact h2
set_option maxRecDepth 100000 in
theorem lifted (os:Os) (started:os.Started) (H:Type) (enc:TypeId × Value → H) :
    ReturnsInHanded {} Tryz.checked os 4 .any (fun w args=>(Rows.codeFramesSpec.pre enc Tryz.prog Tryz.f4 Rows.codeFramesRow.domain false w args ∧ laidMetH Tryz.prog Rows.codeFramesRow.laid w) ∧ sizedMet enc Tryz.prog Tryz.f4 (OpenSpec.ofChange Rows.codeFramesSpec) false w args)
      (Rows.codeFramesSpec.post enc Tryz.prog Tryz.f4 false true false false):=by
  refine returnsInHanded_of_change_and (C:=Tryz.checked) (X:=fun w _=>laidMetH Tryz.prog Rows.codeFramesRow.laid w) (fun _ _ _ hh h=>h.of_heap hh) ownK started (by kernel_rfl) Tryz.func4
    (ChangeSpec.witness_shaped (enc:=enc) (C:=Tryz.checked) (os:=os) (X:=fun w _=>laidMetH Tryz.prog Rows.codeFramesRow.laid w) false (World.laidAll Tryz.prog os Rows.codeFramesRow.laid) #[.agg #[.int .i64 0,.bool false],.agg #[.int .i64 0,.int .i64 0,.int .i64 0,.int .i64 0],.int .i64 0] 8 (World.laidAll_os _ _ _)
      (World.shaped_of_ZipB (by kernel_rfl) (by kernel_rfl)) (by kernel_rfl) (by kernel_rfl) (by kernel_rfl)
      (by rw [MakeChecks.laidMetH_plain _ _ _ (by kernel_rfl)];exact laidMet_laidAll _ (by kernel_rfl) (by kernel_rfl))) ?_
  intro W base args ds gs before hval hW _ _ hL _
  have hl:=of_laid hL
  exact contract H enc W base args ds gs before hval hW hl.1 hl.2
end Go.Proofs.YthhidjfahmcekaaGreatDoor
