/- Parts of the proof: Y6a. -/
import Derived.Test.YthhidjfahmcekaaGreatDoorDM16
import Derived.Test.YthhidjfahmcekaaGreatDoorDM18
set_option linter.unusedSectionVars false
set_option linter.unusedVariables false
set_option linter.unusedSimpArgs false
namespace Go.Proofs.YthhidjfahmcekaaGreatDoor
open Go Go.SL Go.Proofs.A1 Go.ChangeShapes Go.WideShapes Go.ChangeAt Go.RowKit Go.Joins
theorem rec23:Tryz.prog.readableRec 23 = true:=by kernel_rfl
theorem row23:(23:TypeId) < Tryz.prog.types.size:=of_decide_eq_true (by kernel_rfl)
theorem rec91:Tryz.prog.readableRec 91 = true:=by kernel_rfl
theorem row91:(91:TypeId) < Tryz.prog.types.size:=of_decide_eq_true (by kernel_rfl)
theorem rec93:Tryz.prog.readableRec 93 = true:=by kernel_rfl
theorem row93:(93:TypeId) < Tryz.prog.types.size:=of_decide_eq_true (by kernel_rfl)
set_option maxRecDepth 100000 in
theorem contract (H:Type) (enc:TypeId × Value → H) (W:World) (base:Nat) (args:Array Value) (ds gs:List (DataW H)) (before:List MemPlace)
    (hval:∀ (j:Nat) t v,Tryz.f8.params[j]? = some t → args[j]? = some v → Value.okWide Tryz.prog W .any base t v)
    (hW:DataW.Whole enc Tryz.prog Tryz.f8.params.toList Rows.codeDaysSpec.vars false W args.toList ds gs before) (hG:GlobR W) (hT:Tab10 W) :
    Calls Tryz.prog 8 args W fun e W'=>∃ v,e = .returned v ∧ Rows.codeDaysSpec.post enc Tryz.prog Tryz.f8 false true false false W args v W':=by
  have hW':=hW
  obtain ⟨p,q,hA0,hV,rfl,hfz,hnd⟩:=hW
  have hA:DataW.TrodAll enc Tryz.prog W 0 (fun _=>true) true Tryz.f8.params.toList args.toList ds p:=hA0
  rw [Tryz.params8] at hA hval
  obtain ⟨v0,vs0,d0,ds0,p0,q0,hargs,rfl,rfl,h0,r0⟩:=trodAll_cons hA
  obtain ⟨v1,vs1,d1,ds1,p1,q1,rfl,rfl,rfl,h1,r1⟩:=trodAll_cons r0
  obtain ⟨v2,vs2,d2,ds2,p2,q2,rfl,rfl,rfl,h2,r2⟩:=trodAll_cons r1
  obtain ⟨rfl,rfl,rfl⟩:=trodAll_nil r2
  obtain rfl:args = #[v0,v1,v2]:=Array.ext' hargs
  obtain ⟨rfl,rfl⟩:=trodVars_none hV
  obtain ⟨cs0,rfl,hsz0⟩:=okWide_struct Tryz.underlying23 (hval 0 23 v0 (by simp) (by simp))
  obtain ⟨fu0,hf0⟩:=h0
  obtain ⟨za0,zb0,hcs0⟩:=cells23 hf0
  obtain rfl:cs0 = #[.int .i64 za0,.bool zb0]:=Array.ext' hcs0
  obtain ⟨n1,rfl,rfl,rfl,wn1⟩:=open_int Tryz.underlying91 (hval 1 91 v1 (by simp) (by simp)) h1
  obtain ⟨cs2,rfl,hsz2⟩:=okWide_arrayT Tryz.underlying93 (hval 2 93 v2 (by simp) (by simp))
  obtain ⟨fu2,hf2⟩:=h2
  obtain ⟨za2,zb2,hcs2,bdza2,bdzb2⟩:=cells93 hf2
  obtain rfl:cs2 = #[.int .i16 za2,.int .i16 zb2]:=Array.ext' hcs2
  clear hA0
  simp only [List.append_nil,List.nil_append] at hW'
  refine (days_law ⟨za0,zb0⟩ n1 (wf_u32 wn1) za2 zb2 bdza2 bdzb2 W hG hT:Calls Tryz.prog 8 #[.agg #[.int .i64 za0,.bool zb0],.int .u32 n1,.agg #[.int .i16 za2,.int .i16 zb2]] W _).mono fun e W' ⟨he,hk⟩=>?_
  subst he
  have hb:=hk.below
  refine ⟨_,rfl,post_of_below (pa:=p0++p2) (pv:=[]) hW' (fun _ _ _=>(trodAll_cons_mk (shut_bool Tryz.underlying4 _) trodAll_mk0)) (fun sp hsp=>?_) (fun _ _=>rfl) (by simp) hb (ok_one (by kernel_rfl) rfl (okWide_bool_mk Tryz.underlying4 _))⟩
  have:=trodAll_cons_mk ((⟨fu0,staysT rec23 row23 hf0 (fun p hp=>hb.same (DataW.trod_lt fu0 23 _ _ hf0 p hp)) (fun p hp=>hsp p (by simp [hp]))⟩:DataW.Trod enc Tryz.prog W' 0 sp true 23 _ d0 p0)) (trodAll_cons_mk (shut_int (enc:=enc) (P:=Tryz.prog) (w:=W') (base:=0) (spare:=sp) (held:=true) Tryz.underlying91 wn1) (trodAll_cons_mk ((⟨fu2,staysT rec93 row93 hf2 (fun p hp=>hb.same (DataW.trod_lt fu2 93 _ _ hf2 p hp)) (fun p hp=>hsp p (by simp [hp]))⟩:DataW.Trod enc Tryz.prog W' 0 sp true 93 _ d2 p2)) (trodAll_mk0)))
  have h2:DataW.TrodAll enc Tryz.prog W' 0 sp true [23,91,93] [.agg #[.int .i64 za0,.bool zb0],.int .u32 n1,.agg #[.int .i16 za2,.int .i16 zb2]] [d0,.lit (.int .u32 n1),d2] (p0++p2):=by simpa using this
  exact h2
set_option maxRecDepth 100000 in
theorem lifted (os:Os) (started:os.Started) (H:Type) (enc:TypeId × Value → H) :
    ReturnsInHanded {} Tryz.checked os 8 .any (fun w args=>(Rows.codeDaysSpec.pre enc Tryz.prog Tryz.f8 Rows.codeDaysRow.domain false w args ∧ laidMetH Tryz.prog Rows.codeDaysRow.laid w) ∧ sizedMet enc Tryz.prog Tryz.f8 (OpenSpec.ofChange Rows.codeDaysSpec) false w args)
      (Rows.codeDaysSpec.post enc Tryz.prog Tryz.f8 false true false false):=by
  refine returnsInHanded_of_change_and (C:=Tryz.checked) (X:=fun w _=>laidMetH Tryz.prog Rows.codeDaysRow.laid w) (fun _ _ _ hh h=>h.of_heap hh) ownK started (by kernel_rfl) Tryz.func8
    (ChangeSpec.witness_shaped (enc:=enc) (C:=Tryz.checked) (os:=os) (X:=fun w _=>laidMetH Tryz.prog Rows.codeDaysRow.laid w) false (World.laidAll Tryz.prog os Rows.codeDaysRow.laid) #[.agg #[.int .i64 0,.bool false],.int .u32 0,.agg #[.int .i16 0,.int .i16 0]] 8 (World.laidAll_os _ _ _)
      (World.shaped_of_ZipB (by kernel_rfl) (by kernel_rfl)) (by kernel_rfl) (by kernel_rfl) (by kernel_rfl)
      (by rw [MakeChecks.laidMetH_plain _ _ _ (by kernel_rfl)];exact laidMet_laidAll _ (by kernel_rfl) (by kernel_rfl))) ?_
  intro W base args ds gs before hval hW _ _ hL _
  have hl:=of_laid hL
  exact contract H enc W base args ds gs before hval hW hl.1 hl.2
end Go.Proofs.YthhidjfahmcekaaGreatDoor
