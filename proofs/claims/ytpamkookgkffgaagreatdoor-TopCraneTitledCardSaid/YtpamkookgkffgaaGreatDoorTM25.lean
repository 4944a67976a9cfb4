/- Parts of the proof: EYa. -/
import Derived.Test.YtpamkookgkffgaaGreatDoorTM24
import Derived.Test.YtpamkookgkffgaaGreatDoorTM23
set_option linter.unusedSectionVars false
set_option linter.unusedVariables false
set_option linter.unusedSimpArgs false
namespace Go.Proofs.YtpamkookgkffgaaGreatDoor
open Go Go.SL Go.Proofs.A1 Go.ChangeShapes Go.WideShapes Go.ChangeAt Go.RowKit Go.Joins
theorem rec24:Tryz.prog.readableRec 24 = true:=by kernel_rfl
theorem row24:(24:TypeId) < Tryz.prog.types.size:=of_decide_eq_true (by kernel_rfl)
theorem rec29:Tryz.prog.readableRec 29 = true:=by kernel_rfl
theorem row29:(29:TypeId) < Tryz.prog.types.size:=of_decide_eq_true (by kernel_rfl)
set_option maxRecDepth 100000 in
theorem contract (H:Type) (enc:TypeId × Value → H) (W:World) (base:Nat) (args:Array Value) (ds gs:List (DataW H)) (before:List MemPlace)
    (hval:∀ (j:Nat) t v,Tryz.f3.params[j]? = some t → args[j]? = some v → Value.okWide Tryz.prog W .any base t v)
    (hW:DataW.Whole enc Tryz.prog Tryz.f3.params.toList Rows.topCraneTitledSpec.vars false W args.toList ds gs before) (hGR:GlobR W) (hG:Glob W) :
    Calls Tryz.prog 3 args W fun e W'=>∃ v,e = .returned v ∧ Rows.topCraneTitledSpec.post enc Tryz.prog Tryz.f3 false true false false W args v W':=by
  have hW':=hW
  obtain ⟨p,q,hA0,hV,rfl,hfz,hnd⟩:=hW
  have hA:DataW.TrodAll enc Tryz.prog W 0 (fun _=>true) true Tryz.f3.params.toList args.toList ds p:=hA0
  rw [Tryz.params3] at hA hval
  obtain ⟨v0,vs0,d0,ds0,p0,q0,hargs,rfl,rfl,h0,r0⟩:=trodAll_cons hA
  obtain ⟨v1,vs1,d1,ds1,p1,q1,rfl,rfl,rfl,h1,r1⟩:=trodAll_cons r0
  obtain ⟨v2,vs2,d2,ds2,p2,q2,rfl,rfl,rfl,h2,r2⟩:=trodAll_cons r1
  obtain ⟨rfl,rfl,rfl⟩:=trodAll_nil r2
  obtain rfl:args = #[v0,v1,v2]:=Array.ext' hargs
  obtain ⟨rfl,rfl⟩:=trodVars_none hV
  obtain ⟨cs0,rfl,hsz0⟩:=okWide_struct Tryz.underlying24 (hval 0 24 v0 (by simp) (by simp))
  obtain ⟨sv0,rfl⟩:∃ sv,cs0 = #[sv]:=by
    have h2:cs0.size = 1:=hsz0.trans c24
    obtain ⟨l⟩:=cs0
    match l,h2 with
    | [x],_=>exact ⟨x,rfl⟩
  obtain ⟨fu0,hf0⟩:=h0
  obtain ⟨es0,hes0⟩:=open_sched hf0
  obtain ⟨cs1,rfl,hsz1⟩:=okWide_struct Tryz.underlying29 (hval 1 29 v1 (by simp) (by simp))
  obtain ⟨fu1,hf1⟩:=h1
  obtain ⟨bk1,bs1,bc1,bx1,hcs1,hb1a,hb1b,hb1c⟩:=open_brk hf1
  obtain rfl:cs1 = #[.int .i64 bk1.n,bs1,bc1,bx1]:=Array.ext' hcs1
  obtain ⟨n2,rfl,rfl,rfl,wn2⟩:=open_int Tryz.underlying5 (hval 2 5 v2 (by simp) (by simp)) h2
  clear hA0
  simp only [List.append_nil,List.nil_append] at hW'
  refine (titled_law hes0 hb1a hb1b hb1c (wf_u8 wn2) hGR hG:Calls Tryz.prog 3 #[.agg #[sv0],.agg #[.int .i64 bk1.n,bs1,bc1,bx1],.int .u8 n2] W _).mono fun e W' ⟨he,hk⟩=>?_
  subst he
  have hb:=hk.below
  refine ⟨_,rfl,post_of_below (pa:=p0++p1) (pv:=[]) hW' (fun _ _ _=>(trodAll_cons_mk (shut_bool Tryz.underlying4 _) trodAll_mk0)) (fun sp hsp=>?_) (fun _ _=>rfl) (by simp) hb (ok_one (by kernel_rfl) rfl (okWide_bool_mk Tryz.underlying4 _))⟩
  have:=trodAll_cons_mk ((⟨fu0,staysT rec24 row24 hf0 (fun p hp=>hb.same (DataW.trod_lt fu0 24 _ _ hf0 p hp)) (fun p hp=>hsp p (by simp [hp]))⟩:DataW.Trod enc Tryz.prog W' 0 sp true 24 _ d0 p0)) (trodAll_cons_mk ((⟨fu1,staysT rec29 row29 hf1 (fun p hp=>hb.same (DataW.trod_lt fu1 29 _ _ hf1 p hp)) (fun p hp=>hsp p (by simp [hp]))⟩:DataW.Trod enc Tryz.prog W' 0 sp true 29 _ d1 p1)) (trodAll_cons_mk (shut_int (enc:=enc) (P:=Tryz.prog) (w:=W') (base:=0) (spare:=sp) (held:=true) Tryz.underlying5 wn2) (trodAll_mk0)))
  have h2:DataW.TrodAll enc Tryz.prog W' 0 sp true [24,29,5] [.agg #[sv0],.agg #[.int .i64 bk1.n,bs1,bc1,bx1],.int .u8 n2] [d0,d1,.lit (.int .u8 n2)] (p0++p1):=by simpa using this
  exact h2
set_option maxRecDepth 100000 in
theorem lifted (os:Os) (started:os.Started) (H:Type) (enc:TypeId × Value → H) :
    ReturnsInHanded {} Tryz.checked os 3 .any (fun w args=>(Rows.topCraneTitledSpec.pre enc Tryz.prog Tryz.f3 Rows.topCraneTitledRow.domain false w args ∧ laidMetH Tryz.prog Rows.topCraneTitledRow.laid w) ∧ sizedMet enc Tryz.prog Tryz.f3 (OpenSpec.ofChange Rows.topCraneTitledSpec) false w args)
      (Rows.topCraneTitledSpec.post enc Tryz.prog Tryz.f3 false true false false):=by
  refine returnsInHanded_of_change_and (C:=Tryz.checked) (X:=fun w _=>laidMetH Tryz.prog Rows.topCraneTitledRow.laid w) (fun _ _ _ hh h=>h.of_heap hh) ownK started (by kernel_rfl) Tryz.func3
    (ChangeSpec.witness_shaped (enc:=enc) (C:=Tryz.checked) (os:=os) (X:=fun w _=>laidMetH Tryz.prog Rows.topCraneTitledRow.laid w) false (World.laidAll Tryz.prog os Rows.topCraneTitledRow.laid) #[.agg #[.slice none 0 0],.agg #[.int .i64 0,.slice none 0 0,.slice none 0 0,.slice none 0 0],.int .u8 0] 8 (World.laidAll_os _ _ _)
      (World.shaped_of_ZipB (by kernel_rfl) (by kernel_rfl)) (by kernel_rfl) (by kernel_rfl) (by kernel_rfl)
      (by rw [MakeChecks.laidMetH_plain _ _ _ (by kernel_rfl)];exact laidMet_laidAll _ (by kernel_rfl) (by kernel_rfl))) ?_
  intro W base args ds gs before hval hW _ _ hL _
  have hl:=of_laid2 hL
  exact contract H enc W base args ds gs before hval hW hl.1 hl.2
end Go.Proofs.YtpamkookgkffgaaGreatDoor
