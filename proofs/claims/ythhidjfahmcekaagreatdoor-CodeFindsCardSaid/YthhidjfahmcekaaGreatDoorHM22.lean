/- Parts of the proof: Y7a. -/
import Derived.Test.YthhidjfahmcekaaGreatDoorHM16
import Derived.Test.YthhidjfahmcekaaGreatDoorHM21
set_option linter.unusedSectionVars false
set_option linter.unusedVariables false
set_option linter.unusedSimpArgs false
namespace Go.Proofs.YthhidjfahmcekaaGreatDoor
open Go Go.SL Go.Proofs.A1 Go.ChangeShapes Go.WideShapes Go.ChangeAt Go.RowKit Go.Joins
theorem rec78:Tryz.prog.readableRec 78 = true:=by kernel_rfl
theorem row78:(78:TypeId) < Tryz.prog.types.size:=of_decide_eq_true (by kernel_rfl)
theorem rec121:Tryz.prog.readableRec 121 = true:=by kernel_rfl
theorem row121:(121:TypeId) < Tryz.prog.types.size:=of_decide_eq_true (by kernel_rfl)
set_option maxRecDepth 100000 in
theorem contract (H:Type) (enc:TypeId × Value → H) (W:World) (base:Nat) (args:Array Value) (ds gs:List (DataW H)) (before:List MemPlace)
    (hval:∀ (j:Nat) t v,Tryz.f12.params[j]? = some t → args[j]? = some v → Value.okWide Tryz.prog W .any base t v)
    (hW:DataW.Whole enc Tryz.prog Tryz.f12.params.toList Rows.codeFindsSpec.vars false W args.toList ds gs before) (hG:GlobR W) (hT:Tab10 W) :
    Calls Tryz.prog 12 args W fun e W'=>∃ v,e = .returned v ∧ Rows.codeFindsSpec.post enc Tryz.prog Tryz.f12 false true false false W args v W':=by
  have hW':=hW
  obtain ⟨p,q,hA0,hV,rfl,hfz,hnd⟩:=hW
  have hA:DataW.TrodAll enc Tryz.prog W 0 (fun _=>true) true Tryz.f12.params.toList args.toList ds p:=hA0
  rw [Tryz.params12] at hA hval
  obtain ⟨v0,vs0,d0,ds0,p0,q0,hargs,rfl,rfl,h0,r0⟩:=trodAll_cons hA
  obtain ⟨v1,vs1,d1,ds1,p1,q1,rfl,rfl,rfl,h1,r1⟩:=trodAll_cons r0
  obtain ⟨rfl,rfl,rfl⟩:=trodAll_nil r1
  obtain rfl:args = #[v0,v1]:=Array.ext' hargs
  obtain ⟨rfl,rfl⟩:=trodVars_none hV
  obtain ⟨sa0,sn0,sc0,rfl⟩:=okWide_slice Tryz.underlying78 (hval 0 78 v0 (by simp) (by simp))
  obtain ⟨fu0,hf0⟩:=h0
  obtain ⟨l0,hes0,hby0⟩:=open_bys (v:=.slice sa0 sn0 sc0) hf0
  obtain ⟨sa1,sn1,sc1,rfl⟩:=okWide_slice Tryz.underlying121 (hval 1 121 v1 (by simp) (by simp))
  obtain ⟨fu1,hf1⟩:=h1
  obtain ⟨l1,hes1⟩:=open_stms (v:=.slice sa1 sn1 sc1) hf1
  clear hA0
  simp only [List.append_nil,List.nil_append] at hW'
  refine (finds_law hes0 hby0 hes1 hG hT:Calls Tryz.prog 12 #[.slice sa0 sn0 sc0,.slice sa1 sn1 sc1] W _).mono fun e W' ⟨he,hk⟩=>?_
  subst he
  have hb:=hk.below
  refine ⟨_,rfl,post_of_below (pa:=p0++p1) (pv:=[]) hW' (fun _ _ _=>(trodAll_cons_mk (shut_bool Tryz.underlying4 _) trodAll_mk0)) (fun sp hsp=>?_) (fun _ _=>rfl) (by simp) hb (ok_one (by kernel_rfl) rfl (okWide_bool_mk Tryz.underlying4 _))⟩
  have:=trodAll_cons_mk ((⟨fu0,staysT rec78 row78 hf0 (fun p hp=>hb.same (DataW.trod_lt fu0 78 _ _ hf0 p hp)) (fun p hp=>hsp p (by simp [hp]))⟩:DataW.Trod enc Tryz.prog W' 0 sp true 78 _ d0 p0)) (trodAll_cons_mk ((⟨fu1,staysT rec121 row121 hf1 (fun p hp=>hb.same (DataW.trod_lt fu1 121 _ _ hf1 p hp)) (fun p hp=>hsp p (by simp [hp]))⟩:DataW.Trod enc Tryz.prog W' 0 sp true 121 _ d1 p1)) (trodAll_mk0))
  have h2:DataW.TrodAll enc Tryz.prog W' 0 sp true [78,121] [.slice sa0 sn0 sc0,.slice sa1 sn1 sc1] [d0,d1] (p0++p1):=by simpa using this
  exact h2
set_option maxRecDepth 100000 in
theorem lifted (os:Os) (started:os.Started) (H:Type) (enc:TypeId × Value → H) :
    ReturnsInHanded {} Tryz.checked os 12 .any (fun w args=>(Rows.codeFindsSpec.pre enc Tryz.prog Tryz.f12 Rows.codeFindsRow.domain false w args ∧ laidMetH Tryz.prog Rows.codeFindsRow.laid w) ∧ sizedMet enc Tryz.prog Tryz.f12 (OpenSpec.ofChange Rows.codeFindsSpec) false w args)
      (Rows.codeFindsSpec.post enc Tryz.prog Tryz.f12 false true false false):=by
  refine returnsInHanded_of_change_and (C:=Tryz.checked) (X:=fun w _=>laidMetH Tryz.prog Rows.codeFindsRow.laid w) (fun _ _ _ hh h=>h.of_heap hh) ownK started (by kernel_rfl) Tryz.func12
    (ChangeSpec.witness_shaped (enc:=enc) (C:=Tryz.checked) (os:=os) (X:=fun w _=>laidMetH Tryz.prog Rows.codeFindsRow.laid w) false (World.laidAll Tryz.prog os Rows.codeFindsRow.laid) #[.slice none 0 0,.slice none 0 0] 8 (World.laidAll_os _ _ _)
      (World.shaped_of_ZipB (by kernel_rfl) (by kernel_rfl)) (by kernel_rfl) (by kernel_rfl) (by kernel_rfl)
      (by rw [MakeChecks.laidMetH_plain _ _ _ (by kernel_rfl)];exact laidMet_laidAll _ (by kernel_rfl) (by kernel_rfl))) ?_
  intro W base args ds gs before hval hW _ _ hL _
  have hl:=of_laid hL
  exact contract H enc W base args ds gs before hval hW hl.1 hl.2
end Go.Proofs.YthhidjfahmcekaaGreatDoor
