/- Parts of the proof: YDa. -/
import Derived.Test.YthhidjfahmcekaaGreatDoorSM17
import Derived.Test.YthhidjfahmcekaaGreatDoorSM20
set_option linter.unusedSectionVars false
set_option linter.unusedVariables false
set_option linter.unusedSimpArgs false
namespace Go.Proofs.YthhidjfahmcekaaGreatDoor
open Go Go.SL Go.Proofs.A1 Go.ChangeShapes Go.WideShapes Go.ChangeAt Go.RowKit Go.Joins
theorem rec97:Tryz.prog.readableRec 97 = true:=by kernel_rfl
theorem row97:(97:TypeId) < Tryz.prog.types.size:=of_decide_eq_true (by kernel_rfl)
set_option maxRecDepth 100000 in
theorem contract (H:Type) (enc:TypeId × Value → H) (W:World) (base:Nat) (args:Array Value) (ds gs:List (DataW H)) (before:List MemPlace)
    (hval:∀ (j:Nat) t v,Tryz.f11.params[j]? = some t → args[j]? = some v → Value.okWide Tryz.prog W .any base t v)
    (hW:DataW.Whole enc Tryz.prog Tryz.f11.params.toList Rows.codeScreensSpec.vars false W args.toList ds gs before) (hG:GlobR W) (hT:Tab10 W) :
    Calls Tryz.prog 11 args W fun e W'=>∃ v,e = .returned v ∧ Rows.codeScreensSpec.post enc Tryz.prog Tryz.f11 false true false false W args v W':=by
  have hW':=hW
  obtain ⟨p,q,hA0,hV,rfl,hfz,hnd⟩:=hW
  have hA:DataW.TrodAll enc Tryz.prog W 0 (fun _=>true) true Tryz.f11.params.toList args.toList ds p:=hA0
  rw [Tryz.params11] at hA hval
  obtain ⟨v0,vs0,d0,ds0,p0,q0,hargs,rfl,rfl,h0,r0⟩:=trodAll_cons hA
  obtain ⟨v1,vs1,d1,ds1,p1,q1,rfl,rfl,rfl,h1,r1⟩:=trodAll_cons r0
  obtain ⟨v2,vs2,d2,ds2,p2,q2,rfl,rfl,rfl,h2,r2⟩:=trodAll_cons r1
  obtain ⟨rfl,rfl,rfl⟩:=trodAll_nil r2
  obtain rfl:args = #[v0,v1,v2]:=Array.ext' hargs
  obtain ⟨rfl,rfl⟩:=trodVars_none hV
  obtain ⟨sa0,sn0,sc0,rfl⟩:=okWide_slice Tryz.underlying97 (hval 0 97 v0 (by simp) (by simp))
  obtain ⟨fu0,hf0⟩:=h0
  obtain ⟨l0,hes0⟩:=open_cps (v:=.slice sa0 sn0 sc0) hf0
  obtain ⟨n1,rfl,rfl,rfl,wn1⟩:=open_int Tryz.underlying113 (hval 1 113 v1 (by simp) (by simp)) h1
  obtain ⟨n2,rfl,rfl,rfl,wn2⟩:=Go.ChangeMaps.open_string Tryz.underlying9 (hval 2 9 v2 (by simp) (by simp)) h2
  clear hA0
  simp only [List.append_nil,List.nil_append] at hW'
  refine (screens_law hes0 n1 (wf_u16 wn1) n2 hG hT:Calls Tryz.prog 11 #[.slice sa0 sn0 sc0,.int .u16 n1,.string n2] W _).mono fun e W' ⟨he,hk⟩=>?_
  subst he
  have hb:=hk.below
  refine ⟨_,rfl,post_of_below (pa:=p0) (pv:=[]) hW' (fun _ _ _=>(trodAll_cons_mk (shut_bool Tryz.underlying4 _) trodAll_mk0)) (fun sp hsp=>?_) (fun _ _=>rfl) (by simp) hb (ok_one (by kernel_rfl) rfl (okWide_bool_mk Tryz.underlying4 _))⟩
  have:=trodAll_cons_mk ((⟨fu0,staysT rec97 row97 hf0 (fun p hp=>hb.same (DataW.trod_lt fu0 97 _ _ hf0 p hp)) (fun p hp=>hsp p (by simp [hp]))⟩:DataW.Trod enc Tryz.prog W' 0 sp true 97 _ d0 p0)) (trodAll_cons_mk (shut_int (enc:=enc) (P:=Tryz.prog) (w:=W') (base:=0) (spare:=sp) (held:=true) Tryz.underlying113 wn1) (trodAll_cons_mk (Go.ChangeMaps.shut_string (enc:=enc) (P:=Tryz.prog) (w:=W') (base:=0) (sp:=sp) (held:=true) Tryz.underlying9 wn2) (trodAll_mk0)))
  have h2:DataW.TrodAll enc Tryz.prog W' 0 sp true [97,113,9] [.slice sa0 sn0 sc0,.int .u16 n1,.string n2] [d0,.lit (.int .u16 n1),.lit (.string n2.data.toList)] (p0):=by simpa using this
  exact h2
set_option maxRecDepth 100000 in
theorem lifted (os:Os) (started:os.Started) (H:Type) (enc:TypeId × Value → H) :
    ReturnsInHanded {} Tryz.checked os 11 .any (fun w args=>(Rows.codeScreensSpec.pre enc Tryz.prog Tryz.f11 Rows.codeScreensRow.domain false w args ∧ laidMetH Tryz.prog Rows.codeScreensRow.laid w) ∧ sizedMet enc Tryz.prog Tryz.f11 (OpenSpec.ofChange Rows.codeScreensSpec) false w args)
      (Rows.codeScreensSpec.post enc Tryz.prog Tryz.f11 false true false false):=by
  refine returnsInHanded_of_change_and (C:=Tryz.checked) (X:=fun w _=>laidMetH Tryz.prog Rows.codeScreensRow.laid w) (fun _ _ _ hh h=>h.of_heap hh) ownK started (by kernel_rfl) Tryz.func11
    (ChangeSpec.witness_shaped (enc:=enc) (C:=Tryz.checked) (os:=os) (X:=fun w _=>laidMetH Tryz.prog Rows.codeScreensRow.laid w) false (World.laidAll Tryz.prog os Rows.codeScreensRow.laid) #[.slice none 0 0,.int .u16 0,.string .empty] 8 (World.laidAll_os _ _ _)
      (World.shaped_of_ZipB (by kernel_rfl) (by kernel_rfl)) (by kernel_rfl) (by kernel_rfl) (by kernel_rfl)
      (by rw [MakeChecks.laidMetH_plain _ _ _ (by kernel_rfl)];exact laidMet_laidAll _ (by kernel_rfl) (by kernel_rfl))) ?_
  intro W base args ds gs before hval hW _ _ hL _
  have hl:=of_laid hL
  exact contract H enc W base args ds gs before hval hW hl.1 hl.2
end Go.Proofs.YthhidjfahmcekaaGreatDoor
