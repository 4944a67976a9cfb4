/- Parts of the proof: Y5a. -/
import Derived.Test.YthhidjfahmcekaaGreatDoorBM16
import Derived.Test.YthhidjfahmcekaaGreatDoorBM18
set_option linter.unusedSectionVars false
set_option linter.unusedVariables false
set_option linter.unusedSimpArgs false
namespace Go.Proofs.YthhidjfahmcekaaGreatDoor
open Go Go.SL Go.Proofs.A1 Go.ChangeShapes Go.WideShapes Go.ChangeAt Go.RowKit Go.Joins
theorem rec9:Tryz.prog.readableRec 9 = true:=by kernel_rfl
theorem row9:(9:TypeId) < Tryz.prog.types.size:=of_decide_eq_true (by kernel_rfl)
theorem rec78:Tryz.prog.readableRec 78 = true:=by kernel_rfl
theorem row78:(78:TypeId) < Tryz.prog.types.size:=of_decide_eq_true (by kernel_rfl)
set_option maxRecDepth 100000 in
theorem contract (H:Type) (enc:TypeId × Value → H) (W:World) (base:Nat) (args:Array Value) (ds gs:List (DataW H)) (before:List MemPlace)
    (hval:∀ (j:Nat) t v,Tryz.f7.params[j]? = some t → args[j]? = some v → Value.okWide Tryz.prog W .any base t v)
    (hW:DataW.Whole enc Tryz.prog Tryz.f7.params.toList Rows.codeBitsSpec.vars false W args.toList ds gs before) (hG:GlobR W) (hT:Tab10 W) :
    Calls Tryz.prog 7 args W fun e W'=>∃ v,e = .returned v ∧ Rows.codeBitsSpec.post enc Tryz.prog Tryz.f7 false true false false W args v W':=by
  have hW':=hW
  obtain ⟨p,q,hA0,hV,rfl,hfz,hnd⟩:=hW
  have hA:DataW.TrodAll enc Tryz.prog W 0 (fun _=>true) true Tryz.f7.params.toList args.toList ds p:=hA0
  rw [Tryz.params7] at hA hval
  obtain ⟨v0,vs0,d0,ds0,p0,q0,hargs,rfl,rfl,h0,r0⟩:=trodAll_cons hA
  obtain ⟨v1,vs1,d1,ds1,p1,q1,rfl,rfl,rfl,h1,r1⟩:=trodAll_cons r0
  obtain ⟨rfl,rfl,rfl⟩:=trodAll_nil r1
  obtain rfl:args = #[v0,v1]:=Array.ext' hargs
  obtain ⟨rfl,rfl⟩:=trodVars_none hV
  obtain ⟨n0,rfl,rfl,rfl,wn0⟩:=Go.ChangeMaps.open_string Tryz.underlying9 (hval 0 9 v0 (by simp) (by simp)) h0
  obtain ⟨sa1,sn1,sc1,rfl⟩:=okWide_slice Tryz.underlying78 (hval 1 78 v1 (by simp) (by simp))
  obtain ⟨fu1,hf1⟩:=h1
  obtain ⟨l1,hes1,hby1⟩:=open_bys (v:=.slice sa1 sn1 sc1) hf1
  clear hA0
  simp only [List.append_nil,List.nil_append] at hW'
  refine (bits_law n0 hes1 hby1 hG hT:Calls Tryz.prog 7 #[.string n0,.slice sa1 sn1 sc1] W _).mono fun e W' ⟨he,hk⟩=>?_
  subst he
  have hb:=hk.below
  refine ⟨_,rfl,post_of_below (pa:=p1) (pv:=[]) hW' (fun _ _ _=>(trodAll_cons_mk (shut_bool Tryz.underlying4 _) trodAll_mk0)) (fun sp hsp=>?_) (fun _ _=>rfl) (by simp) hb (ok_one (by kernel_rfl) rfl (okWide_bool_mk Tryz.underlying4 _))⟩
  have:=trodAll_cons_mk (Go.ChangeMaps.shut_string (enc:=enc) (P:=Tryz.prog) (w:=W') (base:=0) (sp:=sp) (held:=true) Tryz.underlying9 wn0) (trodAll_cons_mk ((⟨fu1,staysT rec78 row78 hf1 (fun p hp=>hb.same (DataW.trod_lt fu1 78 _ _ hf1 p hp)) (fun p hp=>hsp p (by simp [hp]))⟩:DataW.Trod enc Tryz.prog W' 0 sp true 78 _ d1 p1)) (trodAll_mk0))
  have h2:DataW.TrodAll enc Tryz.prog W' 0 sp true [9,78] [.string n0,.slice sa1 sn1 sc1] [.lit (.string n0.data.toList),d1] (p1):=by simpa using this
  exact h2
set_option maxRecDepth 100000 in
theorem lifted (os:Os) (started:os.Started) (H:Type) (enc:TypeId × Value → H) :
    ReturnsInHanded {} Tryz.checked os 7 .any (fun w args=>(Rows.codeBitsSpec.pre enc Tryz.prog Tryz.f7 Rows.codeBitsRow.domain false w args ∧ laidMetH Tryz.prog Rows.codeBitsRow.laid w) ∧ sizedMet enc Tryz.prog Tryz.f7 (OpenSpec.ofChange Rows.codeBitsSpec) false w args)
      (Rows.codeBitsSpec.post enc Tryz.prog Tryz.f7 false true false false):=by
  refine returnsInHanded_of_change_and (C:=Tryz.checked) (X:=fun w _=>laidMetH Tryz.prog Rows.codeBitsRow.laid w) (fun _ _ _ hh h=>h.of_heap hh) ownK started (by kernel_rfl) Tryz.func7
    (ChangeSpec.witness_shaped (enc:=enc) (C:=Tryz.checked) (os:=os) (X:=fun w _=>laidMetH Tryz.prog Rows.codeBitsRow.laid w) false (World.laidAll Tryz.prog os Rows.codeBitsRow.laid) #[.string .empty,.slice none 0 0] 8 (World.laidAll_os _ _ _)
      (World.shaped_of_ZipB (by kernel_rfl) (by kernel_rfl)) (by kernel_rfl) (by kernel_rfl) (by kernel_rfl)
      (by rw [MakeChecks.laidMetH_plain _ _ _ (by kernel_rfl)];exact laidMet_laidAll _ (by kernel_rfl) (by kernel_rfl))) ?_
  intro W base args ds gs before hval hW _ _ hL _
  have hl:=of_laid hL
  exact contract H enc W base args ds gs before hval hW hl.1 hl.2
end Go.Proofs.YthhidjfahmcekaaGreatDoor
