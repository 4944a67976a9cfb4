/- Parts of the proof: XEa. -/
import Derived.Test.YteonnodafmegaaaGreatDoorWM13
import Derived.Test.YteonnodafmegaaaGreatDoorWM15
set_option linter.unusedSectionVars false
set_option linter.unusedVariables false
set_option linter.unusedSimpArgs false
namespace Go.Proofs.YteonnodafmegaaaGreatDoor
open Go Go.SL Go.Proofs.A1 Go.ChangeShapes Go.WideShapes Go.ChangeAt Go.RowKit Go.Joins
theorem Td:Tryz.prog.readableRec 27=true:=by kernel_rfl
theorem Ta:(27:TypeId)<Tryz.prog.types.size:=of_decide_eq_true (by kernel_rfl)
theorem Tc:Tryz.prog.readableRec 66=true:=by kernel_rfl
theorem S9:(66:TypeId)<Tryz.prog.types.size:=of_decide_eq_true (by kernel_rfl)
set_option maxRecDepth 100000 in
theorem KF (H:Type) (enc:TypeId×Value→H) (W:World) (base:Nat) (args:Array Value) (ds gs:List (DataW H)) (before:List MemPlace)
  (jt:∀ (j:Nat) t v,Tryz.f6.params[j]? = some t→args[j]? = some v→Value.okWide Tryz.prog W .any base t v)
  (hW:DataW.Whole enc Tryz.prog Tryz.f6.params.toList Rows.routerWholeSpec.vars false W args.toList ds gs before) :
  Calls Tryz.prog 6 args W fun e W'=>∃ v,e=.returned v∧Rows.routerWholeSpec.post enc Tryz.prog Tryz.f6 false true false false W args v W':=by
 have hW':=hW
 obtain ⟨p,q,Kl,hV,rfl,hfz,lj⟩:=hW
 have hA:DataW.TrodAll enc Tryz.prog W 0 (fun _=>true) true Tryz.f6.params.toList args.toList ds p:=Kl
 rw [Tryz.params6] at hA jt
 obtain ⟨v0,vs0,d0,ds0,p0,q0,Fh,rfl,rfl,h0,r0⟩:=trodAll_cons hA
 obtain ⟨v1,vs1,d1,ds1,p1,q1,rfl,rfl,rfl,h1,r1⟩:=trodAll_cons r0
 obtain ⟨rfl,rfl,rfl⟩:=trodAll_nil r1
 obtain rfl:args=#[v0,v1]:=Array.ext' Fh
 obtain ⟨rfl,rfl⟩:=trodVars_none hV
 obtain ⟨cs0,rfl,aej⟩:=okWide_struct Tryz.underlying27 (jt 0 27 v0 (by simp) (by simp))
 obtain ⟨fu0,VS⟩:=h0
 obtain ⟨Sv,Wh,Wo,Wg,Wi,X3,W3⟩:=BG VS
 obtain rfl:cs0=#[.int .i64 Sv.lv,.int .i64 Sv.ma,Wh,Wo,Wg,Wi]:=Array.ext' X3
 obtain ⟨Wd,Wa,Wc,rfl⟩:=okWide_slice Tryz.underlying66 (jt 1 66 v1 (by simp) (by simp))
 obtain ⟨fu1,Rq⟩:=h1
 obtain ⟨l1,XX,Yd⟩:=DA (v:=.slice Wd Wa Wc) Rq
 clear Kl
 simp only [ZU,Za] at hW'
 refine (FP W3 XX Yd:Calls Tryz.prog 6 #[.agg #[.int .i64 Sv.lv,.int .i64 Sv.ma,Wh,Wo,Wg,Wi],.slice Wd Wa Wc] W _).mono fun e W' ⟨he,hk⟩=>?_
 subst he
 have hb:=hk.below
 refine ⟨_,rfl,wU (pa:=p0++p1) (pv:=[]) hW' (fun _ _ _=>(trodAll_cons_mk (shut_bool Tryz.underlying4 _) trodAll_mk0)) (fun sp hsp=>?_) (fun _ _=>rfl) (by simp) hb (ok_one (by kernel_rfl) rfl (okWide_bool_mk Tryz.underlying4 _))⟩
 have:=trodAll_cons_mk ((⟨fu0,HG Td Ta VS (fun p hp=>hb.same (DataW.trod_lt fu0 27 _ _ VS p hp)) (fun p hp=>hsp p (by simp [hp]))⟩:DataW.Trod enc Tryz.prog W' 0 sp true 27 _ d0 p0)) (trodAll_cons_mk ((⟨fu1,HG Tc S9 Rq (fun p hp=>hb.same (DataW.trod_lt fu1 66 _ _ Rq p hp)) (fun p hp=>hsp p (by simp [hp]))⟩:DataW.Trod enc Tryz.prog W' 0 sp true 66 _ d1 p1)) (trodAll_mk0))
 have h2:DataW.TrodAll enc Tryz.prog W' 0 sp true [27,66] [.agg #[.int .i64 Sv.lv,.int .i64 Sv.ma,Wh,Wo,Wg,Wi],.slice Wd Wa Wc] [d0,d1] (p0++p1):=by simpa using this
 exact h2
set_option maxRecDepth 100000 in
theorem lifted (os:Os) (started:os.Started) (H:Type) (enc:TypeId×Value→H) :
  ReturnsInHanded {} Tryz.checked os 6 .any (fun w args=>(Rows.routerWholeSpec.pre enc Tryz.prog Tryz.f6 Rows.routerWholeRow.domain false w args∧laidMetH Tryz.prog Rows.routerWholeRow.laid w)∧sizedMet enc Tryz.prog Tryz.f6 (OpenSpec.ofChange Rows.routerWholeSpec) false w args)
   (Rows.routerWholeSpec.post enc Tryz.prog Tryz.f6 false true false false):=by
 refine returnsInHanded_of_change_and (C:=Tryz.checked) (X:=fun w _=>laidMetH Tryz.prog Rows.routerWholeRow.laid w) (fun _ _ _ hh h=>h.of_heap hh) Wx started (by kernel_rfl) Tryz.func6
  (ChangeSpec.witness_shaped (enc:=enc) (C:=Tryz.checked) (os:=os) (X:=fun w _=>laidMetH Tryz.prog Rows.routerWholeRow.laid w) false (World.laidAll Tryz.prog os Rows.routerWholeRow.laid) #[.agg #[.int .i64 0,.int .i64 0,.slice none 0 0,.slice none 0 0,.slice none 0 0,.slice none 0 0],.slice none 0 0] 8 (World.laidAll_os _ _ _)
   (World.shaped_of_ZipB (by kernel_rfl) (by kernel_rfl)) (by kernel_rfl) (by kernel_rfl) (by kernel_rfl)
   (by rw [MakeChecks.laidMetH_plain _ _ _ (by kernel_rfl)];exact laidMet_laidAll _ (by kernel_rfl) (by kernel_rfl))) ?_
 intro W base args ds gs before jt hW _ _ hL _
 exact KF H enc W base args ds gs before jt hW
end Go.Proofs.YteonnodafmegaaaGreatDoor
