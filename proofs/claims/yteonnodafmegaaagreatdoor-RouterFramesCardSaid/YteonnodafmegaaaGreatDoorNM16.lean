/- Parts of the proof: XHa. -/
import Derived.Test.YteonnodafmegaaaGreatDoorNM13
import Derived.Test.YteonnodafmegaaaGreatDoorNM15
set_option linter.unusedSectionVars false
set_option linter.unusedVariables false
set_option linter.unusedSimpArgs false
namespace Go.Proofs.YteonnodafmegaaaGreatDoor
open Go Go.SL Go.Proofs.A1 Go.ChangeShapes Go.WideShapes Go.ChangeAt Go.RowKit Go.Joins
theorem Ib:Tryz.prog.readableRec 27=true:=by kernel_rfl
theorem H5:(27:TypeId)<Tryz.prog.types.size:=of_decide_eq_true (by kernel_rfl)
theorem TF:Tryz.prog.readableRec 93=true:=by kernel_rfl
theorem TC:(93:TypeId)<Tryz.prog.types.size:=of_decide_eq_true (by kernel_rfl)
set_option maxRecDepth 100000 in
theorem vD (H:Type) (enc:TypeId×Value→H) (W:World) (base:Nat) (args:Array Value) (ds gs:List (DataW H)) (before:List MemPlace)
  (gH:∀ (j:Nat) t v,Tryz.f8.params[j]? = some t→args[j]? = some v→Value.okWide Tryz.prog W .any base t v)
  (hW:DataW.Whole enc Tryz.prog Tryz.f8.params.toList Rows.routerFramesSpec.vars false W args.toList ds gs before) :
  Calls Tryz.prog 8 args W fun e W'=>∃ v,e=.returned v∧Rows.routerFramesSpec.post enc Tryz.prog Tryz.f8 false true false false W args v W':=by
 have Ve:=hW
 obtain ⟨p,q,Fb,hV,rfl,hfz,kU⟩:=hW
 have hA:DataW.TrodAll enc Tryz.prog W 0 (fun _=>true) true Tryz.f8.params.toList args.toList ds p:=Fb
 rw [Tryz.params8] at hA gH
 obtain ⟨v0,vs0,d0,ds0,p0,q0,yj,rfl,rfl,h0,r0⟩:=trodAll_cons hA
 obtain ⟨v1,vs1,d1,ds1,p1,q1,rfl,rfl,rfl,h1,r1⟩:=trodAll_cons r0
 obtain ⟨rfl,rfl,rfl⟩:=trodAll_nil r1
 obtain rfl:args=#[v0,v1]:=Array.ext' yj
 obtain ⟨rfl,rfl⟩:=trodVars_none hV
 obtain ⟨Y9,rfl,Xt⟩:=okWide_struct Tryz.underlying27 (gH 0 27 v0 (by simp) (by simp))
 obtain ⟨Vr,Pd⟩:=h0
 obtain ⟨F5,Qm,Qu,Ql,Qn,RN,Rh⟩:=sK Pd
 obtain rfl:Y9=#[.int .i64 F5.lv,.int .i64 F5.ma,Qm,Qu,Ql,Qn]:=Array.ext' RN
 obtain ⟨Qk,Qg,Qi,rfl⟩:=okWide_slice Tryz.underlying93 (gH 1 93 v1 (by simp) (by simp))
 obtain ⟨Vq,Kk⟩:=h1
 obtain ⟨l1,RL,RS⟩:=Bz (v:=.slice Qk Qg Qi) Kk
 clear Fb
 simp only [ZU,Za] at Ve
 refine (DU Rh RL RS:Calls Tryz.prog 8 #[.agg #[.int .i64 F5.lv,.int .i64 F5.ma,Qm,Qu,Ql,Qn],.slice Qk Qg Qi] W _).mono fun e W' ⟨he,hk⟩=>?_
 subst he
 have hb:=hk.below
 refine ⟨_,rfl,pF (pa:=p0++p1) (pv:=[]) Ve (fun _ _ _=>(trodAll_cons_mk (shut_bool Tryz.underlying4 _) trodAll_mk0)) (fun sp Uj=>?_) (fun _ _=>rfl) (by simp) hb (ok_one (by kernel_rfl) rfl (okWide_bool_mk Tryz.underlying4 _))⟩
 have:=trodAll_cons_mk ((⟨Vr,yW Ib H5 Pd (fun p hp=>hb.same (DataW.trod_lt Vr 27 _ _ Pd p hp)) (fun p hp=>Uj p (by simp [hp]))⟩:DataW.Trod enc Tryz.prog W' 0 sp true 27 _ d0 p0)) (trodAll_cons_mk ((⟨Vq,yW TF TC Kk (fun p hp=>hb.same (DataW.trod_lt Vq 93 _ _ Kk p hp)) (fun p hp=>Uj p (by simp [hp]))⟩:DataW.Trod enc Tryz.prog W' 0 sp true 93 _ d1 p1)) (trodAll_mk0))
 have h2:DataW.TrodAll enc Tryz.prog W' 0 sp true [27,93] [.agg #[.int .i64 F5.lv,.int .i64 F5.ma,Qm,Qu,Ql,Qn],.slice Qk Qg Qi] [d0,d1] (p0++p1):=by simpa using this
 exact h2
set_option maxRecDepth 100000 in
theorem lifted (os:Os) (started:os.Started) (H:Type) (enc:TypeId×Value→H) :
  ReturnsInHanded {} Tryz.checked os 8 .any (fun w args=>(Rows.routerFramesSpec.pre enc Tryz.prog Tryz.f8 Rows.routerFramesRow.domain false w args∧laidMetH Tryz.prog Rows.routerFramesRow.laid w)∧sizedMet enc Tryz.prog Tryz.f8 (OpenSpec.ofChange Rows.routerFramesSpec) false w args)
   (Rows.routerFramesSpec.post enc Tryz.prog Tryz.f8 false true false false):=by
 refine returnsInHanded_of_change_and (C:=Tryz.checked) (X:=fun w _=>laidMetH Tryz.prog Rows.routerFramesRow.laid w) (fun _ _ _ hh h=>h.of_heap hh) TR started (by kernel_rfl) Tryz.func8
  (ChangeSpec.witness_shaped (enc:=enc) (C:=Tryz.checked) (os:=os) (X:=fun w _=>laidMetH Tryz.prog Rows.routerFramesRow.laid w) false (World.laidAll Tryz.prog os Rows.routerFramesRow.laid) #[.agg #[.int .i64 0,.int .i64 0,.slice none 0 0,.slice none 0 0,.slice none 0 0,.slice none 0 0],.slice none 0 0] 8 (World.laidAll_os _ _ _)
   (World.shaped_of_ZipB (by kernel_rfl) (by kernel_rfl)) (by kernel_rfl) (by kernel_rfl) (by kernel_rfl)
   (by rw [MakeChecks.laidMetH_plain _ _ _ (by kernel_rfl)];exact laidMet_laidAll _ (by kernel_rfl) (by kernel_rfl))) ?_
 intro W base args ds gs before gH hW _ _ hL _
 exact vD H enc W base args ds gs before gH hW
end Go.Proofs.YteonnodafmegaaaGreatDoor
