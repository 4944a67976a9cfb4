import Derived.Test.YteonnodafmegaaaGreatDoorFM13
import Derived.Test.YteonnodafmegaaaGreatDoorFM16
set_option linter.unusedSectionVars false
set_option linter.unusedVariables false
set_option linter.unusedSimpArgs false
namespace Go.Proofs.YteonnodafmegaaaGreatDoor
open Go Go.SL Go.Proofs.A1 Go.ChangeShapes Go.WideShapes Go.ChangeAt Go.RowKit Go.Joins
theorem KQ:Tryz.prog.readableRec 27=true:=by kernel_rfl
theorem KL:(27:TypeId)<Tryz.prog.types.size:=of_decide_eq_true (by kernel_rfl)
theorem V4:Tryz.prog.readableRec 66=true:=by kernel_rfl
theorem VZ:(66:TypeId)<Tryz.prog.types.size:=of_decide_eq_true (by kernel_rfl)
set_option maxRecDepth 100000 in
theorem xE (H:Type) (enc:TypeId×Value->H) (W:World) (base:Nat) (args:Array Value) (ds gs:List (DataW H)) (before:List MemPlace)
  (jo:∀ (j:Nat) t v,Tryz.f5.params[j]? = some t->args[j]? = some v->Value.okWide Tryz.prog W .any base t v)
  (hW:DataW.Whole enc Tryz.prog Tryz.f5.params.toList Rows.routerSalvosSpec.vars false W args.toList ds gs before) :
  Calls Tryz.prog 5 args W fun e W'=>∃ v,e=.returned v/\Rows.routerSalvosSpec.post enc Tryz.prog Tryz.f5 false true false false W args v W':=by
 have XA:=hW;obtain ⟨p,q,GG,hV,rfl,hfz,jq⟩:=hW;have hA:DataW.TrodAll enc Tryz.prog W 0 (fun _=>true) true Tryz.f5.params.toList args.toList ds p:=GG
 rw [Tryz.params5] at hA jo;obtain ⟨v0,vs0,d0,ds0,p0,q0,zR,rfl,rfl,h0,r0⟩:=trodAll_cons hA;obtain ⟨v1,vs1,d1,ds1,p1,q1,rfl,rfl,rfl,h1,r1⟩:=trodAll_cons r0;obtain ⟨rfl,rfl,rfl⟩:=trodAll_nil r1;obtain rfl:args=#[v0,v1]:=Array.ext' zR;obtain ⟨rfl,rfl⟩:=trodVars_none hV;obtain ⟨cs0,rfl,aaX⟩:=okWide_struct Tryz.underlying27 (jo 0 27 v0 (by simp) (by simp));obtain ⟨XQ,Rs⟩:=h0;obtain ⟨Hy,SR,S0,SQ,SS,Ui,TR⟩:=uF Rs;obtain rfl:cs0=#[.int .i64 Hy.lv,.int .i64 Hy.ma,SR,S0,SQ,SS]:=Array.ext' Ui;obtain ⟨QV,sn1,QT,rfl⟩:=okWide_slice Tryz.underlying66 (jo 1 66 v1 (by simp) (by simp));obtain ⟨XP,IQ⟩:=h1;obtain ⟨l1,abT,ab7⟩:=EK (v:=.slice QV sn1 QT) IQ;clear GG;simp only [ZN,Za] at XA;refine (Et TR abT ab7:Calls Tryz.prog 5 #[.agg #[.int .i64 Hy.lv,.int .i64 Hy.ma,SR,S0,SQ,SS],.slice QV sn1 QT] W _).mono fun e W' ⟨he,hk⟩=>?_;subst he;have hb:=hk.below;refine ⟨_,I,q7 (pa:=p0++p1) (pv:=[]) XA (fun _ _ _=>(trodAll_cons_mk (shut_bool Tryz.underlying4 _) trodAll_mk0)) (fun sp Vh=>?_) (fun _ _=>rfl) (by simp) hb (ok_one (by kernel_rfl) I (okWide_bool_mk Tryz.underlying4 _))⟩;have:=trodAll_cons_mk ((⟨XQ,vY KQ KL Rs (fun p hp=>hb.same (DataW.trod_lt XQ 27 _ _ Rs p hp)) (fun p hp=>Vh p (by simp [hp]))⟩:DataW.Trod enc Tryz.prog W' 0 sp true 27 _ d0 p0)) (trodAll_cons_mk ((⟨XP,vY V4 VZ IQ (fun p hp=>hb.same (DataW.trod_lt XP 66 _ _ IQ p hp)) (fun p hp=>Vh p (by simp [hp]))⟩:DataW.Trod enc Tryz.prog W' 0 sp true 66 _ d1 p1)) (trodAll_mk0))
 have h2:DataW.TrodAll enc Tryz.prog W' 0 sp true [27,66] [.agg #[.q Hy.lv,.q Hy.ma,SR,S0,SQ,SS],.slice QV sn1 QT] [d0,d1] (p0++p1):=by simpa using this
 exact h2
set_option maxRecDepth 100000 in
theorem lifted (os:Os) (started:os.Started) (H:Type) (enc:TypeId×Value->H) :
  ReturnsInHanded {} Tryz.checked os 5 .any (fun w args=>(Rows.routerSalvosSpec.pre enc Tryz.prog Tryz.f5 Rows.routerSalvosRow.domain false w args/\laidMetH Tryz.prog Rows.routerSalvosRow.laid w)/\sizedMet enc Tryz.prog Tryz.f5 (OpenSpec.ofChange Rows.routerSalvosSpec) false w args)
   (Rows.routerSalvosSpec.post enc Tryz.prog Tryz.f5 false true false false):=by
 refine returnsInHanded_of_change_and (C:=Tryz.checked) (X:=fun w _=>laidMetH Tryz.prog Rows.routerSalvosRow.laid w) (fun _ _ _ hh h=>h.of_heap hh) Wh started (by kernel_rfl) Tryz.func5
  (ChangeSpec.witness_shaped (enc:=enc) (C:=Tryz.checked) (os:=os) (X:=fun w _=>laidMetH Tryz.prog Rows.routerSalvosRow.laid w) false (World.laidAll Tryz.prog os Rows.routerSalvosRow.laid) #[.agg #[.q 0,.q 0,.z,.z,.z,.z],.z] 8 (World.laidAll_os _ _ _)
   (World.shaped_of_ZipB (by kernel_rfl) (by kernel_rfl)) (by kernel_rfl) (by kernel_rfl) (by kernel_rfl)
   (by rw [MakeChecks.laidMetH_plain _ _ _ (by kernel_rfl)];exact laidMet_laidAll _ (by kernel_rfl) (by kernel_rfl))) ?_
 intro W base args ds gs before jo hW _ _ hL _;exact xE H enc W base args ds gs before jo hW
end Go.Proofs.YteonnodafmegaaaGreatDoor
