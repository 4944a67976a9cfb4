/- Parts of the proof: XGa. -/
import Derived.Test.YteonnodafmegaaaGreatDoorOM13
import Derived.Test.YteonnodafmegaaaGreatDoorOM16
set_option linter.unusedSectionVars false
set_option linter.unusedVariables false
set_option linter.unusedSimpArgs false
namespace Go.Proofs.YteonnodafmegaaaGreatDoor
open Go Go.SL Go.Proofs.A1 Go.ChangeShapes Go.WideShapes Go.ChangeAt Go.RowKit Go.Joins
theorem CR:Tryz.prog.readableRec 27=true:=by kernel_rfl
theorem CD:(27:TypeId)<Tryz.prog.types.size:=of_decide_eq_true (by kernel_rfl)
theorem WT:Tryz.prog.readableRec 29=true:=by kernel_rfl
theorem WQ:(29:TypeId)<Tryz.prog.types.size:=of_decide_eq_true (by kernel_rfl)
theorem K8:Tryz.prog.readableRec 93=true:=by kernel_rfl
theorem K2:(93:TypeId)<Tryz.prog.types.size:=of_decide_eq_true (by kernel_rfl)
set_option maxRecDepth 100000 in
theorem pQ (H:Type) (enc:TypeId×Value->H) (W:World) (base:Nat) (args:Array Value) (ds gs:List (DataW H)) (before:List MemPlace)
  (jZ:∀ (j:Nat) t v,Tryz.f7.params[j]? = some t->args[j]? = some v->Value.okWide Tryz.prog W .any base t v)
  (hW:DataW.Whole enc Tryz.prog Tryz.f7.params.toList Rows.routerOrdersSpec.vars false W args.toList ds gs before) :
  Calls Tryz.prog 7 args W fun e W'=>∃ v,e=.returned v/\Rows.routerOrdersSpec.post enc Tryz.prog Tryz.f7 false true false false W args v W':=by
 have Sp:=hW;obtain ⟨p,q,Du,hV,rfl,hfz,jw⟩:=hW;have hA:DataW.TrodAll enc Tryz.prog W 0 (fun _=>true) true Tryz.f7.params.toList args.toList ds p:=Du
 rw [Tryz.params7] at hA jZ;obtain ⟨v0,vs0,d0,ds0,p0,q0,uJ,rfl,rfl,h0,r0⟩:=trodAll_cons hA;obtain ⟨v1,vs1,d1,ds1,p1,q1,rfl,rfl,rfl,h1,r1⟩:=trodAll_cons r0;obtain ⟨v2,Tc,d2,ds2,p2,q2,rfl,rfl,rfl,h2,r2⟩:=trodAll_cons r1;obtain ⟨rfl,rfl,rfl⟩:=trodAll_nil r2;obtain rfl:args=#[v0,v1,v2]:=Array.ext' uJ;obtain ⟨rfl,rfl⟩:=trodVars_none hV;obtain ⟨YN,rfl,Xp⟩:=okWide_struct Tryz.underlying27 (jZ 0 27 v0 (by simp) (by simp));obtain ⟨Sx,IZ⟩:=h0;obtain ⟨zl,KZ,Lb,KY,K1,MC,Mi⟩:=pg IZ;obtain rfl:YN=#[.int .i64 zl.lv,.int .i64 zl.ma,KZ,Lb,KY,K1]:=Array.ext' MC;obtain ⟨D3,KK,D1,rfl⟩:=okWide_slice Tryz.underlying93 (jZ 1 93 v1 (by simp) (by simp));obtain ⟨Sv,D6⟩:=h1;obtain ⟨l1,Mx,ME⟩:=uo (v:=.slice D3 KK D1) D6;obtain ⟨cs2,rfl,yu⟩:=okWide_struct Tryz.underlying29 (jZ 2 29 v2 (by simp) (by simp));obtain ⟨fu2,H7⟩:=h2;obtain ⟨za2,zb2,zc2,acT⟩:=Ri H7;obtain rfl:cs2=#[.int .i64 za2,.string zb2,.string zc2]:=Array.ext' acT;clear Du;simp only [ZJ,Za] at Sp;refine (EM Mi Mx ME za2 zb2 zc2:Calls Tryz.prog 7 #[.agg #[.int .i64 zl.lv,.int .i64 zl.ma,KZ,Lb,KY,K1],.slice D3 KK D1,.agg #[.int .i64 za2,.string zb2,.string zc2]] W _).mono fun e W' ⟨he,hk⟩=>?_;subst he;have hb:=hk.below;refine ⟨_,I,mW (pa:=p0++(p1++p2)) (pv:=[]) Sp (fun _ _ _=>(trodAll_cons_mk (shut_bool Tryz.underlying4 _) trodAll_mk0)) (fun sp Qk=>?_) (fun _ _=>rfl) (by simp) hb (ok_one (by kernel_rfl) I (okWide_bool_mk Tryz.underlying4 _))⟩;have:=trodAll_cons_mk ((⟨Sx,q6 CR CD IZ (fun p hp=>hb.same (DataW.trod_lt Sx 27 _ _ IZ p hp)) (fun p hp=>Qk p (by simp [hp]))⟩:DataW.Trod enc Tryz.prog W' 0 sp true 27 _ d0 p0)) (trodAll_cons_mk ((⟨Sv,q6 K8 K2 D6 (fun p hp=>hb.same (DataW.trod_lt Sv 93 _ _ D6 p hp)) (fun p hp=>Qk p (by simp [hp]))⟩:DataW.Trod enc Tryz.prog W' 0 sp true 93 _ d1 p1)) (trodAll_cons_mk ((⟨fu2,q6 WT WQ H7 (fun p hp=>hb.same (DataW.trod_lt fu2 29 _ _ H7 p hp)) (fun p hp=>Qk p (by simp [hp]))⟩:DataW.Trod enc Tryz.prog W' 0 sp true 29 _ d2 p2)) (trodAll_mk0)))
 have h2:DataW.TrodAll enc Tryz.prog W' 0 sp true [27,93,29] [.agg #[.q zl.lv,.q zl.ma,KZ,Lb,KY,K1],.slice D3 KK D1,.agg #[.q za2,.string zb2,.string zc2]] [d0,d1,d2] (p0++(p1++p2)):=by simpa using this
 exact h2
set_option maxRecDepth 100000 in
theorem lifted (os:Os) (started:os.Started) (H:Type) (enc:TypeId×Value->H) :
  ReturnsInHanded {} Tryz.checked os 7 .any (fun w args=>(Rows.routerOrdersSpec.pre enc Tryz.prog Tryz.f7 Rows.routerOrdersRow.domain false w args/\laidMetH Tryz.prog Rows.routerOrdersRow.laid w)/\sizedMet enc Tryz.prog Tryz.f7 (OpenSpec.ofChange Rows.routerOrdersSpec) false w args)
   (Rows.routerOrdersSpec.post enc Tryz.prog Tryz.f7 false true false false):=by
 refine returnsInHanded_of_change_and (C:=Tryz.checked) (X:=fun w _=>laidMetH Tryz.prog Rows.routerOrdersRow.laid w) (fun _ _ _ hh h=>h.of_heap hh) TV started (by kernel_rfl) Tryz.func7
  (ChangeSpec.witness_shaped (enc:=enc) (C:=Tryz.checked) (os:=os) (X:=fun w _=>laidMetH Tryz.prog Rows.routerOrdersRow.laid w) false (World.laidAll Tryz.prog os Rows.routerOrdersRow.laid) #[.agg #[.q 0,.q 0,.z,.z,.z,.z],.z,.agg #[.q 0,.string .empty,.string .empty]] 8 (World.laidAll_os _ _ _)
   (World.shaped_of_ZipB (by kernel_rfl) (by kernel_rfl)) (by kernel_rfl) (by kernel_rfl) (by kernel_rfl)
   (by rw [MakeChecks.laidMetH_plain _ _ _ (by kernel_rfl)];exact laidMet_laidAll _ (by kernel_rfl) (by kernel_rfl))) ?_
 intro W base args ds gs before jZ hW _ _ hL _;exact pQ H enc W base args ds gs before jZ hW
end Go.Proofs.YteonnodafmegaaaGreatDoor
