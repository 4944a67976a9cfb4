/- Parts of the proof: XCa. -/
import Derived.Test.YteonnodafmegaaaGreatDoorCM14
import Derived.Test.YteonnodafmegaaaGreatDoorCM15
set_option linter.unusedSectionVars false
set_option linter.unusedVariables false
set_option linter.unusedSimpArgs false
namespace Go.Proofs.YteonnodafmegaaaGreatDoor
open Go Go.SL Go.Proofs.A1 Go.ChangeShapes Go.WideShapes Go.ChangeAt Go.RowKit Go.Joins
theorem Tn:Tryz.prog.readableRec 27=true:=by kernel_rfl
theorem Th:(27:TypeId)<Tryz.prog.types.size:=of_decide_eq_true (by kernel_rfl)
theorem Tm:Tryz.prog.readableRec 29=true:=by kernel_rfl
theorem Tg:(29:TypeId)<Tryz.prog.types.size:=of_decide_eq_true (by kernel_rfl)
theorem Tl:Tryz.prog.readableRec 32=true:=by kernel_rfl
theorem Tf:(32:TypeId)<Tryz.prog.types.size:=of_decide_eq_true (by kernel_rfl)
set_option maxRecDepth 100000 in
theorem KF (H:Type) (enc:TypeId×Value->H) (W:World) (base:Nat) (args:Array Value) (ds gs:List (DataW H)) (before:List MemPlace)
  (jS:∀ (j:Nat) t v,Tryz.f9.params[j]? = some t->args[j]? = some v->Value.okWide Tryz.prog W .any base t v)
  (hW:DataW.Whole enc Tryz.prog Tryz.f9.params.toList Rows.routerWaysSpec.vars false W args.toList ds gs before) :
  Calls Tryz.prog 9 args W fun e W'=>∃ v,e=.returned v/\Rows.routerWaysSpec.post enc Tryz.prog Tryz.f9 false true false false W args v W':=by
 have ZK:=hW;obtain ⟨p,q,G1,hV,rfl,hfz,jf⟩:=hW;have hA:DataW.TrodAll enc Tryz.prog W 0 (fun _=>true) true Tryz.f9.params.toList args.toList ds p:=G1
 rw [Tryz.params9] at hA jS;obtain ⟨v0,vs0,d0,ds0,p0,q0,E5,rfl,rfl,h0,r0⟩:=trodAll_cons hA;obtain ⟨v1,vs1,d1,ds1,p1,q1,rfl,rfl,rfl,h1,r1⟩:=trodAll_cons r0;obtain ⟨v2,P0,d2,ds2,p2,q2,rfl,rfl,rfl,h2,r2⟩:=trodAll_cons r1;obtain ⟨rfl,rfl,rfl⟩:=trodAll_nil r2;obtain rfl:args=#[v0,v1,v2]:=Array.ext' E5;obtain ⟨rfl,rfl⟩:=trodVars_none hV;obtain ⟨cs0,rfl,ac4⟩:=okWide_struct Tryz.underlying27 (jS 0 27 v0 (by simp) (by simp));obtain ⟨Z1,V5⟩:=h0;obtain ⟨Sv,Wr,Wv,Wq,Ws,X8,Xa⟩:=BC V5;obtain rfl:cs0=#[.int .i64 Sv.lv,.int .i64 Sv.ma,Wr,Wv,Wq,Ws]:=Array.ext' X8;obtain ⟨cs1,rfl,ac3⟩:=okWide_struct Tryz.underlying29 (jS 1 29 v1 (by simp) (by simp));obtain ⟨Z0,Pd⟩:=h1;obtain ⟨Vw,Vv,Vu,X7⟩:=Og Pd;obtain rfl:cs1=#[.int .i64 Vw,.string Vv,.string Vu]:=Array.ext' X7;obtain ⟨Wm,Wj,Wl,rfl⟩:=okWide_slice Tryz.underlying32 (jS 2 32 v2 (by simp) (by simp));obtain ⟨ZZ,Gr⟩:=h2;obtain ⟨l2,X0⟩:=Ip (v:=.slice Wm Wj Wl) Gr;clear G1;simp only [List.append_nil,Za] at ZK;refine (Hf Xa Vw Vv Vu X0:Calls Tryz.prog 9 #[.agg #[.int .i64 Sv.lv,.int .i64 Sv.ma,Wr,Wv,Wq,Ws],.agg #[.int .i64 Vw,.string Vv,.string Vu],.slice Wm Wj Wl] W _).mono fun e W' ⟨he,hk⟩=>?_;subst he;have hb:=hk.below;refine ⟨_,I,xr (pa:=p0++(p1++p2)) (pv:=[]) ZK (fun _ _ _=>(trodAll_cons_mk (shut_bool Tryz.underlying4 _) trodAll_mk0)) (fun sp W4=>?_) (fun _ _=>rfl) (by simp) hb (ok_one (by kernel_rfl) I (okWide_bool_mk Tryz.underlying4 _))⟩;have:=trodAll_cons_mk ((⟨Z1,CU Tn Th V5 (fun p hp=>hb.same (DataW.trod_lt Z1 27 _ _ V5 p hp)) (fun p hp=>W4 p (by simp [hp]))⟩:DataW.Trod enc Tryz.prog W' 0 sp true 27 _ d0 p0)) (trodAll_cons_mk ((⟨Z0,CU Tm Tg Pd (fun p hp=>hb.same (DataW.trod_lt Z0 29 _ _ Pd p hp)) (fun p hp=>W4 p (by simp [hp]))⟩:DataW.Trod enc Tryz.prog W' 0 sp true 29 _ d1 p1)) (trodAll_cons_mk ((⟨ZZ,CU Tl Tf Gr (fun p hp=>hb.same (DataW.trod_lt ZZ 32 _ _ Gr p hp)) (fun p hp=>W4 p (by simp [hp]))⟩:DataW.Trod enc Tryz.prog W' 0 sp true 32 _ d2 p2)) (trodAll_mk0)))
 have h2:DataW.TrodAll enc Tryz.prog W' 0 sp true [27,29,32] [.agg #[.int .i64 Sv.lv,.int .i64 Sv.ma,Wr,Wv,Wq,Ws],.agg #[.int .i64 Vw,.string Vv,.string Vu],.slice Wm Wj Wl] [d0,d1,d2] (p0++(p1++p2)):=by simpa using this
 exact h2
set_option maxRecDepth 100000 in
theorem lifted (os:Os) (started:os.Started) (H:Type) (enc:TypeId×Value->H) :
  ReturnsInHanded {} Tryz.checked os 9 .any (fun w args=>(Rows.routerWaysSpec.pre enc Tryz.prog Tryz.f9 Rows.routerWaysRow.domain false w args/\laidMetH Tryz.prog Rows.routerWaysRow.laid w)/\sizedMet enc Tryz.prog Tryz.f9 (OpenSpec.ofChange Rows.routerWaysSpec) false w args)
   (Rows.routerWaysSpec.post enc Tryz.prog Tryz.f9 false true false false):=by
 refine returnsInHanded_of_change_and (C:=Tryz.checked) (X:=fun w _=>laidMetH Tryz.prog Rows.routerWaysRow.laid w) (fun _ _ _ hh h=>h.of_heap hh) WH started (by kernel_rfl) Tryz.func9
  (ChangeSpec.witness_shaped (enc:=enc) (C:=Tryz.checked) (os:=os) (X:=fun w _=>laidMetH Tryz.prog Rows.routerWaysRow.laid w) false (World.laidAll Tryz.prog os Rows.routerWaysRow.laid) #[.agg #[.int .i64 0,.int .i64 0,.slice none 0 0,.slice none 0 0,.slice none 0 0,.slice none 0 0],.agg #[.int .i64 0,.string .empty,.string .empty],.slice none 0 0] 8 (World.laidAll_os _ _ _)
   (World.shaped_of_ZipB (by kernel_rfl) (by kernel_rfl)) (by kernel_rfl) (by kernel_rfl) (by kernel_rfl)
   (by rw [MakeChecks.laidMetH_plain _ _ _ (by kernel_rfl)];exact laidMet_laidAll _ (by kernel_rfl) (by kernel_rfl))) ?_
 intro W base args ds gs before jS hW _ _ hL _;exact KF H enc W base args ds gs before jS hW
end Go.Proofs.YteonnodafmegaaaGreatDoor
