/- Parts of the proof: XKa. -/
import Derived.Test.YteonnodafmegaaaGreatDoorKM13
import Derived.Test.YteonnodafmegaaaGreatDoorKM15
set_option linter.unusedSectionVars false
set_option linter.unusedVariables false
set_option linter.unusedSimpArgs false
namespace Go.Proofs.YteonnodafmegaaaGreatDoor
open Go Go.SL Go.Proofs.A1 Go.ChangeShapes Go.WideShapes Go.ChangeAt Go.RowKit Go.Joins
theorem Cf:Tryz.prog.readableRec 27=true:=by kernel_rfl
theorem B2:(27:TypeId)<Tryz.prog.types.size:=of_decide_eq_true (by kernel_rfl)
theorem QV:Tryz.prog.readableRec 116=true:=by kernel_rfl
theorem QQ:(116:TypeId)<Tryz.prog.types.size:=of_decide_eq_true (by kernel_rfl)
set_option maxRecDepth 100000 in
theorem pe (H:Type) (enc:TypeId×Value->H) (W:World) (base:Nat) (args:Array Value) (ds gs:List (DataW H)) (before:List MemPlace)
  (fZ:∀ (j:Nat) t v,Tryz.f10.params[j]? = some t->args[j]? = some v->Value.okWide Tryz.prog W .any base t v)
  (hW:DataW.Whole enc Tryz.prog Tryz.f10.params.toList Rows.routerBlockedSpec.vars false W args.toList ds gs before) :
  Calls Tryz.prog 10 args W fun e W'=>∃ v,e=.returned v/\Rows.routerBlockedSpec.post enc Tryz.prog Tryz.f10 false true false false W args v W':=by
 have PS:=hW;obtain ⟨p,q,Bw,hV,rfl,hfz,jX⟩:=hW;have hA:DataW.TrodAll enc Tryz.prog W 0 (fun _=>true) true Tryz.f10.params.toList args.toList ds p:=Bw
 rw [Tryz.params10] at hA fZ;obtain ⟨v0,vs0,d0,ds0,p0,q0,tY,rfl,rfl,h0,r0⟩:=trodAll_cons hA;obtain ⟨v1,vs1,d1,ds1,p1,q1,rfl,rfl,rfl,h1,r1⟩:=trodAll_cons r0;obtain ⟨rfl,rfl,rfl⟩:=trodAll_nil r1;obtain rfl:args=#[v0,v1]:=Array.ext' tY;obtain ⟨rfl,rfl⟩:=trodVars_none hV;obtain ⟨VR,rfl,Uu⟩:=okWide_struct Tryz.underlying27 (fZ 0 27 v0 (by simp) (by simp));obtain ⟨PW,Hy⟩:=h0;obtain ⟨yO,Iz,IJ,Iy,IB,KW,KB⟩:=oL Hy;obtain rfl:VR=#[.int .i64 yO.lv,.int .i64 yO.ma,Iz,IJ,Iy,IB]:=Array.ext' KW;obtain ⟨cs1,rfl,XQ⟩:=xP Tryz.underlying116 (fZ 1 116 v1 (by simp) (by simp));obtain ⟨PV,Er⟩:=h1;obtain ⟨MA,Mz,My,Sn,V3,V2,V1⟩:=LC Er;obtain rfl:cs1=#[.int .u8 MA,.int .u8 Mz,.int .u8 My]:=Array.ext' Sn;clear Bw;simp only [ZQ,Za] at PS;refine (C0 KB MA Mz My V3 V2 V1:Calls Tryz.prog 10 #[.agg #[.int .i64 yO.lv,.int .i64 yO.ma,Iz,IJ,Iy,IB],.agg #[.int .u8 MA,.int .u8 Mz,.int .u8 My]] W _).mono fun e W' ⟨he,hk⟩=>?_;subst he;have hb:=hk.below;refine ⟨_,I,mm (pa:=p0++p1) (pv:=[]) PS (fun _ _ _=>(trodAll_cons_mk (shut_bool Tryz.underlying4 _) trodAll_mk0)) (fun sp PC=>?_) (fun _ _=>rfl) (by simp) hb (ok_one (by kernel_rfl) I (okWide_bool_mk Tryz.underlying4 _))⟩;have:=trodAll_cons_mk ((⟨PW,sJ Cf B2 Hy (fun p hp=>hb.same (DataW.trod_lt PW 27 _ _ Hy p hp)) (fun p hp=>PC p (by simp [hp]))⟩:DataW.Trod enc Tryz.prog W' 0 sp true 27 _ d0 p0)) (trodAll_cons_mk ((⟨PV,sJ QV QQ Er (fun p hp=>hb.same (DataW.trod_lt PV 116 _ _ Er p hp)) (fun p hp=>PC p (by simp [hp]))⟩:DataW.Trod enc Tryz.prog W' 0 sp true 116 _ d1 p1)) (trodAll_mk0))
 have h2:DataW.TrodAll enc Tryz.prog W' 0 sp true [27,116] [.agg #[.q yO.lv,.q yO.ma,Iz,IJ,Iy,IB],.agg #[.int .u8 MA,.int .u8 Mz,.int .u8 My]] [d0,d1] (p0++p1):=by simpa using this
 exact h2
set_option maxRecDepth 100000 in
theorem lifted (os:Os) (started:os.Started) (H:Type) (enc:TypeId×Value->H) :
  ReturnsInHanded {} Tryz.checked os 10 .any (fun w args=>(Rows.routerBlockedSpec.pre enc Tryz.prog Tryz.f10 Rows.routerBlockedRow.domain false w args/\laidMetH Tryz.prog Rows.routerBlockedRow.laid w)/\sizedMet enc Tryz.prog Tryz.f10 (OpenSpec.ofChange Rows.routerBlockedSpec) false w args)
   (Rows.routerBlockedSpec.post enc Tryz.prog Tryz.f10 false true false false):=by
 refine returnsInHanded_of_change_and (C:=Tryz.checked) (X:=fun w _=>laidMetH Tryz.prog Rows.routerBlockedRow.laid w) (fun _ _ _ hh h=>h.of_heap hh) Re started (by kernel_rfl) Tryz.func10
  (ChangeSpec.witness_shaped (enc:=enc) (C:=Tryz.checked) (os:=os) (X:=fun w _=>laidMetH Tryz.prog Rows.routerBlockedRow.laid w) false (World.laidAll Tryz.prog os Rows.routerBlockedRow.laid) #[.agg #[.q 0,.q 0,.z,.z,.z,.z],.agg #[.int .u8 0,.int .u8 0,.int .u8 0]] 8 (World.laidAll_os _ _ _)
   (World.shaped_of_ZipB (by kernel_rfl) (by kernel_rfl)) (by kernel_rfl) (by kernel_rfl) (by kernel_rfl)
   (by rw [MakeChecks.laidMetH_plain _ _ _ (by kernel_rfl)];exact laidMet_laidAll _ (by kernel_rfl) (by kernel_rfl))) ?_
 intro W base args ds gs before fZ hW _ _ hL _;exact pe H enc W base args ds gs before fZ hW
end Go.Proofs.YteonnodafmegaaaGreatDoor
