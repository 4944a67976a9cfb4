/- Parts of the proof: XIa. -/
import Derived.Test.YteonnodafmegaaaGreatDoorPM13
import Derived.Test.YteonnodafmegaaaGreatDoorPM16
set_option linter.unusedSectionVars false
set_option linter.unusedVariables false
set_option linter.unusedSimpArgs false
namespace Go.Proofs.YteonnodafmegaaaGreatDoor
open Go Go.SL Go.Proofs.A1 Go.ChangeShapes Go.WideShapes Go.ChangeAt Go.RowKit Go.Joins
theorem VQ:Tryz.prog.readableRec 27=true:=by kernel_rfl
theorem VN:(27:TypeId)<Tryz.prog.types.size:=of_decide_eq_true (by kernel_rfl)
theorem SQ:Tryz.prog.readableRec 125=true:=by kernel_rfl
theorem SN:(125:TypeId)<Tryz.prog.types.size:=of_decide_eq_true (by kernel_rfl)
set_option maxRecDepth 100000 in
theorem Mw (H:Type) (enc:TypeId×Value->H) (W:World) (base:Nat) (args:Array Value) (ds gs:List (DataW H)) (before:List MemPlace)
  (pL:∀ (j:Nat) t v,Tryz.f11.params[j]? = some t->args[j]? = some v->Value.okWide Tryz.prog W .any base t v)
  (hW:DataW.Whole enc Tryz.prog Tryz.f11.params.toList Rows.routerPortsSpec.vars false W args.toList ds gs before) :
  Calls Tryz.prog 11 args W fun e W'=>∃ v,e=.returned v/\Rows.routerPortsSpec.post enc Tryz.prog Tryz.f11 false true false false W args v W':=by
 have hW':=hW;obtain ⟨p,q,PZ,hV,rfl,hfz,iB⟩:=hW;have hA:DataW.TrodAll enc Tryz.prog W 0 (fun _=>true) true Tryz.f11.params.toList args.toList ds p:=PZ
 rw [Tryz.params11] at hA pL;obtain ⟨v0,vs0,d0,ds0,p0,q0,Gr,rfl,rfl,h0,r0⟩:=trodAll_cons hA;obtain ⟨v1,vs1,d1,ds1,p1,q1,rfl,rfl,rfl,h1,r1⟩:=trodAll_cons r0;obtain ⟨rfl,rfl,rfl⟩:=trodAll_nil r1;obtain rfl:args=#[v0,v1]:=Array.ext' Gr;obtain ⟨rfl,rfl⟩:=trodVars_none hV;obtain ⟨cs0,rfl,aht⟩:=okWide_struct Tryz.underlying27 (pL 0 27 v0 (by simp) (by simp));obtain ⟨fu0,YR⟩:=h0;obtain ⟨U0,rs0,rd0,rt0,rp0,abL,aaS⟩:=CV YR;obtain rfl:cs0=#[.int .i64 U0.lv,.int .i64 U0.ma,rs0,rd0,rt0,rp0]:=Array.ext' abL;obtain ⟨cs1,rfl,ahs⟩:=okWide_struct Tryz.underlying125 (pL 1 125 v1 (by simp) (by simp));obtain ⟨fu1,Rs⟩:=h1;obtain ⟨Yj,Yi,Yh,Yg,abK⟩:=MH Rs;obtain rfl:cs1=#[.string Yj,.bool Yi,.string Yh,.string Yg]:=Array.ext' abK;clear PZ;simp only [ZK,Za] at hW';refine (Ht aaS Yj Yi Yh Yg:Calls Tryz.prog 11 #[.agg #[.int .i64 U0.lv,.int .i64 U0.ma,rs0,rd0,rt0,rp0],.agg #[.string Yj,.bool Yi,.string Yh,.string Yg]] W _).mono fun e W' ⟨he,hk⟩=>?_;subst he;have hb:=hk.below;refine ⟨_,I,yl (pa:=p0++p1) (pv:=[]) hW' (fun _ _ _=>(trodAll_cons_mk (shut_bool Tryz.underlying4 _) trodAll_mk0)) (fun sp hsp=>?_) (fun _ _=>rfl) (by simp) hb (ok_one (by kernel_rfl) I (okWide_bool_mk Tryz.underlying4 _))⟩;have:=trodAll_cons_mk ((⟨fu0,Kh VQ VN YR (fun p hp=>hb.same (DataW.trod_lt fu0 27 _ _ YR p hp)) (fun p hp=>hsp p (by simp [hp]))⟩:DataW.Trod enc Tryz.prog W' 0 sp true 27 _ d0 p0)) (trodAll_cons_mk ((⟨fu1,Kh SQ SN Rs (fun p hp=>hb.same (DataW.trod_lt fu1 125 _ _ Rs p hp)) (fun p hp=>hsp p (by simp [hp]))⟩:DataW.Trod enc Tryz.prog W' 0 sp true 125 _ d1 p1)) (trodAll_mk0))
 have h2:DataW.TrodAll enc Tryz.prog W' 0 sp true [27,125] [.agg #[.q U0.lv,.q U0.ma,rs0,rd0,rt0,rp0],.agg #[.string Yj,.bool Yi,.string Yh,.string Yg]] [d0,d1] (p0++p1):=by simpa using this
 exact h2
set_option maxRecDepth 100000 in
theorem lifted (os:Os) (started:os.Started) (H:Type) (enc:TypeId×Value->H) :
  ReturnsInHanded {} Tryz.checked os 11 .any (fun w args=>(Rows.routerPortsSpec.pre enc Tryz.prog Tryz.f11 Rows.routerPortsRow.domain false w args/\laidMetH Tryz.prog Rows.routerPortsRow.laid w)/\sizedMet enc Tryz.prog Tryz.f11 (OpenSpec.ofChange Rows.routerPortsSpec) false w args)
   (Rows.routerPortsSpec.post enc Tryz.prog Tryz.f11 false true false false):=by
 refine returnsInHanded_of_change_and (C:=Tryz.checked) (X:=fun w _=>laidMetH Tryz.prog Rows.routerPortsRow.laid w) (fun _ _ _ hh h=>h.of_heap hh) aat started (by kernel_rfl) Tryz.func11
  (ChangeSpec.witness_shaped (enc:=enc) (C:=Tryz.checked) (os:=os) (X:=fun w _=>laidMetH Tryz.prog Rows.routerPortsRow.laid w) false (World.laidAll Tryz.prog os Rows.routerPortsRow.laid) #[.agg #[.q 0,.q 0,.z,.z,.z,.z],.agg #[.string .empty,.bool false,.string .empty,.string .empty]] 8 (World.laidAll_os _ _ _)
   (World.shaped_of_ZipB (by kernel_rfl) (by kernel_rfl)) (by kernel_rfl) (by kernel_rfl) (by kernel_rfl)
   (by rw [MakeChecks.laidMetH_plain _ _ _ (by kernel_rfl)];exact laidMet_laidAll _ (by kernel_rfl) (by kernel_rfl))) ?_
 intro W base args ds gs before pL hW _ _ hL _;exact Mw H enc W base args ds gs before pL hW
end Go.Proofs.YteonnodafmegaaaGreatDoor
