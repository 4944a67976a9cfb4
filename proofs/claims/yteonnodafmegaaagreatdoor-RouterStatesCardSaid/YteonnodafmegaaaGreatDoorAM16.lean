/- Parts of the proof: XAa. -/
import Derived.Test.YteonnodafmegaaaGreatDoorAM13
import Derived.Test.YteonnodafmegaaaGreatDoorAM15
set_option linter.unusedSectionVars false
set_option linter.unusedVariables false
set_option linter.unusedSimpArgs false
namespace Go.Proofs.YteonnodafmegaaaGreatDoor
open Go Go.SL Go.Proofs.A1 Go.ChangeShapes Go.WideShapes Go.ChangeAt Go.RowKit Go.Joins
theorem Rh:Tryz.prog.readableRec 27=true:=by kernel_rfl
theorem Re:(27:TypeId)<Tryz.prog.types.size:=of_decide_eq_true (by kernel_rfl)
theorem Rg:Tryz.prog.readableRec 29=true:=by kernel_rfl
theorem Rb:(29:TypeId)<Tryz.prog.types.size:=of_decide_eq_true (by kernel_rfl)
set_option maxRecDepth 100000 in
theorem IH (H:Type) (enc:TypeId×Value→H) (W:World) (base:Nat) (args:Array Value) (ds gs:List (DataW H)) (before:List MemPlace)
  (kW:∀ (j:Nat) t v,Tryz.f3.params[j]? = some t→args[j]? = some v→Value.okWide Tryz.prog W .any base t v)
  (hW:DataW.Whole enc Tryz.prog Tryz.f3.params.toList Rows.routerStatesSpec.vars false W args.toList ds gs before) :
  Calls Tryz.prog 3 args W fun e W'=>∃ v,e=.returned v∧Rows.routerStatesSpec.post enc Tryz.prog Tryz.f3 false true false false W args v W':=by
 have Xu:=hW
 obtain ⟨p,q,Mh,hV,rfl,hfz,kD⟩:=hW
 have hA:DataW.TrodAll enc Tryz.prog W 0 (fun _=>true) true Tryz.f3.params.toList args.toList ds p:=Mh
 rw [Tryz.params3] at hA kW
 obtain ⟨v0,vs0,d0,ds0,p0,q0,El,rfl,rfl,h0,r0⟩:=trodAll_cons hA
 obtain ⟨v1,vs1,d1,ds1,p1,q1,rfl,rfl,rfl,h1,r1⟩:=trodAll_cons r0
 obtain ⟨rfl,rfl,rfl⟩:=trodAll_nil r1
 obtain rfl:args=#[v0,v1]:=Array.ext' El
 obtain ⟨rfl,rfl⟩:=trodVars_none hV
 obtain ⟨cs0,rfl,aaK⟩:=okWide_struct Tryz.underlying27 (kW 0 27 v0 (by simp) (by simp))
 obtain ⟨XJ,Ua⟩:=h0
 obtain ⟨QA,Uv,Uz,Uu,Uw,V2,U6⟩:=A0 Ua
 obtain rfl:cs0=#[.int .i64 QA.lv,.int .i64 QA.ma,Uv,Uz,Uu,Uw]:=Array.ext' V2
 obtain ⟨cs1,rfl,aaJ⟩:=okWide_struct Tryz.underlying29 (kW 1 29 v1 (by simp) (by simp))
 obtain ⟨XI,PQ⟩:=h1
 obtain ⟨TI,TH,TG,V1⟩:=MF PQ
 obtain rfl:cs1=#[.int .i64 TI,.string TH,.string TG]:=Array.ext' V1
 clear Mh
 simp only [List.append_nil,List.nil_append] at Xu
 refine (Cn U6 TI TH TG:Calls Tryz.prog 3 #[.agg #[.int .i64 QA.lv,.int .i64 QA.ma,Uv,Uz,Uu,Uw],.agg #[.int .i64 TI,.string TH,.string TG]] W _).mono fun e W' ⟨he,hk⟩=>?_
 subst he
 have hb:=hk.below
 refine ⟨_,rfl,vP (pa:=p0++p1) (pv:=[]) Xu (fun _ _ _=>(trodAll_cons_mk (shut_bool Tryz.underlying4 _) trodAll_mk0)) (fun sp WZ=>?_) (fun _ _=>rfl) (by simp) hb (ok_one (by kernel_rfl) rfl (okWide_bool_mk Tryz.underlying4 _))⟩
 have:=trodAll_cons_mk ((⟨XJ,Gz Rh Re Ua (fun p hp=>hb.same (DataW.trod_lt XJ 27 _ _ Ua p hp)) (fun p hp=>WZ p (by simp [hp]))⟩:DataW.Trod enc Tryz.prog W' 0 sp true 27 _ d0 p0)) (trodAll_cons_mk ((⟨XI,Gz Rg Rb PQ (fun p hp=>hb.same (DataW.trod_lt XI 29 _ _ PQ p hp)) (fun p hp=>WZ p (by simp [hp]))⟩:DataW.Trod enc Tryz.prog W' 0 sp true 29 _ d1 p1)) (trodAll_mk0))
 have h2:DataW.TrodAll enc Tryz.prog W' 0 sp true [27,29] [.agg #[.int .i64 QA.lv,.int .i64 QA.ma,Uv,Uz,Uu,Uw],.agg #[.int .i64 TI,.string TH,.string TG]] [d0,d1] (p0++p1):=by simpa using this
 exact h2
set_option maxRecDepth 100000 in
theorem lifted (os:Os) (started:os.Started) (H:Type) (enc:TypeId×Value→H) :
  ReturnsInHanded {} Tryz.checked os 3 .any (fun w args=>(Rows.routerStatesSpec.pre enc Tryz.prog Tryz.f3 Rows.routerStatesRow.domain false w args∧laidMetH Tryz.prog Rows.routerStatesRow.laid w)∧sizedMet enc Tryz.prog Tryz.f3 (OpenSpec.ofChange Rows.routerStatesSpec) false w args)
   (Rows.routerStatesSpec.post enc Tryz.prog Tryz.f3 false true false false):=by
 refine returnsInHanded_of_change_and (C:=Tryz.checked) (X:=fun w _=>laidMetH Tryz.prog Rows.routerStatesRow.laid w) (fun _ _ _ hh h=>h.of_heap hh) UI started (by kernel_rfl) Tryz.func3
  (ChangeSpec.witness_shaped (enc:=enc) (C:=Tryz.checked) (os:=os) (X:=fun w _=>laidMetH Tryz.prog Rows.routerStatesRow.laid w) false (World.laidAll Tryz.prog os Rows.routerStatesRow.laid) #[.agg #[.int .i64 0,.int .i64 0,.slice none 0 0,.slice none 0 0,.slice none 0 0,.slice none 0 0],.agg #[.int .i64 0,.string .empty,.string .empty]] 8 (World.laidAll_os _ _ _)
   (World.shaped_of_ZipB (by kernel_rfl) (by kernel_rfl)) (by kernel_rfl) (by kernel_rfl) (by kernel_rfl)
   (by rw [MakeChecks.laidMetH_plain _ _ _ (by kernel_rfl)];exact laidMet_laidAll _ (by kernel_rfl) (by kernel_rfl))) ?_
 intro W base args ds gs before kW hW _ _ hL _
 exact IH H enc W base args ds gs before kW hW
end Go.Proofs.YteonnodafmegaaaGreatDoor
