/- Parts of the proof: XBa. -/
import Derived.Test.YteonnodafmegaaaGreatDoorBM13
import Derived.Test.YteonnodafmegaaaGreatDoorBM15
set_option linter.unusedSectionVars false
set_option linter.unusedVariables false
set_option linter.unusedSimpArgs false
namespace Go.Proofs.YteonnodafmegaaaGreatDoor
open Go Go.SL Go.Proofs.A1 Go.ChangeShapes Go.WideShapes Go.ChangeAt Go.RowKit Go.Joins
theorem Sd:Tryz.prog.readableRec 27=true:=by kernel_rfl
theorem R9:(27:TypeId)<Tryz.prog.types.size:=of_decide_eq_true (by kernel_rfl)
theorem Sc:Tryz.prog.readableRec 29=true:=by kernel_rfl
theorem R8:(29:TypeId)<Tryz.prog.types.size:=of_decide_eq_true (by kernel_rfl)
theorem Sb:Tryz.prog.readableRec 49=true:=by kernel_rfl
theorem R7:(49:TypeId)<Tryz.prog.types.size:=of_decide_eq_true (by kernel_rfl)
set_option maxRecDepth 100000 in
theorem IX (H:Type) (enc:TypeId×Value→H) (W:World) (base:Nat) (args:Array Value) (ds gs:List (DataW H)) (before:List MemPlace)
  (kP:∀ (j:Nat) t v,Tryz.f4.params[j]? = some t→args[j]? = some v→Value.okWide Tryz.prog W .any base t v)
  (hW:DataW.Whole enc Tryz.prog Tryz.f4.params.toList Rows.routerCutsSpec.vars false W args.toList ds gs before) :
  Calls Tryz.prog 4 args W fun e W'=>∃ v,e=.returned v∧Rows.routerCutsSpec.post enc Tryz.prog Tryz.f4 false true false false W args v W':=by
 have Yr:=hW
 obtain ⟨p,q,MI,hV,rfl,hfz,kQ⟩:=hW
 have hA:DataW.TrodAll enc Tryz.prog W 0 (fun _=>true) true Tryz.f4.params.toList args.toList ds p:=MI
 rw [Tryz.params4] at hA kP
 obtain ⟨v0,vs0,d0,ds0,p0,q0,Ej,rfl,rfl,h0,r0⟩:=trodAll_cons hA
 obtain ⟨v1,vs1,d1,ds1,p1,q1,rfl,rfl,rfl,h1,r1⟩:=trodAll_cons r0
 obtain ⟨v2,vs2,d2,ds2,p2,q2,rfl,rfl,rfl,h2,r2⟩:=trodAll_cons r1
 obtain ⟨rfl,rfl,rfl⟩:=trodAll_nil r2
 obtain rfl:args=#[v0,v1,v2]:=Array.ext' Ej
 obtain ⟨rfl,rfl⟩:=trodVars_none hV
 obtain ⟨cs0,rfl,abS⟩:=okWide_struct Tryz.underlying27 (kP 0 27 v0 (by simp) (by simp))
 obtain ⟨YH,UW⟩:=h0
 obtain ⟨Rp,Vh,Vl,Vg,Vi,WZ,VV⟩:=AO UW
 obtain rfl:cs0=#[.int .i64 Rp.lv,.int .i64 Rp.ma,Vh,Vl,Vg,Vi]:=Array.ext' WZ
 obtain ⟨cs1,rfl,abR⟩:=okWide_struct Tryz.underlying29 (kP 1 29 v1 (by simp) (by simp))
 obtain ⟨YG,Qv⟩:=h1
 obtain ⟨Ux,Uw,Uv,WY⟩:=Nc Qv
 obtain rfl:cs1=#[.int .i64 Ux,.string Uw,.string Uv]:=Array.ext' WY
 obtain ⟨Vd,Va,Vc,rfl⟩:=okWide_slice Tryz.underlying49 (kP 2 49 v2 (by simp) (by simp))
 obtain ⟨YF,F9⟩:=h2
 obtain ⟨l2,WV⟩:=open_ints (v:=.slice Vd Va Vc) F9
 clear MI
 simp only [List.append_nil,Za] at Yr
 refine (IT VV Ux Uw Uv WV:Calls Tryz.prog 4 #[.agg #[.int .i64 Rp.lv,.int .i64 Rp.ma,Vh,Vl,Vg,Vi],.agg #[.int .i64 Ux,.string Uw,.string Uv],.slice Vd Va Vc] W _).mono fun e W' ⟨he,hk⟩=>?_
 subst he
 have hb:=hk.below
 refine ⟨_,rfl,vY (pa:=p0++(p1++p2)) (pv:=[]) Yr (fun _ _ _=>(trodAll_cons_mk (shut_bool Tryz.underlying4 _) trodAll_mk0)) (fun sp VQ=>?_) (fun _ _=>rfl) (by simp) hb (ok_one (by kernel_rfl) rfl (okWide_bool_mk Tryz.underlying4 _))⟩
 have:=trodAll_cons_mk ((⟨YH,Ci Sd R9 UW (fun p hp=>hb.same (DataW.trod_lt YH 27 _ _ UW p hp)) (fun p hp=>VQ p (by simp [hp]))⟩:DataW.Trod enc Tryz.prog W' 0 sp true 27 _ d0 p0)) (trodAll_cons_mk ((⟨YG,Ci Sc R8 Qv (fun p hp=>hb.same (DataW.trod_lt YG 29 _ _ Qv p hp)) (fun p hp=>VQ p (by simp [hp]))⟩:DataW.Trod enc Tryz.prog W' 0 sp true 29 _ d1 p1)) (trodAll_cons_mk ((⟨YF,Ci Sb R7 F9 (fun p hp=>hb.same (DataW.trod_lt YF 49 _ _ F9 p hp)) (fun p hp=>VQ p (by simp [hp]))⟩:DataW.Trod enc Tryz.prog W' 0 sp true 49 _ d2 p2)) (trodAll_mk0)))
 have h2:DataW.TrodAll enc Tryz.prog W' 0 sp true [27,29,49] [.agg #[.int .i64 Rp.lv,.int .i64 Rp.ma,Vh,Vl,Vg,Vi],.agg #[.int .i64 Ux,.string Uw,.string Uv],.slice Vd Va Vc] [d0,d1,d2] (p0++(p1++p2)):=by simpa using this
 exact h2
set_option maxRecDepth 100000 in
theorem lifted (os:Os) (started:os.Started) (H:Type) (enc:TypeId×Value→H) :
  ReturnsInHanded {} Tryz.checked os 4 .any (fun w args=>(Rows.routerCutsSpec.pre enc Tryz.prog Tryz.f4 Rows.routerCutsRow.domain false w args∧laidMetH Tryz.prog Rows.routerCutsRow.laid w)∧sizedMet enc Tryz.prog Tryz.f4 (OpenSpec.ofChange Rows.routerCutsSpec) false w args)
   (Rows.routerCutsSpec.post enc Tryz.prog Tryz.f4 false true false false):=by
 refine returnsInHanded_of_change_and (C:=Tryz.checked) (X:=fun w _=>laidMetH Tryz.prog Rows.routerCutsRow.laid w) (fun _ _ _ hh h=>h.of_heap hh) Vu started (by kernel_rfl) Tryz.func4
  (ChangeSpec.witness_shaped (enc:=enc) (C:=Tryz.checked) (os:=os) (X:=fun w _=>laidMetH Tryz.prog Rows.routerCutsRow.laid w) false (World.laidAll Tryz.prog os Rows.routerCutsRow.laid) #[.agg #[.int .i64 0,.int .i64 0,.slice none 0 0,.slice none 0 0,.slice none 0 0,.slice none 0 0],.agg #[.int .i64 0,.string .empty,.string .empty],.slice none 0 0] 8 (World.laidAll_os _ _ _)
   (World.shaped_of_ZipB (by kernel_rfl) (by kernel_rfl)) (by kernel_rfl) (by kernel_rfl) (by kernel_rfl)
   (by rw [MakeChecks.laidMetH_plain _ _ _ (by kernel_rfl)];exact laidMet_laidAll _ (by kernel_rfl) (by kernel_rfl))) ?_
 intro W base args ds gs before kP hW _ _ hL _
 exact IX H enc W base args ds gs before kP hW
end Go.Proofs.YteonnodafmegaaaGreatDoor
