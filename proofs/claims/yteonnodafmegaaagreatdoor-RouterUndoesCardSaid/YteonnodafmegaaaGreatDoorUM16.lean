/- Parts of the proof: XJa. -/
import Derived.Test.YteonnodafmegaaaGreatDoorUM13
import Derived.Test.YteonnodafmegaaaGreatDoorUM15
set_option linter.unusedSectionVars false
set_option linter.unusedVariables false
set_option linter.unusedSimpArgs false
namespace Go.Proofs.YteonnodafmegaaaGreatDoor
open Go Go.SL Go.Proofs.A1 Go.ChangeShapes Go.WideShapes Go.ChangeAt Go.RowKit Go.Joins
theorem JZ:Tryz.prog.readableRec 27=true:=by kernel_rfl
theorem I9:(27:TypeId)<Tryz.prog.types.size:=of_decide_eq_true (by kernel_rfl)
theorem UF:Tryz.prog.readableRec 66=true:=by kernel_rfl
theorem UD:(66:TypeId)<Tryz.prog.types.size:=of_decide_eq_true (by kernel_rfl)
set_option maxRecDepth 100000 in
theorem wE (H:Type) (enc:TypeId×Value->H) (W:World) (base:Nat) (args:Array Value) (ds gs:List (DataW H)) (before:List MemPlace)
  (jj:∀ (j:Nat) t v,Tryz.f12.params[j]? = some t->args[j]? = some v->Value.okWide Tryz.prog W .any base t v)
  (hW:DataW.Whole enc Tryz.prog Tryz.f12.params.toList Rows.routerUndoesSpec.vars false W args.toList ds gs before) :
  Calls Tryz.prog 12 args W fun e W'=>∃ v,e=.returned v/\Rows.routerUndoesSpec.post enc Tryz.prog Tryz.f12 false true false false W args v W':=by
 have V9:=hW;obtain ⟨p,q,Gi,hV,rfl,hfz,jv⟩:=hW;have hA:DataW.TrodAll enc Tryz.prog W 0 (fun _=>true) true Tryz.f12.params.toList args.toList ds p:=Gi
 rw [Tryz.params12] at hA jj;obtain ⟨v0,vs0,d0,ds0,p0,q0,yW,rfl,rfl,h0,r0⟩:=trodAll_cons hA;obtain ⟨v1,vs1,d1,ds1,p1,q1,rfl,rfl,rfl,h1,r1⟩:=trodAll_cons r0;obtain ⟨rfl,rfl,rfl⟩:=trodAll_nil r1;obtain rfl:args=#[v0,v1]:=Array.ext' yW;obtain ⟨rfl,rfl⟩:=trodVars_none hV;obtain ⟨cs0,rfl,Yt⟩:=okWide_struct Tryz.underlying27 (jj 0 27 v0 (by simp) (by simp));obtain ⟨Wq,Qt⟩:=h0;obtain ⟨G9,Rw,RL,Rv,Rx,S2,SC⟩:=tA Qt;obtain rfl:cs0=#[.int .i64 G9.lv,.int .i64 G9.ma,Rw,RL,Rv,Rx]:=Array.ext' S2;obtain ⟨XT,XP,XR,rfl⟩:=okWide_slice Tryz.underlying66 (jj 1 66 v1 (by simp) (by simp));obtain ⟨Wp,Lm⟩:=h1;obtain ⟨l1,aar,aaG⟩:=EA (v:=.slice XT XP XR) Lm;clear Gi;simp only [ZS,Za] at V9;refine (DW SC aar aaG:Calls Tryz.prog 12 #[.agg #[.int .i64 G9.lv,.int .i64 G9.ma,Rw,RL,Rv,Rx],.slice XT XP XR] W _).mono fun e W' ⟨he,hk⟩=>?_;subst he;have hb:=hk.below;refine ⟨_,I,qn (pa:=p0++p1) (pv:=[]) V9 (fun _ _ _=>(trodAll_cons_mk (shut_bool Tryz.underlying4 _) trodAll_mk0)) (fun sp Vg=>?_) (fun _ _=>rfl) (by simp) hb (ok_one (by kernel_rfl) I (okWide_bool_mk Tryz.underlying4 _))⟩;have:=trodAll_cons_mk ((⟨Wq,zP JZ I9 Qt (fun p hp=>hb.same (DataW.trod_lt Wq 27 _ _ Qt p hp)) (fun p hp=>Vg p (by simp [hp]))⟩:DataW.Trod enc Tryz.prog W' 0 sp true 27 _ d0 p0)) (trodAll_cons_mk ((⟨Wp,zP UF UD Lm (fun p hp=>hb.same (DataW.trod_lt Wp 66 _ _ Lm p hp)) (fun p hp=>Vg p (by simp [hp]))⟩:DataW.Trod enc Tryz.prog W' 0 sp true 66 _ d1 p1)) (trodAll_mk0))
 have h2:DataW.TrodAll enc Tryz.prog W' 0 sp true [27,66] [.agg #[.q G9.lv,.q G9.ma,Rw,RL,Rv,Rx],.slice XT XP XR] [d0,d1] (p0++p1):=by simpa using this
 exact h2
set_option maxRecDepth 100000 in
theorem lifted (os:Os) (started:os.Started) (H:Type) (enc:TypeId×Value->H) :
  ReturnsInHanded {} Tryz.checked os 12 .any (fun w args=>(Rows.routerUndoesSpec.pre enc Tryz.prog Tryz.f12 Rows.routerUndoesRow.domain false w args/\laidMetH Tryz.prog Rows.routerUndoesRow.laid w)/\sizedMet enc Tryz.prog Tryz.f12 (OpenSpec.ofChange Rows.routerUndoesSpec) false w args)
   (Rows.routerUndoesSpec.post enc Tryz.prog Tryz.f12 false true false false):=by
 refine returnsInHanded_of_change_and (C:=Tryz.checked) (X:=fun w _=>laidMetH Tryz.prog Rows.routerUndoesRow.laid w) (fun _ _ _ hh h=>h.of_heap hh) UQ started (by kernel_rfl) Tryz.func12
  (ChangeSpec.witness_shaped (enc:=enc) (C:=Tryz.checked) (os:=os) (X:=fun w _=>laidMetH Tryz.prog Rows.routerUndoesRow.laid w) false (World.laidAll Tryz.prog os Rows.routerUndoesRow.laid) #[.agg #[.q 0,.q 0,.z,.z,.z,.z],.z] 8 (World.laidAll_os _ _ _)
   (World.shaped_of_ZipB (by kernel_rfl) (by kernel_rfl)) (by kernel_rfl) (by kernel_rfl) (by kernel_rfl)
   (by rw [MakeChecks.laidMetH_plain _ _ _ (by kernel_rfl)];exact laidMet_laidAll _ (by kernel_rfl) (by kernel_rfl))) ?_
 intro W base args ds gs before jj hW _ _ hL _;exact wE H enc W base args ds gs before jj hW
end Go.Proofs.YteonnodafmegaaaGreatDoor
