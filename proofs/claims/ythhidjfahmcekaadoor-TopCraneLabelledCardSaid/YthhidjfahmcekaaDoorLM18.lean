/- Parts of the proof: DY2a. -/
import Derived.Test.YthhidjfahmcekaaDoorLM17
import Derived.Test.YthhidjfahmcekaaDoorLM16
set_option linter.unusedSectionVars false
set_option linter.unusedVariables false
set_option linter.unusedSimpArgs false
namespace Go.Proofs.YthhidjfahmcekaaDoor
open Go Go.SL Go.Proofs.A1 Go.ChangeShapes Go.WideShapes Go.ChangeAt Go.RowKit Go.Joins
theorem rec57:Tryd.prog.readableRec 57 = true:=by kernel_rfl
theorem row57:(57:TypeId) < Tryd.prog.types.size:=of_decide_eq_true (by kernel_rfl)
theorem rec59:Tryd.prog.readableRec 59 = true:=by kernel_rfl
theorem row59:(59:TypeId) < Tryd.prog.types.size:=of_decide_eq_true (by kernel_rfl)
theorem rec61:Tryd.prog.readableRec 61 = true:=by kernel_rfl
theorem row61:(61:TypeId) < Tryd.prog.types.size:=of_decide_eq_true (by kernel_rfl)
set_option maxRecDepth 100000 in
theorem contract (H:Type) (enc:TypeId × Value → H) (W:World) (base:Nat) (args:Array Value) (ds gs:List (DataW H)) (before:List MemPlace)
    (hval:∀ (j:Nat) t v,Tryd.f4.params[j]? = some t → args[j]? = some v → Value.okWide Tryd.prog W .any base t v)
    (hW:DataW.Whole enc Tryd.prog Tryd.f4.params.toList Rows.topCraneLabelledSpec.vars false W args.toList ds gs before) (hG:GlobR W) (hN:Glob W) :
    Calls Tryd.prog 4 args W fun e W'=>∃ v,e = .returned v ∧ Rows.topCraneLabelledSpec.post enc Tryd.prog Tryd.f4 false true false false W args v W':=by
  have hW':=hW
  obtain ⟨p,q,hA0,hV,rfl,hfz,hnd⟩:=hW
  have hA:DataW.TrodAll enc Tryd.prog W 0 (fun _=>true) true Tryd.f4.params.toList args.toList ds p:=hA0
  rw [Tryd.params4] at hA hval
  obtain ⟨v0,vs0,d0,ds0,p0,q0,hargs,rfl,rfl,h0,r0⟩:=trodAll_cons hA
  obtain ⟨v1,vs1,d1,ds1,p1,q1,rfl,rfl,rfl,h1,r1⟩:=trodAll_cons r0
  obtain ⟨v2,vs2,d2,ds2,p2,q2,rfl,rfl,rfl,h2,r2⟩:=trodAll_cons r1
  obtain ⟨rfl,rfl,rfl⟩:=trodAll_nil r2
  obtain rfl:args = #[v0,v1,v2]:=Array.ext' hargs
  obtain ⟨rfl,rfl⟩:=trodVars_none hV
  obtain ⟨cs0,rfl,hsz0⟩:=okWide_struct Tryd.underlying57 (hval 0 57 v0 (by simp) (by simp))
  obtain ⟨sv0,rfl⟩:∃ sv,cs0 = #[sv]:=by
    have h2:cs0.size = 1:=hsz0.trans c57
    obtain ⟨l⟩:=cs0
    match l,h2 with
    | [x],_=>exact ⟨x,rfl⟩
  obtain ⟨fu0,hf0⟩:=h0
  obtain ⟨es0,hes0⟩:=open_sched hf0
  obtain ⟨cs1,rfl,hsz1⟩:=okWide_struct Tryd.underlying59 (hval 1 59 v1 (by simp) (by simp))
  obtain ⟨fu1,hf1⟩:=h1
  obtain ⟨za1,zb1,hcs1⟩:=cells59 hf1
  obtain rfl:cs1 = #[.int .i64 za1,.bool zb1]:=Array.ext' hcs1
  obtain ⟨cs2,rfl,hsz2⟩:=okWide_arrayT Tryd.underlying61 (hval 2 61 v2 (by simp) (by simp))
  obtain ⟨fu2,hf2⟩:=h2
  obtain ⟨za2,zb2,hcs2,bdza2,bdzb2⟩:=cells61 hf2
  obtain rfl:cs2 = #[.int .u32 za2,.int .u32 zb2]:=Array.ext' hcs2
  clear hA0
  simp only [List.append_nil,List.nil_append] at hW'
  refine (labelled_law hes0 (r:=⟨za1,zb1⟩) (n0:=za2) (n1:=zb2) bdza2 bdzb2 hG hN:Calls Tryd.prog 4 #[.agg #[sv0],.agg #[.int .i64 za1,.bool zb1],.agg #[.int .u32 za2,.int .u32 zb2]] W _).mono fun e W' ⟨he,hk⟩=>?_
  subst he
  have hb:=hk.below
  refine ⟨_,rfl,post_of_below (pa:=p0++(p1++p2)) (pv:=[]) hW' (fun _ _ _=>(trodAll_cons_mk (shut_bool Tryd.underlying4 _) trodAll_mk0)) (fun sp hsp=>?_) (fun _ _=>rfl) (by simp) hb (ok_one (by kernel_rfl) rfl (okWide_bool_mk Tryd.underlying4 _))⟩
  have:=trodAll_cons_mk ((⟨fu0,staysT rec57 row57 hf0 (fun p hp=>hb.same (DataW.trod_lt fu0 57 _ _ hf0 p hp)) (fun p hp=>hsp p (by simp [hp]))⟩:DataW.Trod enc Tryd.prog W' 0 sp true 57 _ d0 p0)) (trodAll_cons_mk ((⟨fu1,staysT rec59 row59 hf1 (fun p hp=>hb.same (DataW.trod_lt fu1 59 _ _ hf1 p hp)) (fun p hp=>hsp p (by simp [hp]))⟩:DataW.Trod enc Tryd.prog W' 0 sp true 59 _ d1 p1)) (trodAll_cons_mk ((⟨fu2,staysT rec61 row61 hf2 (fun p hp=>hb.same (DataW.trod_lt fu2 61 _ _ hf2 p hp)) (fun p hp=>hsp p (by simp [hp]))⟩:DataW.Trod enc Tryd.prog W' 0 sp true 61 _ d2 p2)) (trodAll_mk0)))
  have h2:DataW.TrodAll enc Tryd.prog W' 0 sp true [57,59,61] [.agg #[sv0],.agg #[.int .i64 za1,.bool zb1],.agg #[.int .u32 za2,.int .u32 zb2]] [d0,d1,d2] (p0++(p1++p2)):=by simpa using this
  exact h2
set_option maxRecDepth 100000 in
theorem lifted (os:Os) (started:os.Started) (H:Type) (enc:TypeId × Value → H) :
    ReturnsInHanded {} Tryd.checked os 4 .any (fun w args=>(Rows.topCraneLabelledSpec.pre enc Tryd.prog Tryd.f4 Rows.topCraneLabelledRow.domain false w args ∧ laidMetH Tryd.prog Rows.topCraneLabelledRow.laid w) ∧ sizedMet enc Tryd.prog Tryd.f4 (OpenSpec.ofChange Rows.topCraneLabelledSpec) false w args)
      (Rows.topCraneLabelledSpec.post enc Tryd.prog Tryd.f4 false true false false):=by
  refine returnsInHanded_of_change_and (C:=Tryd.checked) (X:=fun w _=>laidMetH Tryd.prog Rows.topCraneLabelledRow.laid w) (fun _ _ _ hh h=>h.of_heap hh) ownK started (by kernel_rfl) Tryd.func4
    (ChangeSpec.witness_shaped (enc:=enc) (C:=Tryd.checked) (os:=os) (X:=fun w _=>laidMetH Tryd.prog Rows.topCraneLabelledRow.laid w) false (World.laidAll Tryd.prog os Rows.topCraneLabelledRow.laid) #[.agg #[.slice none 0 0],.agg #[.int .i64 0,.bool false],.agg #[.int .u32 0,.int .u32 0]] 8 (World.laidAll_os _ _ _)
      (World.shaped_of_ZipB (by kernel_rfl) (by kernel_rfl)) (by kernel_rfl) (by kernel_rfl) (by kernel_rfl)
      (by rw [MakeChecks.laidMetH_plain _ _ _ (by kernel_rfl)];exact laidMet_laidAll _ (by kernel_rfl) (by kernel_rfl))) ?_
  intro W base args ds gs before hval hW _ _ hL _
  exact contract H enc W base args ds gs before hval hW (of_laid2 hL).1 (of_laid2 hL).2
end Go.Proofs.YthhidjfahmcekaaDoor
