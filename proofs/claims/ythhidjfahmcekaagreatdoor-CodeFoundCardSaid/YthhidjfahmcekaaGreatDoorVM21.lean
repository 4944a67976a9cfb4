/- Parts of the proof: YCa. -/
import Derived.Test.YthhidjfahmcekaaGreatDoorVM17
import Derived.Test.YthhidjfahmcekaaGreatDoorVM20
set_option linter.unusedSectionVars false
set_option linter.unusedVariables false
set_option linter.unusedSimpArgs false
namespace Go.Proofs.YthhidjfahmcekaaGreatDoor
open Go Go.SL Go.Proofs.A1 Go.ChangeShapes Go.WideShapes Go.ChangeAt Go.RowKit Go.Joins
theorem rec50:Tryz.prog.readableRec 50 = true:=by kernel_rfl
theorem row50:(50:TypeId) < Tryz.prog.types.size:=of_decide_eq_true (by kernel_rfl)
theorem rec135:Tryz.prog.readableRec 135 = true:=by kernel_rfl
theorem row135:(135:TypeId) < Tryz.prog.types.size:=of_decide_eq_true (by kernel_rfl)
set_option maxRecDepth 100000 in
theorem contract (H:Type) (enc:TypeId × Value → H) (W:World) (base:Nat) (args:Array Value) (ds gs:List (DataW H)) (before:List MemPlace)
    (hval:∀ (j:Nat) t v,Tryz.f13.params[j]? = some t → args[j]? = some v → Value.okWide Tryz.prog W .any base t v)
    (hW:DataW.Whole enc Tryz.prog Tryz.f13.params.toList Rows.codeFoundSpec.vars false W args.toList ds gs before) (hG:GlobR W) (hT:Tab10 W) :
    Calls Tryz.prog 13 args W fun e W'=>∃ v,e = .returned v ∧ Rows.codeFoundSpec.post enc Tryz.prog Tryz.f13 false true false false W args v W':=by
  have hW':=hW
  obtain ⟨p,q,hA0,hV,rfl,hfz,hnd⟩:=hW
  have hA:DataW.TrodAll enc Tryz.prog W 0 (fun _=>true) true Tryz.f13.params.toList args.toList ds p:=hA0
  rw [Tryz.params13] at hA hval
  obtain ⟨v0,vs0,d0,ds0,p0,q0,hargs,rfl,rfl,h0,r0⟩:=trodAll_cons hA
  obtain ⟨v1,vs1,d1,ds1,p1,q1,rfl,rfl,rfl,h1,r1⟩:=trodAll_cons r0
  obtain ⟨v2,vs2,d2,ds2,p2,q2,rfl,rfl,rfl,h2,r2⟩:=trodAll_cons r1
  obtain ⟨rfl,rfl,rfl⟩:=trodAll_nil r2
  obtain rfl:args = #[v0,v1,v2]:=Array.ext' hargs
  obtain ⟨rfl,rfl⟩:=trodVars_none hV
  obtain ⟨cs0,rfl,hsz0⟩:=okWide_struct Tryz.underlying50 (hval 0 50 v0 (by simp) (by simp))
  obtain ⟨fu0,hf0⟩:=h0
  obtain ⟨za0,zb0,zc0,zd0,ze0,zf0,zg0,hcs0⟩:=cells50 hf0
  obtain rfl:cs0 = #[.int .i64 za0,.bool zb0,.int .i64 zc0,.int .i64 zd0,.int .i64 ze0,.int .i64 zf0,.int .i64 zg0]:=Array.ext' hcs0
  obtain ⟨n1,rfl,rfl,rfl,wn1⟩:=open_int Tryz.underlying5 (hval 1 5 v1 (by simp) (by simp)) h1
  obtain ⟨cs2,rfl,hsz2⟩:=okWide_arrayT Tryz.underlying135 (hval 2 135 v2 (by simp) (by simp))
  obtain ⟨fu2,hf2⟩:=h2
  obtain ⟨za2,zb2,zc2,zd2,hcs2,bdza2,bdzb2,bdzc2,bdzd2⟩:=cells135 hf2
  obtain rfl:cs2 = #[.int .u8 za2,.int .u8 zb2,.int .u8 zc2,.int .u8 zd2]:=Array.ext' hcs2
  clear hA0
  simp only [List.append_nil,List.nil_append] at hW'
  refine (found_law ⟨⟨za0,zb0⟩,⟨zc0,zd0,ze0,zf0⟩,zg0⟩ n1 (wf_u8 wn1) za2 zb2 zc2 zd2 bdza2 bdzb2 bdzc2 bdzd2 W hG hT:Calls Tryz.prog 13 #[.agg #[.int .i64 za0,.bool zb0,.int .i64 zc0,.int .i64 zd0,.int .i64 ze0,.int .i64 zf0,.int .i64 zg0],.int .u8 n1,.agg #[.int .u8 za2,.int .u8 zb2,.int .u8 zc2,.int .u8 zd2]] W _).mono fun e W' ⟨he,hk⟩=>?_
  subst he
  have hb:=hk.below
  refine ⟨_,rfl,post_of_below (pa:=p0++p2) (pv:=[]) hW' (fun _ _ _=>(trodAll_cons_mk (shut_bool Tryz.underlying4 _) trodAll_mk0)) (fun sp hsp=>?_) (fun _ _=>rfl) (by simp) hb (ok_one (by kernel_rfl) rfl (okWide_bool_mk Tryz.underlying4 _))⟩
  have:=trodAll_cons_mk ((⟨fu0,staysT rec50 row50 hf0 (fun p hp=>hb.same (DataW.trod_lt fu0 50 _ _ hf0 p hp)) (fun p hp=>hsp p (by simp [hp]))⟩:DataW.Trod enc Tryz.prog W' 0 sp true 50 _ d0 p0)) (trodAll_cons_mk (shut_int (enc:=enc) (P:=Tryz.prog) (w:=W') (base:=0) (spare:=sp) (held:=true) Tryz.underlying5 wn1) (trodAll_cons_mk ((⟨fu2,staysT rec135 row135 hf2 (fun p hp=>hb.same (DataW.trod_lt fu2 135 _ _ hf2 p hp)) (fun p hp=>hsp p (by simp [hp]))⟩:DataW.Trod enc Tryz.prog W' 0 sp true 135 _ d2 p2)) (trodAll_mk0)))
  have h2:DataW.TrodAll enc Tryz.prog W' 0 sp true [50,5,135] [.agg #[.int .i64 za0,.bool zb0,.int .i64 zc0,.int .i64 zd0,.int .i64 ze0,.int .i64 zf0,.int .i64 zg0],.int .u8 n1,.agg #[.int .u8 za2,.int .u8 zb2,.int .u8 zc2,.int .u8 zd2]] [d0,.lit (.int .u8 n1),d2] (p0++p2):=by simpa using this
  exact h2
set_option maxRecDepth 100000 in
theorem lifted (os:Os) (started:os.Started) (H:Type) (enc:TypeId × Value → H) :
    ReturnsInHanded {} Tryz.checked os 13 .any (fun w args=>(Rows.codeFoundSpec.pre enc Tryz.prog Tryz.f13 Rows.codeFoundRow.domain false w args ∧ laidMetH Tryz.prog Rows.codeFoundRow.laid w) ∧ sizedMet enc Tryz.prog Tryz.f13 (OpenSpec.ofChange Rows.codeFoundSpec) false w args)
      (Rows.codeFoundSpec.post enc Tryz.prog Tryz.f13 false true false false):=by
  refine returnsInHanded_of_change_and (C:=Tryz.checked) (X:=fun w _=>laidMetH Tryz.prog Rows.codeFoundRow.laid w) (fun _ _ _ hh h=>h.of_heap hh) ownK started (by kernel_rfl) Tryz.func13
    (ChangeSpec.witness_shaped (enc:=enc) (C:=Tryz.checked) (os:=os) (X:=fun w _=>laidMetH Tryz.prog Rows.codeFoundRow.laid w) false (World.laidAll Tryz.prog os Rows.codeFoundRow.laid) #[.agg #[.int .i64 0,.bool false,.int .i64 0,.int .i64 0,.int .i64 0,.int .i64 0,.int .i64 0],.int .u8 0,.agg #[.int .u8 0,.int .u8 0,.int .u8 0,.int .u8 0]] 8 (World.laidAll_os _ _ _)
      (World.shaped_of_ZipB (by kernel_rfl) (by kernel_rfl)) (by kernel_rfl) (by kernel_rfl) (by kernel_rfl)
      (by rw [MakeChecks.laidMetH_plain _ _ _ (by kernel_rfl)];exact laidMet_laidAll _ (by kernel_rfl) (by kernel_rfl))) ?_
  intro W base args ds gs before hval hW _ _ hL _
  have hl:=of_laid hL
  exact contract H enc W base args ds gs before hval hW hl.1 hl.2
end Go.Proofs.YthhidjfahmcekaaGreatDoor
