/- Parts of the proof: X13a. -/
import Derived.Test.YtfbgbipclgljaaaGreatDoorTM20
import Derived.Test.YtfbgbipclgljaaaGreatDoorTM21
import Derived.Test.YtfbgbipclgljaaaGreatDoorTM26
set_option linter.unusedSectionVars false
set_option linter.unusedVariables false
set_option linter.unusedSimpArgs false
/- X13a -/
/- ScheduleLate returns true at every input, and its arguments read as they did. -/
namespace Go.Proofs.YtfbgbipclgljaaaGreatDoor
open Go Go.SL Go.Proofs.A1 Go.ChangeShapes Go.WideShapes Go.ChangeAt Go.RowKit Go.Joins

theorem rec115 : Tryz.prog.readableRec 115 = true := by kernel_rfl
theorem row115 : (115 : TypeId) < Tryz.prog.types.size := of_decide_eq_true (by kernel_rfl)
theorem rec176 : Tryz.prog.readableRec 176 = true := by kernel_rfl
theorem row176 : (176 : TypeId) < Tryz.prog.types.size := of_decide_eq_true (by kernel_rfl)
section
variable {H : Type} {enc : TypeId × Value → H} {w : World}
theorem c176 : Tryz.prog.cellsOf 176 = 2 := by kernel_rfl
theorem c175 : Tryz.prog.cellsOf 175 = 1 := by kernel_rfl
theorem wf16 {n : Int} (h : (Lit.int .u16 n).wf = true) : 0 ≤ n ∧ n ≤ 65535 := by
  simpa [Lit.wf, IntKind.min, IntKind.max, IntKind.signed, IntKind.bits] using h
theorem cells176 {n : Nat} {cs : List Value} {x : DataW H × List MemPlace} (h : DataW.trod enc Tryz.prog w 0 (fun _ => true) true n 176 cs = some x) : ∃ a0 a1 : Int, cs = [.int .u16 a0, .int .u16 a1] ∧ (0 ≤ a0 ∧ a0 ≤ 65535) ∧ (0 ≤ a1 ∧ a1 ≤ 65535) := by
  obtain ⟨ys, n0, _, _, hlen, hyl, hf⟩ := DataW.trod_array Tryz.underlying176 h
  rw [c176] at hlen
  obtain ⟨k0, k1, rfl⟩ := list2 hlen
  have key : ∀ i, i < 2 → DataW.trod enc Tryz.prog w 0 (fun _ => true) true n0 175 (List.take 1 (List.drop i [k0, k1])) = ys[i]? := fun i hi => by
    have := hf i hi
    rwa [c175, Nat.mul_one] at this
  have f0 := key 0 (by omega)
  have f1 := key 1 (by omega)
  rw [List.getElem?_eq_getElem (by omega)] at f0 f1
  obtain ⟨b0, e0, _, w0⟩ := DataW.trod_int Tryz.underlying175 f0
  obtain ⟨b1, e1, _, w1⟩ := DataW.trod_int Tryz.underlying175 f1
  simp at e0 e1
  subst e0 e1
  exact ⟨b0, b1, rfl, wf16 w0, wf16 w1⟩
end
theorem okWide_arrayT {P : Program} {w : World} {r : Reach} {base : Nat} {t : TypeId} {v : Value} {n : Nat} {e : TypeId} (ht : P.underlying t = some (.array n e)) (h : Value.okWide P w r base t v) : ∃ cs, v = .agg cs ∧ cs.size = P.cellsOf t := by
  simp only [Value.okWide, ht] at h
  obtain ⟨cs, h1, h2, _⟩ := h
  exact ⟨cs, h1, h2⟩
set_option maxRecDepth 100000 in
theorem contract (H : Type) (enc : TypeId × Value → H) (W : World) (base : Nat) (args : Array Value) (ds gs : List (DataW H)) (before : List MemPlace)
    (hval : ∀ (j : Nat) t v, Tryz.f15.params[j]? = some t → args[j]? = some v → Value.okWide Tryz.prog W .any base t v)
    (hW : DataW.Whole enc Tryz.prog Tryz.f15.params.toList Rows.scheduleLateSpec.vars false W args.toList ds gs before) (hG : Glob W) (hT : Tab10 W) :
    Calls Tryz.prog 15 args W fun e W' => ∃ v, e = .returned v ∧ Rows.scheduleLateSpec.post enc Tryz.prog Tryz.f15 false true false false W args v W' := by
  have hW' := hW
  obtain ⟨p, q, hA0, hV, rfl, hfz, hnd⟩ := hW
  have hA : DataW.TrodAll enc Tryz.prog W 0 (fun _ => true) true Tryz.f15.params.toList args.toList ds p := hA0
  rw [Tryz.params15] at hA hval
  obtain ⟨v0, vs0, d0, ds0, p0, q0, hargs, rfl, rfl, h0, r0⟩ := trodAll_cons hA
  obtain ⟨v1, vs1, d1, ds1, p1, q1, rfl, rfl, rfl, h1, r1⟩ := trodAll_cons r0
  obtain ⟨v2, vs2, d2, ds2, p2, q2, rfl, rfl, rfl, h2, r2⟩ := trodAll_cons r1
  obtain ⟨rfl, rfl, rfl⟩ := trodAll_nil r2
  obtain rfl : args = #[v0, v1, v2] := Array.ext' hargs
  obtain ⟨rfl, rfl⟩ := trodVars_none hV
  obtain ⟨cs0, rfl, hsz0⟩ := okWide_struct Tryz.underlying24 (hval 0 24 v0 (by simp) (by simp))
  obtain ⟨sv0, rfl⟩ : ∃ sv, cs0 = #[sv] := by
    have h2 : cs0.size = 1 := hsz0.trans c24
    obtain ⟨l⟩ := cs0
    match l, h2 with
    | [x], _ => exact ⟨x, rfl⟩
  obtain ⟨fu0, hf0⟩ := h0
  obtain ⟨es0, hes0⟩ := open_sched hf0
  obtain ⟨cs1, rfl, hsz1⟩ := okWide_arrayT Tryz.underlying176 (hval 1 176 v1 (by simp) (by simp))
  obtain ⟨fu1, hf1⟩ := h1
  obtain ⟨ra1, rb1, hcs1, hra1, hrb1⟩ := cells176 hf1
  obtain rfl : cs1 = #[.int .u16 ra1, .int .u16 rb1] := Array.ext' hcs1
  obtain ⟨cs2, rfl, hsz2⟩ := okWide_struct Tryz.underlying115 (hval 2 115 v2 (by simp) (by simp))
  obtain ⟨fu2, hf2⟩ := h2
  obtain ⟨en2, hcs2⟩ := ent_cells hf2
  obtain rfl : cs2 = en2.cells.toArray := Array.ext' hcs2
  clear hA0
  simp only [List.append_nil, List.nil_append] at hW'
  refine (late_law hes0 hra1 hrb1 (x := en2) hG hT : Calls Tryz.prog 15 #[.agg #[sv0], .agg #[.int .u16 ra1, .int .u16 rb1], .agg en2.cells.toArray] W _).mono fun e W' ⟨he, hk⟩ => ?_
  subst he
  have hb := hk.below
  refine ⟨_, rfl, post_of_below (pa := p0 ++ (p1 ++ p2)) (pv := []) hW' (fun _ _ _ => (trodAll_cons_mk (shut_bool Tryz.underlying4 _) trodAll_mk0)) (fun sp hsp => ?_) (fun _ _ => rfl) (by simp) hb (ok_one (by kernel_rfl) rfl (okWide_bool_mk Tryz.underlying4 _))⟩
  have := trodAll_cons_mk ((⟨fu0, staysT rec24 row24 hf0 (fun p hp => hb.same (DataW.trod_lt fu0 24 _ _ hf0 p hp)) (fun p hp => hsp p (by simp [hp]))⟩ : DataW.Trod enc Tryz.prog W' 0 sp true 24 _ d0 p0)) (trodAll_cons_mk ((⟨fu1, staysT rec176 row176 hf1 (fun p hp => hb.same (DataW.trod_lt fu1 176 _ _ hf1 p hp)) (fun p hp => hsp p (by simp [hp]))⟩ : DataW.Trod enc Tryz.prog W' 0 sp true 176 _ d1 p1)) (trodAll_cons_mk ((⟨fu2, staysT rec115 row115 hf2 (fun p hp => hb.same (DataW.trod_lt fu2 115 _ _ hf2 p hp)) (fun p hp => hsp p (by simp [hp]))⟩ : DataW.Trod enc Tryz.prog W' 0 sp true 115 _ d2 p2)) (trodAll_mk0)))
  have h2 : DataW.TrodAll enc Tryz.prog W' 0 sp true [24, 176, 115] [.agg #[sv0], .agg #[.int .u16 ra1, .int .u16 rb1], .agg en2.cells.toArray] [d0, d1, d2] (p0 ++ (p1 ++ p2)) := by simpa using this
  exact h2

set_option maxRecDepth 100000 in
theorem lifted (os : Os) (started : os.Started) (H : Type) (enc : TypeId × Value → H) :
    ReturnsInHanded {} Tryz.checked os 15 .any (fun w args => (Rows.scheduleLateSpec.pre enc Tryz.prog Tryz.f15 Rows.scheduleLateRow.domain false w args ∧ laidMetH Tryz.prog Rows.scheduleLateRow.laid w) ∧ sizedMet enc Tryz.prog Tryz.f15 (OpenSpec.ofChange Rows.scheduleLateSpec) false w args)
      (Rows.scheduleLateSpec.post enc Tryz.prog Tryz.f15 false true false false) := by
  refine returnsInHanded_of_change_and (C := Tryz.checked) (X := fun w _ => laidMetH Tryz.prog Rows.scheduleLateRow.laid w) (fun _ _ _ hh h => h.of_heap hh) ownK started (by kernel_rfl) Tryz.func15
    (ChangeSpec.witness_shaped (enc := enc) (C := Tryz.checked) (os := os) (X := fun w _ => laidMetH Tryz.prog Rows.scheduleLateRow.laid w) false (World.laidAll Tryz.prog os Rows.scheduleLateRow.laid) #[.agg #[.slice none 0 0], .agg #[.int .u16 0, .int .u16 0], .agg #[.string .empty, .string .empty, .string .empty, .int .i64 0, .int .i64 0, .int .i64 0]] 8 (World.laidAll_os _ _ _)
      (World.shaped_of_ZipB (by kernel_rfl) (by kernel_rfl)) (by kernel_rfl) (by kernel_rfl) (by kernel_rfl)
      (by rw [MakeChecks.laidMetH_plain _ _ _ (by kernel_rfl)]; exact laidMet_laidAll _ (by kernel_rfl) (by kernel_rfl))) ?_
  intro W base args ds gs before hval hW _ _ hL _
  have hl := of_laid hL
  exact contract H enc W base args ds gs before hval hW hl.1 hl.2

end Go.Proofs.YtfbgbipclgljaaaGreatDoor

