/- The plain side of 'Loop': the arcs of a loop. -/
import Derived.Test.YtahcjhdepdhipaaC9
set_option linter.unusedSectionVars false
set_option linter.unusedVariables false
set_option linter.unusedSimpArgs false
namespace Go.Proofs.A1
open Go Go.SL

def arcAt (s : S) (v : Nat) : A := (s.par v).getD ⟨(0, false, 0), 0, 0, 0⟩
theorem back_arc (s : S) {v : Nat} (h : s.par v ≠ none) : back s v = (arcAt s v).u := by
  unfold back arcAt
  cases hp : s.par v with
  | none => exact absurd hp h
  | some a => rfl
theorem backs_succ (s : S) (k v : Nat) : backs s (k + 1) v = back s (backs s k v) := by
  rw [backs_add]; rfl
theorem sums_range (s : S) : ∀ k v, (∀ i < k, s.par (backs s i v) ≠ none) → sums s k v = ((List.range k).map fun i => (arcAt s (backs s i v)).w).sum
  | 0, v, _ => rfl
  | k + 1, v, h => by
    have h0 : s.par v ≠ none := h 0 (by omega)
    have ih := sums_range s k (back s v) (fun i hi => h (i + 1) (by omega))
    rw [List.range_succ_eq_map, List.map_cons, List.map_map, List.sum_cons]
    show sums s (k + 1) v = _
    have e : sums s (k + 1) v = (arcAt s v).w + sums s k (back s v) := by
      have e0 : sums s (k + 1) v = (match s.par v with | some a => a.w | none => 0) + sums s k (back s v) := rfl
      rw [e0]; unfold arcAt
      cases hp : s.par v with
      | none => exact absurd hp h0
      | some a => rfl
    rw [e, ih]
    rfl
theorem tab_succ (n : Nat) (f : Nat → List Value) : tab (n + 1) f = tab n f ++ f n := by
  simp [tab, List.range_succ]

/-- the arcs of a loop of so many ways back, in their order -/
def loopA (s : S) (b M : Nat) : List A := (List.range M).map fun i => arcAt s (backs s (M - 1 - i) b)
theorem loopA_length (s : S) (b M : Nat) : (loopA s b M).length = M := by simp [loopA]
theorem loopA_get (s : S) (b M k : Nat) (h : k < M) : (loopA s b M)[k]? = some (arcAt s (backs s (M - 1 - k) b)) := by simp [loopA, h]
theorem loopA_cells (s : S) (b M : Nat) : (arcsL (loopA s b M)).flatten = tab M (fun i => arcL (arcAt s (backs s (M - 1 - i) b)).id) := by
  simp [arcsL, loopA, tab, List.map_map]; rfl
theorem sumW_rev (f : Nat → Int) : ∀ M : Nat, ((List.range M).map fun i => f (M - 1 - i)).sum = ((List.range M).map f).sum
  | 0 => rfl
  | M + 1 => by
    rw [List.range_succ_eq_map, List.map_cons, List.map_map, List.sum_cons]
    have := sumW_rev f M
    have e : (List.range M).map ((fun i => f (M + 1 - 1 - i)) ∘ Nat.succ) = (List.range M).map fun i => f (M - 1 - i) := by
      apply List.map_congr_left
      intro i _
      show f (M + 1 - 1 - (i + 1)) = _
      congr 1; omega
    rw [e, this, ← List.range_succ_eq_map, List.range_succ, List.map_append, List.sum_append]
    simp only [Nat.add_sub_cancel, Nat.sub_zero, List.map_cons, List.map_nil, List.sum_cons, List.sum_nil]
    omega
section
variable {V : Nat} {es : List Ed} {f r : Nat} {s : S}
theorem arcAt_ok (hi : Inv (lvs es V) V f r s) {v : Nat} (h : s.par v ≠ none) : arcAt s v ∈ lvs es V (arcAt s v).u ∧ (arcAt s v).u < V ∧ (arcAt s v).v = v ∧ ∃ y, s.lab v = some y ∧ s.par v = some (arcAt s v) := by
  unfold arcAt
  cases hp : s.par v with
  | none => exact absurd hp h
  | some a =>
    obtain ⟨h1, h2, h3, _, _, x, y, _, hy, _⟩ := hi.par v a hp
    exact ⟨h1, h2, h3, y, hy, rfl⟩
theorem loopA_ok (hi : Inv (lvs es V) V f r s) {b M : Nat} (hM : 0 < M) (hp : ∀ i < M, s.par (backs s i b) ≠ none) (hb : backs s M b = b) :
    InNet V es (loopA s b M) ∧ (∀ (k : Nat) a, (loopA s b M)[k]? = some a → (a.u : Int) = atF (loopA s b M) k) ∧ 0 < sumW (loopA s b M) := by
  refine ⟨?_, ?_, ?_⟩
  · intro a ha
    obtain ⟨i, hi', rfl⟩ := List.mem_map.1 ha
    have := arcAt_ok hi (hp (M - 1 - i) (by omega))
    exact ⟨this.1, this.2.1⟩
  · intro k a hk
    have hlt : k < M := by
      have := (List.getElem?_eq_some_iff.1 hk).1
      rwa [loopA_length] at this
    rw [loopA_get s b M k hlt] at hk
    cases hk
    have hu : (arcAt s (backs s (M - 1 - k) b)).u = backs s (M - k) b := by
      rw [← back_arc s (hp _ (by omega)), ← backs_succ]
      congr 1; omega
    rw [hu]
    cases k with
    | zero =>
      simp only [atF, loopA_length]
      rw [loopA_get s b M (M - 1) (by omega)]
      simp only
      rw [(arcAt_ok hi (hp _ (by omega))).2.2.1]
      rw [show M - 1 - (M - 1) = 0 by omega, Nat.sub_zero, hb]; rfl
    | succ k =>
      simp only [atF]
      rw [loopA_get s b M k (by omega)]
      simp only
      rw [(arcAt_ok hi (hp _ (by omega))).2.2.1]
      congr 2; omega
  · have h1 := loop_pos hi hM hp hb
    rw [sums_range s M b hp] at h1
    have h2 := sumW_rev (fun i => (arcAt s (backs s i b)).w) M
    have h3 : sumW (loopA s b M) = ((List.range M).map fun i => (arcAt s (backs s (M - 1 - i) b)).w).sum := by
      simp [sumW, loopA, List.map_map]; rfl
    rw [h3, h2]; exact h1
/-- the least way round -/
theorem period {g : Nat → Prop} {V : Nat} (h : ∃ k, 0 < k ∧ k ≤ V ∧ g k) : ∃ M, 0 < M ∧ M ≤ V ∧ g M ∧ ∀ j, 0 < j → j < M → ¬ g j := by
  obtain ⟨k, h0, h1, h2⟩ := h
  induction k using Nat.strongRecOn with
  | _ k ih =>
    by_cases h : ∃ j, 0 < j ∧ j < k ∧ g j
    · obtain ⟨j, a, b, c⟩ := h
      exact ih j b a (by omega) c
    · exact ⟨k, h0, h1, h2, fun j a b c => h ⟨j, a, b, c⟩⟩
end
end Go.Proofs.A1
