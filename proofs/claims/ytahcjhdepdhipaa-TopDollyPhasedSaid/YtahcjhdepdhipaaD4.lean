/- The plain side of the law: nets that are valid, times as digits, the least and the greatest of those that fit. -/
import Derived.Test.YtahcjhdepdhipaaD3
set_option linter.unusedSectionVars false
set_option linter.unusedVariables false
set_option linter.unusedSimpArgs false
namespace Go.Proofs.A1
open Go Go.SL

theorem firstF_cons {x : Int} {r : List Int} (h : firstF (x :: r) = 0) : x = 0 ∧ firstF r = 0 := by
  simp only [firstF] at h
  by_cases e : x ≠ 0
  · rw [if_pos e] at h; exact absurd h e
  · rw [if_neg e] at h; exact ⟨by omega, h⟩
theorem whenF_zero {b : Bool} {e : Int} (he : e ≠ 0) (h : whenF b e = 0) : b = false := by
  cases b with
  | true => exact absurd h he
  | false => rfl
theorem withinF_zero {n l m : Int} (h : withinF n l m = 0) : l ≤ n ∧ n ≤ m := by
  have := whenF_zero (by omega) h
  simp only [Bool.or_eq_false_iff, decide_eq_false_iff_not] at this
  omega
theorem seqF_zero {f : Nat → Int} {n : Nat} : ∀ {d k : Nat}, n - k = d → seqF f k n = 0 → ∀ i, k ≤ i → i < n → f i = 0
  | 0, k, hd, _, i, h1, h2 => by omega
  | d + 1, k, hd, h, i, h1, h2 => by
    rw [seqF_at (by omega)] at h
    by_cases e : f k ≠ 0
    · rw [if_pos e] at h; exact absurd h e
    · rw [if_neg e] at h
      by_cases hi : i = k
      · subst hi; omega
      · exact seqF_zero (d := d) (by omega) h i (by omega) h2
theorem good_of_net {ns : List ByteArray} {es : List Ed} {V : Nat} (h : netF ns es = 0) (hV : ns.length = V) (h4 : V ≤ 4) (hh : ∀ e ∈ es, e.hi ≤ 4) : Good V es := by
  unfold netF at h
  by_cases e1 : firstF [whenF (decide ((ns.length : Int) = 0)) 12, whenF (decide (12 < (ns.length : Int))) 5] ≠ 0
  · rw [if_pos e1] at h; exact absurd h e1
  rw [if_neg e1] at h
  have h1 := firstF_cons (Decidable.not_not.1 e1)
  have h2 := whenF_zero (by omega) h1.1
  simp only [decide_eq_false_iff_not] at h2
  by_cases e2 : seqF (nmF ns) 0 ns.length ≠ 0
  · rw [if_pos e2] at h; exact absurd h e2
  rw [if_neg e2] at h
  by_cases e3 : 24 < (es.length : Int)
  · rw [if_pos e3] at h; omega
  rw [if_neg e3] at h
  refine ⟨by omega, h4, fun e he => ?_⟩
  obtain ⟨i, hi, rfl⟩ := List.getElem_of_mem he
  have h3 := seqF_zero rfl h i (by omega) hi
  simp only [egF, List.getElem?_eq_getElem hi] at h3
  unfold edgeF at h3
  obtain ⟨a1, h3⟩ := firstF_cons h3
  obtain ⟨a2, h3⟩ := firstF_cons h3
  obtain ⟨a3, h3⟩ := firstF_cons h3
  obtain ⟨a4, h3⟩ := firstF_cons h3
  obtain ⟨a5, h3⟩ := firstF_cons h3
  obtain ⟨a6, _⟩ := firstF_cons h3
  have b1 := whenF_zero (by omega) a1
  have b2 := whenF_zero (by omega) a2
  have b3 := whenF_zero (by omega) a3
  have b4 := withinF_zero a4
  have b5 := withinF_zero a5
  have b6 := whenF_zero (by omega) a6
  simp only [Bool.or_eq_false_iff, decide_eq_false_iff_not] at b1 b2 b3 b6
  have := hh _ he
  omega

/-- the times of a code: its digits -/
def dg (c i : Nat) : Int := if i = 0 then 0 else ((c / 13 ^ (i - 1) % 13 : Nat) : Int)
theorem dg_bd (c i : Nat) : 0 ≤ dg c i ∧ dg c i ≤ 12 := by
  unfold dg
  split
  · omega
  · have := Nat.mod_lt (c / 13 ^ (i - 1)) (show 0 < 13 by omega); omega
theorem dg_all {V : Nat} (h0 : 0 < V) (h4 : V ≤ 4) {t : Nat → Int} (ht0 : t 0 = 0) (hl : ∀ x < V, 0 ≤ t x) (hh : ∀ x < V, t x ≤ 12) : ∃ c, c < 13 ^ (V - 1) ∧ ∀ x < V, dg c x = t x := by
  have hx : V = 1 ∨ V = 2 ∨ V = 3 ∨ V = 4 := by omega
  rcases hx with rfl | rfl | rfl | rfl
  · refine ⟨0, by decide, fun x hx => ?_⟩
    obtain rfl : x = 0 := by omega
    rw [ht0]; rfl
  · have a1 := hl 1 (by omega); have b1 := hh 1 (by omega)
    refine ⟨(t 1).toNat, by show _ < 13; omega, fun x hx => ?_⟩
    obtain rfl | rfl : x = 0 ∨ x = 1 := by omega
    · rw [ht0]; rfl
    · show (((t 1).toNat / 1 % 13 : Nat) : Int) = t 1; omega
  · have a1 := hl 1 (by omega); have b1 := hh 1 (by omega); have a2 := hl 2 (by omega); have b2 := hh 2 (by omega)
    refine ⟨(t 1).toNat + 13 * (t 2).toNat, by show _ < 169; omega, fun x hx => ?_⟩
    obtain rfl | rfl | rfl : x = 0 ∨ x = 1 ∨ x = 2 := by omega
    · rw [ht0]; rfl
    · show ((((t 1).toNat + 13 * (t 2).toNat) / 1 % 13 : Nat) : Int) = t 1; omega
    · show ((((t 1).toNat + 13 * (t 2).toNat) / 13 % 13 : Nat) : Int) = t 2; omega
  · have a1 := hl 1 (by omega); have b1 := hh 1 (by omega); have a2 := hl 2 (by omega); have b2 := hh 2 (by omega); have a3 := hl 3 (by omega); have b3 := hh 3 (by omega)
    refine ⟨(t 1).toNat + 13 * (t 2).toNat + 169 * (t 3).toNat, by show _ < 2197; omega, fun x hx => ?_⟩
    obtain rfl | rfl | rfl | rfl : x = 0 ∨ x = 1 ∨ x = 2 ∨ x = 3 := by omega
    · rw [ht0]; rfl
    · show ((((t 1).toNat + 13 * (t 2).toNat + 169 * (t 3).toNat) / 1 % 13 : Nat) : Int) = t 1; omega
    · show ((((t 1).toNat + 13 * (t 2).toNat + 169 * (t 3).toNat) / 13 % 13 : Nat) : Int) = t 2; omega
    · show ((((t 1).toNat + 13 * (t 2).toNat + 169 * (t 3).toNat) / 169 % 13 : Nat) : Int) = t 3; omega

def okE (t : Nat → Int) (e : Ed) : Bool := decide (e.lo ≤ t e.t.toNat - t e.f.toNat) && decide (t e.t.toNat - t e.f.toNat ≤ e.hi)
def fitsB (es : List Ed) (t : Nat → Int) : Bool := es.all (okE t)
theorem fits_iff {V : Nat} {es : List Ed} {t : Nat → Int} (h0 : t 0 = 0) (hl : ∀ x < V, 0 ≤ t x) : fitsB es t = true ↔ Fits V es t := by
  unfold fitsB
  rw [List.all_eq_true]
  constructor
  · intro h
    refine ⟨h0, hl, fun e he => ?_⟩
    have := h e he
    simp only [okE, Bool.and_eq_true, decide_eq_true_eq] at this
    exact this
  · intro h e he
    have := h.ed e he
    simp only [okE, Bool.and_eq_true, decide_eq_true_eq]
    exact this
theorem fitsB_congr {V : Nat} {es : List Ed} (g : Good V es) {t u : Nat → Int} (h : ∀ x < V, t x = u x) : fitsB es t = fitsB es u := by
  unfold fitsB
  rw [Bool.eq_iff_iff, List.all_eq_true, List.all_eq_true]
  have key : ∀ e ∈ es, okE t e = okE u e := fun e he => by
    have := g.ed e he
    unfold okE; rw [h _ (by omega), h _ (by omega)]
  exact ⟨fun hh e he => key e he ▸ hh e he, fun hh e he => (key e he).symm ▸ hh e he⟩

/-- the least and the greatest times of the first codes that fit -/
def acc (es : List Ed) : Nat → Option ((Nat → Int) × (Nat → Int))
  | 0 => none
  | c + 1 => if fitsB es (dg c) then some (match acc es c with
    | none => (dg c, dg c)
    | some x => (fun i => min (x.1 i) (dg c i), fun i => max (x.2 i) (dg c i))) else acc es c
theorem acc_none {es : List Ed} : ∀ {c : Nat}, acc es c = none → ∀ d < c, fitsB es (dg d) = false
  | 0, _, d, hd => by omega
  | c + 1, h, d, hd => by
    simp only [acc] at h
    split at h
    · cases h
    · rename_i hf
      by_cases e : d = c
      · subst e; simpa using hf
      · exact acc_none h d (by omega)
theorem acc_some {es : List Ed} : ∀ {c : Nat} {x : (Nat → Int) × (Nat → Int)}, acc es c = some x → ∀ i, (∃ d < c, fitsB es (dg d) = true ∧ dg d i = x.1 i) ∧ (∃ d < c, fitsB es (dg d) = true ∧ dg d i = x.2 i) ∧ ∀ d < c, fitsB es (dg d) = true → x.1 i ≤ dg d i ∧ dg d i ≤ x.2 i
  | 0, x, h, i => by cases h
  | c + 1, x, h, i => by
    simp only [acc] at h
    split at h
    · rename_i hf
      simp only [Option.some.injEq] at h
      cases hc : acc es c with
      | none =>
        rw [hc] at h; subst h
        refine ⟨⟨c, by omega, hf, rfl⟩, ⟨c, by omega, hf, rfl⟩, fun d hd hfd => ?_⟩
        by_cases e : d = c
        · subst e; exact ⟨Int.le_refl _, Int.le_refl _⟩
        · rw [acc_none hc d (by omega)] at hfd; cases hfd
      | some y =>
        rw [hc] at h; subst h
        obtain ⟨⟨d1, h1, f1, e1⟩, ⟨d2, h2, f2, e2⟩, h3⟩ := acc_some hc i
        refine ⟨?_, ?_, fun d hd hfd => ?_⟩
        · show ∃ d < c + 1, fitsB es (dg d) = true ∧ dg d i = min (y.1 i) (dg c i)
          by_cases e : y.1 i ≤ dg c i
          · exact ⟨d1, by omega, f1, by omega⟩
          · exact ⟨c, by omega, hf, by omega⟩
        · show ∃ d < c + 1, fitsB es (dg d) = true ∧ dg d i = max (y.2 i) (dg c i)
          by_cases e : dg c i ≤ y.2 i
          · exact ⟨d2, by omega, f2, by omega⟩
          · exact ⟨c, by omega, hf, by omega⟩
        · show min (y.1 i) (dg c i) ≤ dg d i ∧ dg d i ≤ max (y.2 i) (dg c i)
          by_cases e : d = c
          · subst e; omega
          · have := h3 d (by omega) hfd; omega
    · rename_i hf
      obtain ⟨⟨d1, h1, f1, e1⟩, ⟨d2, h2, f2, e2⟩, h3⟩ := acc_some h i
      refine ⟨⟨d1, by omega, f1, e1⟩, ⟨d2, by omega, f2, e2⟩, fun d hd hfd => ?_⟩
      by_cases e : d = c
      · subst e; exact absurd hfd hf
      · exact h3 d (by omega) hfd

section
variable {V : Nat} {es : List Ed}
theorem dg_fits {c : Nat} : fitsB es (dg c) = true ↔ Fits V es (dg c) := fits_iff rfl fun x _ => (dg_bd c x).1
theorem law_none (g : Good V es) {g0 : Nat} (h : (longest (lvs es V) V 0).2 = some g0) : acc es (13 ^ (V - 1)) = none := by
  cases ha : acc es (13 ^ (V - 1)) with
  | none => rfl
  | some x =>
    obtain ⟨⟨d, _, hf, _⟩, _⟩ := acc_some ha 0
    have := rests g (dg_fits.1 hf) g.pos
    rw [this] at h; cases h
theorem law_some (g : Good V es) (h : (longest (lvs es V) V 0).2 = none) : ∃ x, acc es (13 ^ (V - 1)) = some x ∧ ∀ i < V, x.1 i = times (longest (lvs es V) V 0).1 i ∧ ∀ L, (longest (lvs es V) V i).1.lab 0 = some L → x.2 i = -L := by
  obtain ⟨hfit, h12, _⟩ := labels g h
  obtain ⟨c, hc, hdc⟩ := dg_all g.pos g.most hfit.zero (fun x hx => hfit.low x hx) h12
  cases ha : acc es (13 ^ (V - 1)) with
  | none =>
    have h1 := acc_none ha c hc
    have h2 : fitsB es (dg c) = true := by rw [fitsB_congr g hdc]; exact (fits_iff hfit.zero hfit.low).2 hfit
    rw [h1] at h2; cases h2
  | some x =>
    refine ⟨x, rfl, fun i hi => ?_⟩
    obtain ⟨⟨d1, q1, f1, e1⟩, ⟨d2, q2, f2, e2⟩, h3⟩ := acc_some ha i
    constructor
    · have a1 := h3 c hc (by rw [fitsB_congr g hdc]; exact (fits_iff hfit.zero hfit.low).2 hfit)
      rw [hdc i hi] at a1
      obtain ⟨y, hy⟩ : ∃ y, (longest (lvs es V) V 0).1.lab i = some y := Option.ne_none_iff_exists'.1 ((labels g h).2.2 i hi)
      have a2 := least_le g (dg_fits.1 f1) g.pos hi hy
      have a3 : times (longest (lvs es V) V 0).1 i = y := by simp [times, hy]
      have a4 : dg d1 0 = 0 := rfl
      omega
    · intro L hL
      obtain ⟨t, ht, ht12, htm⟩ := greatest g h hi hL
      obtain ⟨c', hc', hdc'⟩ := dg_all g.pos g.most ht.zero (fun x hx => ht.low x hx) ht12
      have a1 := h3 c' hc' (by rw [fitsB_congr g hdc']; exact (fits_iff ht.zero ht.low).2 ht)
      rw [hdc' i hi] at a1
      have a2 := below_greatest g hi hL (dg_fits.1 f2)
      omega
end
end Go.Proofs.A1
