/- Parts of the proof: SOpen S73p S80p S81 GkRegM. -/
import Derived.Test.YtfbgbipclgljaaaGreatDoorBM19
import Derived.Test.YtfbgbipclgljaaaGreatDoorBM10
import Derived.Test.YtfbgbipclgljaaaGreatDoorBM11
import Derived.Test.YtfbgbipclgljaaaGreatDoorBM09
import Derived.Test.YtfbgbipclgljaaaGreatDoorBM06
import Derived.Test.YtfbgbipclgljaaaGreatDoorBM12
set_option linter.unusedSectionVars false
set_option linter.unusedVariables false
set_option linter.unusedSimpArgs false
/- SOpen -/
/- The arguments of the laws: what their cells are. -/
namespace Go.Proofs.A1
open Go Go.SL Go.ChangeShapes Go.WideShapes Go.Deep Go.Joins

section
variable {H : Type} {enc : TypeId × Value → H} {w : World}
theorem list2 {α : Type} : ∀ {l : List α}, l.length = 2 → ∃ a b, l = [a, b]
  | [a, b], _ => ⟨a, b, rfl⟩
theorem list4 {α : Type} : ∀ {l : List α}, l.length = 4 → ∃ a b c d, l = [a, b, c, d]
  | [a, b, c, d], _ => ⟨a, b, c, d, rfl⟩
theorem c4 : Tryz.prog.cellsOf 4 = 1 := by kernel_rfl
theorem c132 : Tryz.prog.cellsOf 132 = 4 := by kernel_rfl
theorem cells132 {n : Nat} {cs : List Value} {x : DataW H × List MemPlace} (h : DataW.trod enc Tryz.prog w 0 (fun _ => true) true n 132 cs = some x) : ∃ (a0 : ByteArray) (a1 : Int) (a2 : Int) (a3 : Int), cs = [.string a0, .int .i64 a1, .int .i64 a2, .int .i64 a3] := by
  obtain ⟨ys, n0, _, _, hlen, hyl, hf⟩ := DataW.trod_struct Tryz.underlying132 h
  rw [c132] at hlen
  have hyl0 : ys.length = 4 := hyl
  obtain ⟨k0, k1, k2, k3, rfl⟩ := list4 hlen
  have f0_0 : DataW.trod enc Tryz.prog w 0 (fun _ => true) true n0 9 (List.take (Tryz.prog.cellsOf 9) (List.drop 0 [k0, k1, k2, k3])) = ys[0]? := hf 0 _ rfl
  rw [c9, List.getElem?_eq_getElem (by omega)] at f0_0
  obtain ⟨b0, eb0, _, _⟩ := DataW.trod_string Tryz.underlying9 f0_0
  simp at eb0
  have f0_1 : DataW.trod enc Tryz.prog w 0 (fun _ => true) true n0 3 (List.take (Tryz.prog.cellsOf 3) (List.drop 1 [k0, k1, k2, k3])) = ys[1]? := hf 1 _ rfl
  rw [c3, List.getElem?_eq_getElem (by omega)] at f0_1
  obtain ⟨b1, eb1, _, _⟩ := DataW.trod_int Tryz.underlying3 f0_1
  simp at eb1
  have f0_2 : DataW.trod enc Tryz.prog w 0 (fun _ => true) true n0 3 (List.take (Tryz.prog.cellsOf 3) (List.drop 2 [k0, k1, k2, k3])) = ys[2]? := hf 2 _ rfl
  rw [c3, List.getElem?_eq_getElem (by omega)] at f0_2
  obtain ⟨b2, eb2, _, _⟩ := DataW.trod_int Tryz.underlying3 f0_2
  simp at eb2
  have f0_3 : DataW.trod enc Tryz.prog w 0 (fun _ => true) true n0 3 (List.take (Tryz.prog.cellsOf 3) (List.drop 3 [k0, k1, k2, k3])) = ys[3]? := hf 3 _ rfl
  rw [c3, List.getElem?_eq_getElem (by omega)] at f0_3
  obtain ⟨b3, eb3, _, _⟩ := DataW.trod_int Tryz.underlying3 f0_3
  simp at eb3
  subst eb0 eb1 eb2 eb3
  exact ⟨b0, b1, b2, b3, rfl⟩
theorem c83 : Tryz.prog.cellsOf 83 = 4 := by kernel_rfl
theorem c80 : Tryz.prog.cellsOf 80 = 1 := by kernel_rfl
theorem c44 : Tryz.prog.cellsOf 44 = 1 := by kernel_rfl
theorem c81 : Tryz.prog.cellsOf 81 = 1 := by kernel_rfl
theorem cells83 {n : Nat} {cs : List Value} {x : DataW H × List MemPlace} (h : DataW.trod enc Tryz.prog w 0 (fun _ => true) true n 83 cs = some x) : ∃ (a0 : Int) (a1 : Value) (a2 : Value) (a3 : Value), cs = [.int .i64 a0, a1, a2, a3] ∧ (∃ (m : Nat) (y : DataW H × List MemPlace), DataW.trod enc Tryz.prog w 0 (fun _ => true) true m 80 [a1] = some y) ∧ (∃ (m : Nat) (y : DataW H × List MemPlace), DataW.trod enc Tryz.prog w 0 (fun _ => true) true m 44 [a2] = some y) ∧ (∃ (m : Nat) (y : DataW H × List MemPlace), DataW.trod enc Tryz.prog w 0 (fun _ => true) true m 81 [a3] = some y) := by
  obtain ⟨ys, n0, _, _, hlen, hyl, hf⟩ := DataW.trod_struct Tryz.underlying83 h
  rw [c83] at hlen
  have hyl0 : ys.length = 4 := hyl
  obtain ⟨k0, k1, k2, k3, rfl⟩ := list4 hlen
  have f0_0 : DataW.trod enc Tryz.prog w 0 (fun _ => true) true n0 3 (List.take (Tryz.prog.cellsOf 3) (List.drop 0 [k0, k1, k2, k3])) = ys[0]? := hf 0 _ rfl
  rw [c3, List.getElem?_eq_getElem (by omega)] at f0_0
  obtain ⟨b0, eb0, _, _⟩ := DataW.trod_int Tryz.underlying3 f0_0
  simp at eb0
  have f0_1 : DataW.trod enc Tryz.prog w 0 (fun _ => true) true n0 80 (List.take (Tryz.prog.cellsOf 80) (List.drop 1 [k0, k1, k2, k3])) = ys[1]? := hf 1 _ rfl
  rw [c80, List.getElem?_eq_getElem (by omega)] at f0_1
  have f0_2 : DataW.trod enc Tryz.prog w 0 (fun _ => true) true n0 44 (List.take (Tryz.prog.cellsOf 44) (List.drop 2 [k0, k1, k2, k3])) = ys[2]? := hf 2 _ rfl
  rw [c44, List.getElem?_eq_getElem (by omega)] at f0_2
  have f0_3 : DataW.trod enc Tryz.prog w 0 (fun _ => true) true n0 81 (List.take (Tryz.prog.cellsOf 81) (List.drop 3 [k0, k1, k2, k3])) = ys[3]? := hf 3 _ rfl
  rw [c81, List.getElem?_eq_getElem (by omega)] at f0_3
  subst eb0
  exact ⟨b0, k1, k2, k3, rfl, ⟨_, _, by simpa using f0_1⟩, ⟨_, _, by simpa using f0_2⟩, ⟨_, _, by simpa using f0_3⟩⟩
theorem c121 : Tryz.prog.cellsOf 121 = 2 := by kernel_rfl
theorem cells121 {n : Nat} {cs : List Value} {x : DataW H × List MemPlace} (h : DataW.trod enc Tryz.prog w 0 (fun _ => true) true n 121 cs = some x) : ∃ a0 a1 : Int, cs = [.int .i64 a0, .int .i64 a1] := by
  obtain ⟨ys, n0, _, _, hlen, hyl, hf⟩ := DataW.trod_array Tryz.underlying121 h
  rw [c121] at hlen
  obtain ⟨k0, k1, rfl⟩ := list2 hlen
  have key : ∀ i, i < 2 → DataW.trod enc Tryz.prog w 0 (fun _ => true) true n0 3 (List.take 1 (List.drop i [k0, k1])) = ys[i]? := fun i hi => by
    have := hf i hi
    rwa [c3, Nat.mul_one] at this
  have f0 := key 0 (by omega)
  have f1 := key 1 (by omega)
  rw [List.getElem?_eq_getElem (by omega)] at f0 f1
  obtain ⟨b0, e0, _, _⟩ := DataW.trod_int Tryz.underlying3 f0
  obtain ⟨b1, e1, _, _⟩ := DataW.trod_int Tryz.underlying3 f1
  simp at e0 e1
  subst e0 e1
  exact ⟨b0, b1, rfl⟩
theorem open_ints {n : Nat} {v : Value} {x : DataW H × List MemPlace} (h : DataW.trod enc Tryz.prog w 0 (fun _ => true) true n 44 [v] = some x) : ∃ l, Rd w v 1 (ints l) :=
  open_rows (α := Int) (cells := fun e => [.int .i64 e]) Tryz.underlying44 c3 (by decide) (fun _ => rfl) (fun _ _ _ h => by obtain ⟨a, rfl, _⟩ := DataW.trod_int Tryz.underlying3 h; exact ⟨a, rfl⟩) h
theorem open_sps {n : Nat} {v : Value} {x : DataW H × List MemPlace} (h : DataW.trod enc Tryz.prog w 0 (fun _ => true) true n 80 [v] = some x) : ∃ l, Rd w v 4 (spsL l) := by
  haveI : Inhabited Sp := ⟨⟨⟨#[]⟩, 0, 0, 0⟩⟩
  exact open_rows (cells := Sp.cells) Tryz.underlying80 c132 (by decide) (fun _ => rfl) (fun _ _ _ h => by obtain ⟨a, b, c, d, rfl⟩ := cells132 h; exact ⟨⟨a, b, c, d⟩, rfl⟩) h
theorem open_prs {n : Nat} {v : Value} {x : DataW H × List MemPlace} (h : DataW.trod enc Tryz.prog w 0 (fun _ => true) true n 81 [v] = some x) : ∃ l, Rd w v 2 (prsL l) :=
  open_rows (α := Int × Int) (cells := prV) Tryz.underlying81 c121 (by decide) (fun _ => rfl) (fun _ _ _ h => by obtain ⟨a, b, rfl⟩ := cells121 h; exact ⟨(a, b), rfl⟩) h
theorem open_brk {n : Nat} {cs : List Value} {x : DataW H × List MemPlace} (h : DataW.trod enc Tryz.prog w 0 (fun _ => true) true n 83 cs = some x) : ∃ (b : Br) (sv cv xv : Value), cs = [.int .i64 b.n, sv, cv, xv] ∧ Rd w sv 4 (spsL b.sp) ∧ Rd w cv 1 (ints b.cm) ∧ Rd w xv 2 (prsL b.ex) := by
  obtain ⟨a, sv, cv, xv, rfl, ⟨_, _, h1⟩, ⟨_, _, h2⟩, ⟨_, _, h3⟩⟩ := cells83 h
  obtain ⟨l1, r1⟩ := open_sps h1
  obtain ⟨l2, r2⟩ := open_ints h2
  obtain ⟨l3, r3⟩ := open_prs h3
  exact ⟨⟨a, l1, l2, l3⟩, sv, cv, xv, rfl, r1, r2, r3⟩
end
end Go.Proofs.A1


/- S73p -/
/- What is on air in a valid schedule. Plain Lean, no program in sight. -/
namespace Go.Proofs.A1
open Go Go.SL

theorem low_eq {a b : Int} (ha : 0 < a) (hb : 0 < b) : ∃ g, 0 < g ∧ a = (lowF a b).1 * g ∧ b = (lowF a b).2 * g := by
  obtain ⟨m, rfl⟩ := Int.eq_ofNat_of_zero_le (Int.le_of_lt ha)
  obtain ⟨n, rfl⟩ := Int.eq_ofNat_of_zero_le (Int.le_of_lt hb)
  refine ⟨gcdF m n, (gcdF_pos hb).1, ?_, ?_⟩
  · unfold lowF gcdF
    simp only [Int.toNat_natCast]
    exact (Int.ediv_mul_cancel (Int.natCast_dvd_natCast.2 (Nat.gcd_dvd_left m n))).symm
  · unfold lowF gcdF
    simp only [Int.toNat_natCast]
    exact (Int.ediv_mul_cancel (Int.natCast_dvd_natCast.2 (Nat.gcd_dvd_right m n))).symm
theorem low_in {a b : Int} (ha : 0 < a) (hab : a ≤ b) : 1 ≤ (lowF a b).1 ∧ (lowF a b).1 ≤ (lowF a b).2 ∧ (lowF a b).2 ≤ b := by
  obtain ⟨g, hg, h1, h2⟩ := low_eq ha (show 0 < b by omega)
  generalize (lowF a b).1 = x at h1 h2 ⊢
  generalize (lowF a b).2 = y at h2 ⊢
  have hx : 0 < x := by
    apply Classical.byContradiction
    intro hn
    have : x * g ≤ 0 := Int.mul_nonpos_of_nonpos_of_nonneg (by omega) (by omega)
    omega
  have hxy : x ≤ y := by
    apply Classical.byContradiction
    intro hn
    have : y * g < x * g := Int.mul_lt_mul_of_pos_right (by omega) hg
    omega
  refine ⟨by omega, hxy, ?_⟩
  have : y * 1 ≤ y * g := Int.mul_le_mul_of_nonneg_left (by omega) (by omega)
  omega
/-- the shares of two entries add up to 1 -/
theorem low_sum {a b c : Int} (ha : 0 < a) (hb : 0 < b) (hc : a + b = c) : (lowF a c).1 * (lowF b c).2 + (lowF b c).1 * (lowF a c).2 = (lowF a c).2 * (lowF b c).2 := by
  obtain ⟨g, hg, h1, h2⟩ := low_eq ha (show 0 < c by omega)
  obtain ⟨k, hk, h3, h4⟩ := low_eq hb (show 0 < c by omega)
  generalize (lowF a c).1 = n1 at *
  generalize (lowF a c).2 = d1 at *
  generalize (lowF b c).1 = n2 at *
  generalize (lowF b c).2 = d2 at *
  have hgk : g * k ≠ 0 := Int.mul_ne_zero (by omega) (by omega)
  apply Int.eq_of_mul_eq_mul_right hgk
  have e1 : n1 * d2 * (g * k) = a * c := by rw [h1]; conv => rhs; rw [h4]
                                            simp only [Int.mul_assoc, Int.mul_left_comm, Int.mul_comm]
  have e2 : n2 * d1 * (g * k) = b * c := by rw [h3]; conv => rhs; rw [h2]
                                            simp only [Int.mul_assoc, Int.mul_left_comm, Int.mul_comm]
  have e3 : d1 * d2 * (g * k) = c * c := by conv => rhs; rw [h2]
                                            conv => rhs; arg 2; rw [← h2, h4]
                                            simp only [Int.mul_assoc, Int.mul_left_comm, Int.mul_comm]
  rw [Int.add_mul, e1, e2, e3, ← hc, Int.add_mul]
theorem Sound.over {es : List En} (h : Sound es) {k : Nat} (hk : k + 1 < es.length) : to es k - fr es (k + 1) ≤ 250 := by
  have h1 := (h.next hk).1
  rw [jn_succ] at h1
  have := (h.all.ok k (by omega)).ov
  omega
/-- what is on air: nothing, one entry, or two -/
theorem Sound.air {es : List En} (h : Sound es) (f : Int) : shF es f = [] ∨ (∃ i : Nat, i < es.length ∧ onB es f i = true ∧ shF es f = [((i : Int), 1, 1)]) ∨
    ∃ (i : Nat) (p q : Int × Int), i + 1 < es.length ∧ shF es f = [((i : Int), p), (((i + 1 : Nat) : Int), q)] ∧ p = lowF (to es i - f) (to es i - fr es (i + 1) + 1) ∧ q = lowF (f - fr es (i + 1) + 1) (to es i - fr es (i + 1) + 1) ∧
      1 ≤ p.1 ∧ p.1 ≤ p.2 ∧ p.2 ≤ 251 ∧ 1 ≤ q.1 ∧ q.1 ≤ q.2 ∧ q.2 ≤ 251 ∧ p.1 * q.2 + q.1 * p.2 = p.2 * q.2 := by
  rcases h.onL f es.length (Nat.le_refl _) with e | ⟨i, h1, h2, e⟩ | ⟨i, h1, h2, h3, e⟩
  · left; unfold shF; rw [e]
  · right; left; exact ⟨i, h1, h2, by unfold shF; rw [e]⟩
  · right; right
    have ho := h.over h1
    simp only [onB, Bool.and_eq_true, decide_eq_true_eq] at h2 h3
    have e2 : to es i - fr es (i + 1) - (f - fr es (i + 1)) = to es i - f := by omega
    have l1 := low_in (a := to es i - f) (b := to es i - fr es (i + 1) + 1) (by omega) (by omega)
    have l2 := low_in (a := f - fr es (i + 1) + 1) (b := to es i - fr es (i + 1) + 1) (by omega) (by omega)
    have l3 := low_sum (a := to es i - f) (b := f - fr es (i + 1) + 1) (c := to es i - fr es (i + 1) + 1) (by omega) (by omega) (by omega)
    refine ⟨i, _, _, h1, ?_, rfl, rfl, l1.1, l1.2.1, by omega, l2.1, l2.2.1, by omega, l3⟩
    unfold shF; rw [e]; dsimp only; rw [e2]
end Go.Proofs.A1


/- S80p -/
/- What is changed between two schedules. Plain Lean, no program in sight. -/
namespace Go.Proofs.A1
open Go Go.SL

/-- the frames from one up to another -/
def frs (a b : Int) : List Int := (List.range (b - a).toNat).map fun (i : Nat) => a + (i : Int)
theorem mem_frs {a b n : Int} : n ∈ frs a b ↔ a ≤ n ∧ n < b := by
  unfold frs
  rw [List.mem_map]
  constructor
  · rintro ⟨i, hi, rfl⟩
    have := List.mem_range.1 hi
    omega
  · intro h
    exact ⟨(n - a).toNat, List.mem_range.2 (by omega), by omega⟩
/-- the end of the entry before one (its own first frame, if there is none) -/
def pvTo (es : List En) (k : Nat) : Int := if 0 < k then to es (k - 1) else fr es k
/-- the frames at which what is on air may become different -/
def tnL (es : List En) : Nat → List Int
  | 0 => []
  | k + 1 => tnL es k ++ [fr es k, to es k] ++ frs (fr es k) (pvTo es k)
theorem mem_tnL {es : List En} {n : Int} : ∀ {k : Nat}, n ∈ tnL es k ↔ ∃ i, i < k ∧ (n = fr es i ∨ n = to es i ∨ (fr es i ≤ n ∧ n < pvTo es i))
  | 0 => by simp [tnL]
  | k + 1 => by
    rw [tnL, List.mem_append, List.mem_append, mem_tnL (k := k), mem_frs]
    simp only [List.mem_cons, List.not_mem_nil, or_false]
    constructor
    · rintro ((⟨i, hi, h⟩ | h) | h)
      · exact ⟨i, by omega, h⟩
      · exact ⟨k, by omega, by rcases h with h | h; exact .inl h; exact .inr (.inl h)⟩
      · exact ⟨k, by omega, .inr (.inr h)⟩
    · rintro ⟨i, hi, h⟩
      by_cases e : i = k
      · subst e
        rcases h with h | h | h
        · exact .inl (.inr (.inl h))
        · exact .inl (.inr (.inr h))
        · exact .inr h
      · exact .inl (.inl ⟨i, by omega, h⟩)
/-- between two turns all stays as it is -/
theorem Sound.still {es : List En} (h : Sound es) {n : Int} (hn : n ∉ tnL es es.length) : shF es n = shF es (n - 1) := by
  have hne : ∀ k, k < es.length → n ≠ fr es k ∧ n ≠ to es k ∧ ¬ (fr es k ≤ n ∧ n < pvTo es k) := fun k hk =>
    ⟨fun e => hn (mem_tnL.2 ⟨k, hk, .inl e⟩), fun e => hn (mem_tnL.2 ⟨k, hk, .inr (.inl e)⟩), fun e => hn (mem_tnL.2 ⟨k, hk, .inr (.inr e)⟩)⟩
  have hb : ∀ k, k < es.length → onB es n k = onB es (n - 1) k := fun k hk => by
    have := hne k hk
    unfold onB
    rw [show decide (fr es k ≤ n) = decide (fr es k ≤ n - 1) from decide_eq_decide.2 (by omega), show decide (n < to es k) = decide (n - 1 < to es k) from decide_eq_decide.2 (by omega)]
  have hl : A1.onL es n es.length = A1.onL es (n - 1) es.length := by
    unfold Go.Proofs.A1.onL
    exact List.filter_congr fun k hk => hb k (List.mem_range.1 hk)
  rcases h.onL n es.length (Nat.le_refl _) with e | ⟨i, h1, h2, e⟩ | ⟨i, h1, h2, h3, e⟩
  · unfold shF; rw [← hl, e]
  · unfold shF; rw [← hl, e]
  · exfalso
    have := (hne (i + 1) h1).2.2
    simp only [onB, Bool.and_eq_true, decide_eq_true_eq] at h2 h3
    apply this
    unfold pvTo
    rw [if_pos (by omega), Nat.add_sub_cancel]
    exact ⟨h3.1, h2.2⟩
/-- the names and the parts that are on air -/
def vwL (es : List En) (f : Int) : List (ByteArray × Int × Int) := (shF es f).map fun x => ((nth es x.1.toNat).nm, x.2)
/-- is something else on air? -/
def dfB (a b : List En) (n : Int) : Bool := decide (vwL a n ≠ vwL b n)
/-- the changed span -/
structure ChSp (D : Int → Bool) (p q : Int) : Prop where
  p1 : D p = true
  p0 : ∀ n, n < p → D n = false
  q1 : D (q - 1) = true
  q0 : ∀ n, q ≤ n → D n = false
theorem ChSp.same {D : Int → Bool} {p q p' q' : Int} (h : ChSp D p q) (h' : ChSp D p' q') : p = p' ∧ q = q' := by
  constructor
  · apply Classical.byContradiction
    intro hn
    by_cases hl : p < p'
    · have := h'.p0 p hl; rw [h.p1] at this; cases this
    · have := h.p0 p' (by omega); rw [h'.p1] at this; cases this
  · apply Classical.byContradiction
    intro hn
    by_cases hl : q < q'
    · have := h.q0 (q' - 1) (by omega); rw [h'.q1] at this; cases this
    · have := h'.q0 (q - 1) (by omega); rw [h.q1] at this; cases this
/-- what turns know -/
structure Turns (D : Int → Bool) (T : List Int) : Prop where
  st : ∀ n, n ∉ T → D n = D (n - 1)
  neg : ∀ n, n < 0 → D n = false
  inc : T.Pairwise (· < ·)
theorem up_same {D : Int → Bool} {m : Int} : ∀ (k : Nat), (∀ n, m < n → n ≤ m + k → D n = D (n - 1)) → D (m + k) = D m
  | 0, _ => by rw [Int.natCast_zero, Int.add_zero]
  | k + 1, h => by
    have h1 := up_same k fun n a b => h n a (by omega)
    have h2 := h (m + (k + 1 : Nat)) (by omega) (by omega)
    rw [h2, show m + ((k + 1 : Nat) : Int) - 1 = m + k by omega, h1]
theorem up_to {D : Int → Bool} {m n : Int} (hmn : m ≤ n) (h : ∀ x, m < x → x ≤ n → D x = D (x - 1)) : D n = D m := by
  have := up_same (D := D) (m := m) (n - m).toNat fun x a b => h x a (by omega)
  rwa [show m + (((n - m).toNat : Nat) : Int) = n by omega] at this
theorem Turns.lt {D : Int → Bool} {T : List Int} (h : Turns D T) {i j : Nat} (hij : i < j) (hj : j < T.length) : T[i]'(by omega) < T[j] :=
  List.pairwise_iff_getElem.1 h.inc i j (by omega) hj hij
/-- nothing is changed ahead of a turn ahead of which no turn is changed -/
theorem Turns.ahead {D : Int → Bool} {T : List Int} (h : Turns D T) {m : Int} (hm : ∀ t ∈ T, t < m → D t = false) : ∀ n, n < m → D n = false := by
  have key : ∀ k : Nat, ((k : Int) - 1) < m → D ((k : Int) - 1) = false := by
    intro k
    induction k with
    | zero => intro _; exact h.neg _ (by omega)
    | succ k ih =>
      intro hk
      by_cases ht : (((k + 1 : Nat) : Int) - 1) ∈ T
      · exact hm _ ht hk
      · rw [h.st _ ht, show ((k + 1 : Nat) : Int) - 1 - 1 = (k : Int) - 1 by omega]
        exact ih (by omega)
  intro n hn
  by_cases h0 : n < 0
  · exact h.neg n h0
  · have := key (n + 1).toNat (by omega)
    rwa [show (((n + 1).toNat : Nat) : Int) - 1 = n by omega] at this
theorem Turns.none {D : Int → Bool} {T : List Int} (h : Turns D T) (hz : ∀ t ∈ T, D t = false) : ∀ n, D n = false :=
  fun n => h.ahead (m := n + 1) (fun t ht _ => hz t ht) n (by omega)
theorem Turns.behind {D : Int → Bool} {T : List Int} (h : Turns D T) {m : Int} (h0 : D m = false) (hm : ∀ t ∈ T, m < t → D t = false) : ∀ n, m ≤ n → D n = false := by
  have key : ∀ k : Nat, D (m + k) = false := by
    intro k
    induction k with
    | zero => rw [Int.natCast_zero, Int.add_zero]; exact h0
    | succ k ih =>
      by_cases ht : (m + ((k + 1 : Nat) : Int)) ∈ T
      · exact hm _ ht (by omega)
      · rw [h.st _ ht, show m + ((k + 1 : Nat) : Int) - 1 = m + k by omega]; exact ih
  intro n hn
  have := key (n - m).toNat
  rwa [show m + (((n - m).toNat : Nat) : Int) = n by omega] at this
/-- the changed span lies between the first turn that is changed and the turn behind the last one -/
theorem Turns.span {D : Int → Bool} {T : List Int} (h : Turns D T) {i j : Nat} (hj : j + 1 < T.length) (hij : i ≤ j) (hi : D (T[i]'(by omega)) = true) (hi0 : ∀ k (hk : k < i), D (T[k]'(by omega)) = false) (hj1 : D (T[j]'(by omega)) = true) (hj0 : ∀ k (hk : k < T.length), j < k → D T[k] = false) :
    ChSp D (T[i]'(by omega)) T[j + 1] := by
  refine ⟨hi, h.ahead fun t ht hlt => ?_, ?_, h.behind (hj0 _ _ (by omega)) fun t ht hlt => ?_⟩
  · obtain ⟨k, hk, rfl⟩ := List.getElem_of_mem ht
    have : k < i := by
      apply Classical.byContradiction
      intro hn
      by_cases e : k = i
      · subst e; omega
      · have := h.lt (i := i) (j := k) (by omega) hk; omega
    exact hi0 k this
  · have hlt := h.lt (i := j) (j := j + 1) (by omega) hj
    rw [up_to (D := D) (m := T[j]'(by omega)) (n := T[j + 1] - 1) (by omega) fun x h1 h2 => h.st x fun hx => ?_]
    · exact hj1
    · obtain ⟨k, hk, rfl⟩ := List.getElem_of_mem hx
      have a1 : j < k := by
        apply Classical.byContradiction
        intro hn
        by_cases e : k = j
        · subst e; omega
        · have := h.lt (i := k) (j := j) (by omega) (by omega); omega
      have a2 : k < j + 1 := by
        apply Classical.byContradiction
        intro hn
        by_cases e : k = j + 1
        · subst e; omega
        · have := h.lt (i := j + 1) (j := k) (by omega) hk; omega
      omega
  · obtain ⟨k, hk, rfl⟩ := List.getElem_of_mem ht
    have : j < k := by
      apply Classical.byContradiction
      intro hn
      by_cases e : k = j + 1
      · omega
      · have := h.lt (i := k) (j := j + 1) (by omega) hj; omega
    exact hj0 k hk this
end Go.Proofs.A1


/- S81 -/
namespace Go.Proofs.A1
open Go Go.SL

end Go.Proofs.A1


/- GkRegM -/
/- Drawing regions whose first part calls what makes memory: each operation of the first part reads what those it waits for have made; in whatever order. What is left behind the first part is gone through in each order. -/
namespace Go.SL
open Go

/-- 'p' (if below 'm'): an operation of the first part that may come late, an extract: it is taken as soon as it may come -/
def regOkP (l : List Oper) (m p : Nat) : Bool :=
  l.all opOk && acyc l 0 && pairsOk l.toArray (l.take m) 0 && (List.range' m (l.length - m)).all (fun k => (List.range m).all fun i => Nat.beq i p || ((masks l []).getD k 0).testBit i) && Nat.ble m l.length
def regOkL (l : List Oper) (m : Nat) : Bool := regOkP l m m
structure ChkL (l : List Oper) (m p : Nat) : Prop where
  op : ∀ o ∈ l, opOk o = true
  ac : acyc l 0 = true
  pairs : pairsOk l.toArray (l.take m) 0 = true
  tail : ∀ k, m ≤ k → k < l.length → ∀ i, i < m → i ≠ p → ((masks l []).getD k 0).testBit i = true
  le : m ≤ l.length
theorem regOkP_spec {l : List Oper} {m p : Nat} (h : regOkP l m p = true) : ChkL l m p := by
  simp only [regOkP, Bool.and_eq_true, List.all_eq_true] at h
  obtain ⟨⟨⟨⟨h1, h2⟩, h3⟩, h5⟩, h6⟩ := h
  refine ⟨h1, h2, h3, fun k hk hlt i hi hne => ?_, by simpa using h6⟩
  have := h5 k (List.mem_range'_1.2 ⟨hk, by omega⟩) i (List.mem_range.2 hi)
  rw [Bool.or_eq_true] at this
  exact this.resolve_left (by simpa using hne)
theorem pair_atL {l : List Oper} {m p : Nat} (hc : ChkL l m p) {i j : Nat} {x y : Oper} (hij : i < j) (hj : j < m) (hx : l[i]? = some x) (hy : l[j]? = some y) : pairOk l.toArray x y i = true := by
  have := pairsOk_spec hc.pairs (i := i) (j := j) hij (by rw [List.getElem?_take, if_pos (by omega)]; exact hx) (by rw [List.getElem?_take, if_pos hj]; exact hy)
  simpa using this
theorem ready_maskL {l : List Oper} {m p : Nat} (hc : ChkL l m p) {listed : Array Bool} (hsz : listed.size = l.length) (hdc : DC l (Ls listed)) {i : Nat} (hi : i ∈ Region.ready .any l.toArray listed) (hm : m ≤ i) : ∀ j, j < m → j ≠ p → Ls listed j := by
  intro j hj hjp
  obtain ⟨o, ho, hn, hd⟩ := (mem_ready' hsz).1 hi
  have hlt : i < l.length := (List.getElem?_eq_some_iff.1 ho).1
  have hdc' : DC l (fun k => k = i ∨ Ls listed k) := by
    intro k ok hk hL e he hb
    rcases hL with e' | hL
    · subst e'
      rw [ho] at hk; cases hk
      exact .inr (hd e he hb)
    · exact .inr (hdc k ok hk hL e he hb)
  rcases masks_sound hdc' hc.ac i hlt (.inl rfl) j (hc.tail i hm hlt j hj hjp) with h | h
  · omega
  · exact h

structure StepP where
  F : (Nat → Value) → Value
  A : (Nat → Value) → List Asn
def upd (β : Nat → Value) (i : Nat) (x : Value) : Nat → Value := fun k => if k = i then x else β k
theorem upd_self (β : Nat → Value) (i : Nat) : upd β i (β i) = β := by
  funext k; unfold upd; split
  · rename_i h; rw [h]
  · rfl
theorem upd_at (β : Nat → Value) (i : Nat) (x : Value) : upd β i x i = x := by unfold upd; rw [if_pos rfl]
theorem upd_ne {β : Nat → Value} {i k : Nat} {x : Value} (h : k ≠ i) : upd β i x k = β k := by unfold upd; rw [if_neg h]
def ancB (l : List Oper) (i k : Nat) : Bool := Nat.beq i k || ((masks l []).getD i 0).testBit k

def resF (β : Nat → Value) (lst : Nat → Bool) : List StepP → Nat → List Asn
  | [], _ => []
  | s :: S, i => (if lst i then s.A β else []) ++ resF β lst S (i + 1)
theorem resF_same {β β' : Nat → Value} {lst lst' : Nat → Bool} : ∀ {S : List StepP} {i : Nat}, (∀ j s, S[j]? = some s → lst (i + j) = lst' (i + j) ∧ (lst (i + j) = true → s.A β = s.A β')) → resF β lst S i = resF β' lst' S i
  | [], _, _ => rfl
  | s :: S, i, h => by
    have h0 := h 0 s rfl
    have ih : resF β lst S (i + 1) = resF β' lst' S (i + 1) := resF_same fun j s' hj => by have := h (j + 1) s' (by simpa using hj); rwa [show i + (j + 1) = i + 1 + j from by omega] at this
    simp only [Nat.add_zero] at h0
    unfold resF
    rw [ih, ← h0.1]
    by_cases hl : lst i = true
    · rw [if_pos hl, if_pos hl, h0.2 hl]
    · rw [if_neg hl, if_neg hl]
theorem resF_add {β : Nat → Value} {lst lst' : Nat → Bool} {k : Nat} {s : StepP} : ∀ {S : List StepP} {i : Nat}, S[k]? = some s → lst (i + k) = false → lst' (i + k) = true → (∀ j, j ≠ i + k → lst' j = lst j) →
    (s.A β ++ resF β lst S i).Perm (resF β lst' S i)
  | [], _, h, _, _, _ => by simp at h
  | s0 :: S, i, h, h1, h2, h3 => by
    cases k with
    | zero =>
      simp at h
      subst h
      have e : resF β lst S (i + 1) = resF β lst' S (i + 1) := resF_same fun j s' hj => ⟨(h3 (i + 1 + j) (by omega)).symm, fun _ => rfl⟩
      simp only [Nat.add_zero] at h1 h2
      unfold resF
      rw [if_neg (by simp [h1]), if_pos h2, e]; simp
    | succ k =>
      have ih : (s.A β ++ resF β lst S (i + 1)).Perm (resF β lst' S (i + 1)) := by
        refine resF_add (k := k) (by simpa using h) ?_ ?_ ?_
        all_goals rw [show i + 1 + k = i + (k + 1) from by omega]; assumption
      unfold resF
      rw [h3 i (by omega)]
      refine List.Perm.trans ?_ (ih.append_left _)
      rw [← List.append_assoc, ← List.append_assoc]
      exact List.perm_append_comm.append_right _
theorem resF_sub {β : Nat → Value} {lst : Nat → Bool} {s : StepP} : ∀ {S : List StepP} {i j : Nat}, S[j]? = some s → lst (i + j) = true → (s.A β).Sublist (resF β lst S i)
  | [], _, j, h, _ => by simp at h
  | s0 :: S, i, 0, h, h1 => by
    simp at h
    subst h
    unfold resF
    rw [Nat.add_zero] at h1
    rw [if_pos h1]
    exact List.sublist_append_left _ _
  | s0 :: S, i, j + 1, h, h1 => by
    unfold resF
    exact (resF_sub (S := S) (i := i + 1) (j := j) (by simpa using h) (by rwa [show i + 1 + j = i + (j + 1) from by omega])).trans (List.sublist_append_right _ _)
theorem Sats.sublist {h : Nat → Option Obj} {l1 l2 : List Asn} (hs : l1.Sublist l2) : ∀ {fp : List Nat}, Sats h l2 fp → ∃ fp' : List Nat, Sats h l1 fp' ∧ fp'.Sublist fp := by
  induction hs with
  | slnil => intro fp hf; exact ⟨fp, hf, List.Sublist.refl _⟩
  | cons A _ ih =>
    rintro fp ⟨f1, f2, rfl, _, h2⟩
    obtain ⟨g, hg, hsub⟩ := ih h2
    exact ⟨g, hg, hsub.trans (List.sublist_append_right _ _)⟩
  | cons_cons A _ ih =>
    rintro fp ⟨f1, f2, rfl, h1, h2⟩
    obtain ⟨g, hg, hsub⟩ := ih h2
    exact ⟨f1 ++ g, ⟨f1, g, rfl, h1, hg⟩, (List.Sublist.refl f1).append hsub⟩
theorem Mem.sublist {c : Cx} {l1 l2 : List Asn} {w : World} (h : Mem c l2 w) (hs : l1.Sublist l2) : Mem c l1 w := by
  obtain ⟨k, fp, hn, hsat, hb⟩ := h
  obtain ⟨g, hg, hsub⟩ := hsat.sublist hs
  exact ⟨k, g, hn.sublist hsub, hg, fun b hb' => hb b (hsub.subset hb')⟩

def MRun (P : Program) (o : Oper) (a : Act) (w : World) (K : Value → World → Prop) : Prop :=
  match (execOp a.eval o).run P w with
  | .ok (.value v) w' => K v w'
  | .ok (.enter f args) w' => w' = w ∧ Calls P f args w (fun e w'' => ∃ v, e = .returned v ∧ K v w'')
  | _ => False

section
variable {P : Program} {c : Cx} {D : List Nat} {sl : Slots} {hs : List Asn} {Q : Exit → Act → World → Prop} {l : List Oper} {m : Nat}

/-- what the operations 'B' have made lies there -/
def Borrow (c : Cx) (hs : List Asn) (S : List StepP) (B : List Nat) (β : Nat → Value) (w : World) : Prop := ∀ A : List Asn, (A = [] ∨ ∃ j, j ∈ B ∧ ∃ s, S[j]? = some s ∧ A = s.A β) → Mem c (A ++ hs) w
theorem Borrow.mem {S : List StepP} {B : List Nat} {β : Nat → Value} {w : World} (h : Borrow c hs S B β w) : Mem c hs w := h [] (.inl rfl)
theorem Borrow.at {S : List StepP} {B : List Nat} {β : Nat → Value} {w : World} (h : Borrow c hs S B β w) (j : Nat) {s : StepP} (hj : j ∈ B) (hs' : S[j]? = some s) : Mem c (s.A β ++ hs) w := h _ (.inr ⟨j, hj, s, hs', rfl⟩)
def MOut (i : Nat) (s : StepP) (β : Nat → Value) (w : World) (v : Value) (w' : World) : Prop := ∃ x, v = s.F (upd β i x) ∧ Keeps [] w w' ∧ ∃ fp : List Nat, fp.Nodup ∧ Sats (hp w') (s.A (upd β i x)) fp ∧ ∀ b ∈ fp, w.heap.size ≤ b
def Indep {α : Type} (l : List Oper) (i : Nat) (F : (Nat → Value) → α) : Prop := ∀ β β', (∀ k, ancB l i k = true → β k = β' k) → F β = F β'
structure StepOk (P : Program) (c : Cx) (hs : List Asn) (l : List Oper) (i : Nat) (o : Oper) (SL : (Nat → Value) → Slots) (S : List StepP) (s : StepP) : Prop where
  indF : Indep l i s.F
  indA : Indep l i s.A
  run : ∃ B : List Nat, (∀ j ∈ B, waitsOn o j = true) ∧ ∀ β a w, SlotsOk (SL β) a → Borrow c hs S B β w → if Region.wanted o (yielded l.toArray a.tmps) = true then MRun P o a w (MOut i s β w) else MOut i s β w undef w

inductive PlanM (P : Program) (c : Cx) (hs : List Asn) (l : List Oper) : Nat → List Oper → ((Nat → Value) → Slots) → List StepP → List StepP → ((Nat → Value) → Slots) → Prop
  | nil {i : Nat} {SL : (Nat → Value) → Slots} {S : List StepP} : PlanM P c hs l i [] SL S S SL
  | step {i d : Nat} {o : Oper} {rest : List Oper} {SL SL' : (Nat → Value) → Slots} {S S' : List StepP} {s : StepP} (hd : o.dst = some d) (hdn : d < c.nt) (h : StepOk P c hs l i o SL S s)
      (t : PlanM P c hs l (i + 1) rest (fun β => (d, s.F β) :: SL β) (S ++ [s]) S' SL') : PlanM P c hs l i (o :: rest) SL S S' SL'
def PreOk (sl : Slots) (pre : List Oper) (SL : (Nat → Value) → Slots) (S : List StepP) : Prop :=
  ∀ β t v, sget (SL β) t = some v → (∃ (j : Nat) (oj : Oper) (s : StepP), pre[j]? = some oj ∧ oj.dst = some t ∧ S[j]? = some s ∧ v = s.F β) ∨ ((∀ oj ∈ pre, oj.dst ≠ some t) ∧ sget sl t = some v)
theorem PreOk.step {pre : List Oper} {SL : (Nat → Value) → Slots} {S : List StepP} (h : PreOk sl pre SL S) (hl : S.length = pre.length) {o : Oper} {d : Nat} {s : StepP} (hd : o.dst = some d) : PreOk sl (pre ++ [o]) (fun β => (d, s.F β) :: SL β) (S ++ [s]) := by
  intro β t v hv
  by_cases e : d = t
  · subst e
    rw [sget_cons_eq] at hv
    cases hv
    exact .inl ⟨pre.length, o, s, by simp, hd, by rw [← hl]; simp, rfl⟩
  · rw [sget_cons_ne e] at hv
    rcases h β t v hv with ⟨j, oj, s', h1, h2, h3, h4⟩ | ⟨h1, h2⟩
    · refine .inl ⟨j, oj, s', ?_, h2, ?_, h4⟩
      · rw [List.getElem?_append_left (List.getElem?_eq_some_iff.1 h1).1]; exact h1
      · rw [List.getElem?_append_left (List.getElem?_eq_some_iff.1 h3).1]; exact h3
    · refine .inr ⟨fun oj hoj => ?_, h2⟩
      rcases List.mem_append.1 hoj with hoj | hoj
      · exact h1 oj hoj
      · rw [List.mem_singleton.1 hoj, hd]; simp [e]
theorem PlanM.spec {i : Nat} {rest : List Oper} {SL SL' : (Nat → Value) → Slots} {S S' : List StepP} (h : PlanM P c hs l i rest SL S S' SL') : ∀ pre : List Oper, pre.length = i → S.length = i → PreOk sl pre SL S →
    S'.length = i + rest.length ∧ S <+: S' ∧ PreOk sl (pre ++ rest) SL' S' ∧ ∀ k o, i ≤ k → (pre ++ rest)[k]? = some o → ∃ d SLk s, o.dst = some d ∧ d < c.nt ∧ S'[k]? = some s ∧ PreOk sl ((pre ++ rest).take k) SLk (S'.take k) ∧ StepOk P c hs l k o SLk (S'.take k) s := by
  induction h with
  | @nil i SL S =>
    intro pre hp hS hpre
    refine ⟨by simpa using hS, List.prefix_rfl, by simpa using hpre, fun k o hk ho => ?_⟩
    have := (List.getElem?_eq_some_iff.1 ho).1
    simp at this; omega
  | @step i d o rest SL SL' S S' s hd hdn hst t ih =>
    intro pre hp hS hpre
    obtain ⟨h1, h2, h3, h4⟩ := ih (pre ++ [o]) (by simp [hp]) (by simp [hS]) (hpre.step (by omega) hd)
    rw [List.append_assoc, List.singleton_append] at h3 h4
    have hpx : S <+: S' := (List.prefix_append S [s]).trans h2
    have hSi : S'[i]? = some s := by
      obtain ⟨r, rfl⟩ := h2
      rw [List.append_assoc, List.getElem?_append_right (by omega), hS]; simp
    have hSt : S'.take i = S := by
      obtain ⟨r, rfl⟩ := hpx
      rw [← hS]; simp
    refine ⟨by rw [h1]; simp; omega, hpx, h3, fun k ok hk ho => ?_⟩
    by_cases e : k = i
    · subst e
      have ho' : ok = o := by
        rw [List.getElem?_append_right (by omega), hp] at ho
        simpa using ho.symm
      subst ho'
      have htk : (pre ++ ok :: rest).take k = pre := by rw [← hp]; simp
      rw [htk, hSt]
      exact ⟨d, SL, s, hd, hdn, hSi, hpre, hst⟩
    · exact h4 k ok (by omega) ho

structure InvM (c : Cx) (D : List Nat) (hs : List Asn) (l : List Oper) (m : Nat) (S : List StepP) (a0 : Act) (fuel : Nat) (listed : Array Bool) (a : Act) (w : World) : Prop where
  sz : listed.size = l.length
  dc : DC l (Ls listed)
  hi : ∀ k, m ≤ k → ¬ Ls listed k
  defers : a.defers = D.map mark
  size : a.tmps.size = c.nt
  old : ∀ t, (∀ (j : Nat) (o : Oper), l[j]? = some o → Ls listed j → o.dst ≠ some t) → a.tmps[t]? = a0.tmps[t]?
  left : ∃ U : List Nat, U.Nodup ∧ (∀ i, i ∈ U ↔ i < l.length ∧ ¬ Ls listed i) ∧ U.length = fuel
  own : ∃ β : Nat → Value, Mem c (resF β (fun i => listed.getD i false) S 0 ++ (hs ++ mks D)) w ∧ ∀ (j : Nat) (o : Oper) (d : Nat) (s : StepP), l[j]? = some o → o.dst = some d → S[j]? = some s → Ls listed j → a.tmps[d]? = some (s.F β)

def Lend (n m : Nat) : Array Bool := (List.replicate m true ++ List.replicate (n - m) false).toArray

theorem ext_pure {P : Program} {dst : Option Tmp} {x : Operand} {k : Nat} {ty : TypeId} {pos : String} {af : Array Edge} {ρ : Operand → Value} {w : World} {K : Value → World → Prop}
    (h : match (execOp ρ ⟨dst, .extract x k, ty, pos, af, none⟩).run P w with
      | .ok (.value v) w' => K v w'
      | .ok (.enter f args) w' => w' = w ∧ Calls P f args w (fun e w'' => ∃ v, e = .returned v ∧ K v w'')
      | _ => False) : ∃ v, K v w ∧ ∀ w2, (execOp ρ ⟨dst, .extract x k, ty, pos, af, none⟩).run P w2 = .ok (.value v) w2 := by
  simp only [execOp] at h ⊢
  generalize ρ x = u at h ⊢
  cases u with
  | tuple vs =>
    simp only [Instr.extract] at h ⊢
    cases hv : vs[k]? with
    | none => simp [hv] at h
    | some v => simp [hv] at h ⊢; exact h
  | _ => simp [Instr.extract] at h
def PureAt (l : List Oper) (p : Nat) : Prop := ∃ d x k ty pos af, l[p]? = some ⟨some d, .extract x k, ty, pos, af, none⟩ ∧ Region.noSelect l.toArray = true ∧ Region.free .any l.toArray ((List.range l.length).map fun j => ((masks l []).getD p 0).testBit j).toArray p = true
theorem free_mono {ops : Array Oper} {l1 l2 : Array Bool} {i : Nat} (h : Region.free .any ops l1 i = true) (hle : ∀ j, j < ops.size → j ≠ i → l1.getD j true = true → l2.getD j true = true) : Region.free .any ops l2 i = true := by
  unfold Region.free at h ⊢
  cases hi : ops[i]? with
  | none => rw [hi] at h; cases h
  | some oi =>
    rw [hi] at h
    simp only [List.all_eq_true, List.mem_range] at h ⊢
    intro j hj
    have h1 := h j hj
    simp only [Bool.or_eq_true] at h1 ⊢
    rcases h1 with (h1 | h1) | h1
    · exact .inl (.inl h1)
    · by_cases e : j = i
      · exact .inl (.inl (by simp [e]))
      · exact .inl (.inr (hle j hj e h1))
    · exact .inr h1
/-- what an operation that may come waits for has come -/
theorem ready_anc {l : List Oper} (hac : acyc l 0 = true) {listed : Array Bool} (hsz : listed.size = l.length) (hdc : DC l (Ls listed)) {i : Nat} (hi : i ∈ Region.ready .any l.toArray listed) {j : Nat} (hbit : ((masks l []).getD i 0).testBit j = true) : j = i ∨ Ls listed j := by
  obtain ⟨o, ho, hn, hd⟩ := (mem_ready' hsz).1 hi
  have hlt : i < l.length := (List.getElem?_eq_some_iff.1 ho).1
  have hdc' : DC l (fun k => k = i ∨ Ls listed k) := by
    intro k ok hk hL e he hb
    rcases hL with e' | hL
    · subst e'
      rw [ho] at hk; cases hk
      exact .inr (hd e he hb)
    · exact .inr (hdc k ok hk hL e he hb)
  exact masks_sound hdc' hac i hlt (.inl rfl) j hbit
theorem phaseM {p : Nat} (hc : ChkL l m p) (hpx : p < m → PureAt l p) (hQp : ∀ c a w, ¬ Q (.panic c) a w) {S : List StepP} {SL' : (Nat → Value) → Slots} (hpM : PlanM P c hs l 0 (l.take m) (fun _ => sl) [] S SL') {a0 : Act} (h0 : SlotsOk sl a0) (hn0 : a0.tmps.size = c.nt)
    (tail : ∀ β a w, St c D (SL' β) (resF β (fun _ => true) S 0 ++ hs) a w → wpAnyIn (FR none) 0 P .any l.toArray Q (l.length - m) (Lend l.length m) a w) :
    ∀ (fuel : Nat) (listed : Array Bool) (a : Act) (w : World), InvM c D hs l m S a0 fuel listed a w → wpAnyIn (FR none) 0 P .any l.toArray Q fuel listed a w := by
  have hle := hc.le
  have hp0 : PreOk sl [] (fun _ => sl) [] := fun β t v hv => .inr ⟨fun oj h => (List.not_mem_nil h).elim, hv⟩
  obtain ⟨hSlen, _, hpre, hstep⟩ := hpM.spec (sl := sl) [] rfl rfl hp0
  rw [List.nil_append] at hpre hstep
  rw [Nat.zero_add, List.length_take, Nat.min_eq_left hle] at hSlen
  have htake : ∀ (j : Nat) (o : Oper), j < m → l[j]? = some o → (l.take m)[j]? = some o := fun j o hj ho => by rw [List.getElem?_take, if_pos hj]; exact ho
  have htake' : ∀ (j : Nat) (o : Oper), (l.take m)[j]? = some o → j < m ∧ l[j]? = some o := fun j o ho => by
    rw [List.getElem?_take] at ho
    split at ho
    · exact ⟨by assumption, ho⟩
    · cases ho
  have hSget : ∀ j, j < m → ∃ s, S[j]? = some s := fun j hj => ⟨S[j]'(by omega), List.getElem?_eq_getElem (by omega)⟩
  have hfin : ∀ fuel listed a w, InvM c D hs l m S a0 fuel listed a w → (∀ i, i < m → Ls listed i) → wpAnyIn (FR none) 0 P .any l.toArray Q fuel listed a w := by
    intro fuel listed a w hI hall
    have hL : ∀ i, i < l.length → (Ls listed i ↔ i < m) := fun i _ => ⟨fun h => Nat.lt_of_not_le fun hm => hI.hi i hm h, hall i⟩
    obtain ⟨U, hU1, hU2, hU3⟩ := hI.left
    have hperm : U.Perm (List.range' m (l.length - m)) := by
      rw [List.perm_ext_iff_of_nodup hU1 (List.nodup_range')]
      intro i
      rw [hU2 i, List.mem_range'_1]
      constructor
      · rintro ⟨h1, h2⟩
        exact ⟨Nat.le_of_not_lt fun h => h2 (hall i h), by omega⟩
      · rintro ⟨h1, h2⟩
        exact ⟨by omega, hI.hi i h1⟩
    have hlen : fuel = l.length - m := by rw [← hU3, hperm.length_eq, List.length_range']
    have hlst : listed = Lend l.length m := by
      have hsz2 : (Lend l.length m).size = l.length := by simp [Lend]; omega
      apply Array.ext
      · rw [hI.sz, hsz2]
      · intro i h1 h2
        rw [hI.sz] at h1
        have h3 := hL i h1
        unfold Ls at h3
        rw [Array.getD_eq_getD_getElem?, Array.getElem?_eq_getElem (by rw [hI.sz]; exact h1), Option.getD_some] at h3
        have h4 : (Lend l.length m)[i] = decide (i < m) := by
          simp only [Lend, List.getElem_toArray]
          by_cases hi : i < m
          · rw [List.getElem_append_left (by simpa using hi)]; simp [hi]
          · rw [List.getElem_append_right (by simpa using hi)]; simp [hi]
        rw [h4]
        by_cases hi : i < m
        · rw [h3.2 hi]; simp [hi]
        · have : ¬ listed[i] = true := fun h => hi (h3.1 h)
          simp [hi, this]
    subst hlen
    rw [hlst]
    obtain ⟨β, hm, hval⟩ := hI.own
    have e : resF β (fun i => listed.getD i false) S 0 = resF β (fun _ => true) S 0 := resF_same fun j s hj => by
      have hjm : j < m := by have := (List.getElem?_eq_some_iff.1 hj).1; omega
      rw [Nat.zero_add]
      exact ⟨hall j hjm, fun _ => rfl⟩
    rw [e] at hm
    refine tail β a w ⟨by rw [List.append_assoc]; exact hm, fun t v hv => ?_, hI.size, hI.defers⟩
    rcases hpre β t v hv with ⟨j, oj, s, h1, h2, h3, h4⟩ | ⟨h1, h2⟩
    · obtain ⟨hjm, hj'⟩ := htake' j oj h1
      rw [h4]; exact hval j oj t s hj' h2 h3 (hall j hjm)
    · rw [hI.old t fun j oj hj hLj => h1 oj (List.mem_of_getElem? (htake j oj (Nat.lt_of_not_le fun hm => hI.hi j hm hLj) hj))]
      exact h0 t v h2
  intro fuel
  induction fuel with
  | zero =>
    intro listed a w hI
    obtain ⟨U, _, hU2, hU3⟩ := hI.left
    have hU : U = [] := List.length_eq_zero_iff.1 hU3
    refine hfin 0 listed a w hI fun i hi => Classical.byContradiction fun hn => ?_
    have := (hU2 i).2 ⟨by omega, hn⟩
    rw [hU] at this; cases this
  | succ fuel ih =>
    intro listed a w hI
    by_cases hall : ∀ i, i < m → Ls listed i
    · exact hfin _ listed a w hI hall
    · have hex : ∃ i, i < m ∧ ¬ Ls listed i := Classical.byContradiction fun hh => hall fun i hi => Classical.byContradiction fun hn => hh ⟨i, hi, hn⟩
      obtain ⟨i0, hi0, hn0'⟩ := hex
      have main : ∀ i, i ∈ Region.ready .any l.toArray listed → i < m → wpOpIn (FR none) 0 P l.toArray Q i (wpAnyIn (FR none) 0 P .any l.toArray Q fuel (listed.setIfInBounds i true)) a w ∧ (i = p → wpAnyIn (FR none) 0 P .any l.toArray Q (fuel + 1) listed a w) := by
        intro i hi him
        obtain ⟨o, ho, hn, hdeps⟩ := (mem_ready' hI.sz).1 hi
        obtain ⟨d, SLk, s, hd, hdn, hSi, hprek, hok⟩ := hstep i o (Nat.zero_le _) (htake i o him ho)
        obtain ⟨indF, indA, B, hB, hrun⟩ := hok
        obtain ⟨β, hm, hval⟩ := hI.own
        have hwait : ∀ (j : Nat), waitsOn o j = true → Ls listed j := fun j hw => by
          obtain ⟨e, he, hb, hon⟩ := waitsOn_spec hw
          rw [← hon]; exact hdeps e he hb
        have hdist : ∀ (j : Nat) (oj : Oper) (e : Nat), l[j]? = some oj → j < m → j ≠ i → oj.dst = some e → d ≠ e := by
          intro j oj e hj hjm hne he
          rcases Nat.lt_or_ge j i with h | h
          · exact fun e' => (pair_spec (pair_atL hc h him hj ho) he hd).1 e'.symm
          · exact (pair_spec (pair_atL hc (show i < j by omega) hjm ho hj) hd he).1
        have hil : i < listed.size := by rw [hI.sz]; omega
        have hoo : opOk o = true := hc.op o (List.mem_of_getElem? ho)
        -- the slots that the operation looks at
        have hT : ∀ t ∈ o.looksAt l.toArray, ∀ v, sget (SLk β) t = some v → a.tmps[t]? = some v := by
          intro t ht v hv
          rcases hprek β t v hv with ⟨j, oj, sj, h1, h2, h3, h4⟩ | ⟨h1, h2⟩
          · have hji : j < i := by have := (List.getElem?_eq_some_iff.1 h1).1; rw [List.length_take] at this; omega
            rw [List.getElem?_take, if_pos hji] at h1 h3
            obtain ⟨hjm, hj'⟩ := htake' j oj h1
            have hLj := hwait j ((pair_spec (pair_atL hc hji him hj' ho) h2 hd).2 (.inl ht))
            rw [h4]; exact hval j oj t sj hj' h2 h3 hLj
          · rw [hI.old t fun j oj hj hLj hdj => ?_]
            · exact h0 t v h2
            · have hjm : j < m := Nat.lt_of_not_le fun hm => hI.hi j hm hLj
              rcases Nat.lt_trichotomy j i with h | h | h
              · exact h1 oj (List.mem_of_getElem? (by rw [List.getElem?_take, if_pos h]; exact htake j oj hjm hj)) hdj
              · subst h; exact hn hLj
              · have hw := (pair_spec (pair_atL hc h hjm ho hj) hd hdj).2 (.inr ht)
                obtain ⟨e, he, hb, hon⟩ := waitsOn_spec hw
                have := hI.dc j oj hj hLj e he hb
                rw [hon] at this
                exact hn this
        have hkey : ∀ t v, sget (SLk β) t = some v → t < c.nt := by
          intro t v hv
          rcases hprek β t v hv with ⟨j, oj, sj, h1, h2, _, _⟩ | ⟨_, h2⟩
          · have hji : j < i := by have := (List.getElem?_eq_some_iff.1 h1).1; rw [List.length_take] at this; omega
            rw [List.getElem?_take, if_pos hji] at h1
            obtain ⟨d', _, _, hd', hdn', _⟩ := hstep j oj (Nat.zero_le _) h1
            rw [h2] at hd'; cases hd'
            exact hdn'
          · have := h0 t v h2
            rw [← hn0]
            exact (Array.getElem?_eq_some_iff.1 this).1
        obtain ⟨a', ha1, ha2, _⟩ := fill_act hI.size hkey hT
        have hbor : Borrow c hs (S.take i) B β w := by
          rintro A (rfl | ⟨j, hj, sj, h1, rfl⟩)
          · exact hm.sublist ((List.sublist_append_left _ _).trans (List.sublist_append_right _ _))
          · have hji : j < i := by have := (List.getElem?_eq_some_iff.1 h1).1; rw [List.length_take] at this; omega
            rw [List.getElem?_take, if_pos hji] at h1
            have hLj := hwait j (hB j hj)
            exact hm.sublist ((resF_sub (lst := fun i => listed.getD i false) (i := 0) h1 (by rw [Nat.zero_add]; exact hLj)).append (List.sublist_append_left _ _))
        have hq := hrun β a' w ha1 hbor
        have hex := exec_of_same (o := o) (ops := l.toArray) hoo ha2
        -- what a done operation says does not hang on this one
        have hdone : ∀ j, Ls listed j → ∀ x k, ancB l j k = true → β k = upd β i x k := by
          intro j hLj x k hk
          refine (upd_ne fun e => ?_).symm
          subst e
          unfold ancB at hk
          rw [Bool.or_eq_true] at hk
          rcases hk with hk | hk
          · have : j = k := by simpa using hk
            subst this; exact hn hLj
          · have hjl : j < l.length := by
              have hjm : j < m := Nat.lt_of_not_le fun hm => hI.hi j hm hLj
              omega
            exact hn (masks_sound hI.dc hc.ac j hjl hLj k hk)
        have hnext : ∀ v w', MOut i s β w v w' → wpAnyIn (FR none) 0 P .any l.toArray Q fuel (listed.setIfInBounds i true) (a.put o.dst v) w' := by
          rintro v w' ⟨x, rfl, hk, fp, hnd, hsat, hfr⟩
          refine ih _ _ _ ⟨by simpa using hI.sz, ?_, ?_, by rw [hd]; exact hI.defers, by simpa [Act.put, hd] using hI.size, ?_, ?_, upd β i x, ?_, ?_⟩
          · intro k ok hk' hL e he hb
            rw [getD_set hil] at hL ⊢
            rcases hL with e' | hL
            · subst e'
              rw [ho] at hk'; cases hk'
              exact .inr (hdeps e he hb)
            · exact .inr (hI.dc k ok hk' hL e he hb)
          · intro k hk' hL
            rw [getD_set hil] at hL
            rcases hL with e | hL
            · omega
            · exact hI.hi k hk' hL
          · intro t ht
            have h1 : d ≠ t := fun e => by subst e; exact ht i o ho ((getD_set hil).2 (.inl rfl)) hd
            rw [hd]
            simp only [Act.put, Array.getElem?_setIfInBounds_ne h1]
            exact hI.old t fun j oj hj hL => ht j oj hj ((getD_set hil).2 (.inr hL))
          · obtain ⟨U, hU1, hU2, hU3⟩ := hI.left
            refine ⟨U.erase i, hU1.erase i, fun k => ?_, ?_⟩
            · rw [hU1.mem_erase_iff, hU2 k, getD_set hil]
              constructor
              · rintro ⟨h1, h2, h3⟩
                exact ⟨h2, fun h => h.elim h1 h3⟩
              · rintro ⟨h1, h2⟩
                exact ⟨fun e => h2 (.inl e), h1, fun h => h2 (.inr h)⟩
            · have hiU : i ∈ U := (hU2 i).2 ⟨by omega, hn⟩
              rw [List.length_erase_of_mem hiU, hU3]; rfl
          · have hm2 : Mem c (s.A (upd β i x) ++ (resF β (fun i => listed.getD i false) S 0 ++ (hs ++ mks D))) w' := Mem.gives (As := []) hm fun fp0 _ hf => by
              rw [show fp0 = [] from hf]
              exact ⟨hk, fp, hnd, hsat, fun b hb => .inr (hfr b hb)⟩
            have e1 : resF β (fun i => listed.getD i false) S 0 = resF (upd β i x) (fun i => listed.getD i false) S 0 := resF_same fun j sj hj => by
              refine ⟨rfl, fun hl => ?_⟩
              rw [Nat.zero_add] at hl
              have hjm : j < m := by have := (List.getElem?_eq_some_iff.1 hj).1; omega
              obtain ⟨oj, hoj⟩ : ∃ oj, l[j]? = some oj := ⟨l[j]'(by omega), List.getElem?_eq_getElem (by omega)⟩
              obtain ⟨_, _, s2, _, _, hs2, _, hok2⟩ := hstep j oj (Nat.zero_le _) (htake j oj hjm hoj)
              rw [hj] at hs2; cases hs2
              exact hok2.indA _ _ (hdone j hl x)
            rw [e1, ← List.append_assoc] at hm2
            refine hm2.perm ((resF_add (k := i) hSi ?_ ?_ ?_).append_right _)
            · rw [Nat.zero_add]
              show listed.getD i false = false
              have : ¬ listed.getD i false = true := hn
              simpa using this
            · rw [Nat.zero_add]; exact (getD_set hil).2 (.inl rfl)
            · intro j hj
              rw [Nat.zero_add] at hj
              simp [Array.getD_eq_getD_getElem?, Array.getElem?_setIfInBounds_ne (Ne.symm hj)]
          · intro j oj e sj hj he hSj hL
            rw [getD_set hil] at hL
            by_cases hji : j = i
            · subst hji
              rw [ho] at hj; cases hj
              rw [hd] at he; cases he
              rw [hSi] at hSj; cases hSj
              rw [hd]
              simp [Act.put, hI.size, hdn]
            · have hL' := hL.resolve_left hji
              have hjm : j < m := Nat.lt_of_not_le fun hm => hI.hi j hm hL'
              obtain ⟨_, _, s2, _, _, hs2, _, hok2⟩ := hstep j oj (Nat.zero_le _) (htake j oj hjm hj)
              rw [hSj] at hs2; cases hs2
              rw [hd]
              simp only [Act.put, Array.getElem?_setIfInBounds_ne (hdist j oj e hj hjm hji he)]
              rw [← hok2.indF _ _ (hdone j hL' x)]
              exact hval j oj e sj hj he hSj hL'
        have hq0 := hq
        refine ⟨?_, fun hip => ?_⟩
        rotate_left
        · subst hip
          obtain ⟨d', x', k', ty', pos', af', hl', hsel, hfree⟩ := hpx him
          rw [ho] at hl'; cases hl'
          rw [if_pos (by simp [Region.wanted])] at hq0
          unfold MRun at hq0
          obtain ⟨v, hv, hall2⟩ := ext_pure hq0
          have hfr : Region.free .any l.toArray listed i = true := free_mono hfree fun j hj hne hb => by
            have hj' : j < l.length := by simpa using hj
            have hb' : ((masks l []).getD i 0).testBit j = true := by
              rw [Array.getD_eq_getD_getElem?] at hb
              simpa [hj'] using hb
            have hjs : j < listed.size := by rw [hI.sz]; exact hj'
            rcases ready_anc hc.ac hI.sz hI.dc hi hb' with e | hL
            · exact absurd e hne
            · unfold Ls at hL
              rw [Array.getD_eq_getD_getElem?, Array.getElem?_eq_getElem hjs] at hL ⊢
              exact hL
          refine wpAnyIn_take (oi := ⟨some d', .extract x' k', ty', pos', af', none⟩) (v := v) rfl (by simpa using ho) hsel hfr (by simpa using hi) (fun c a w h => (hQp c _ w h).elim) ⟨.inl ⟨by simp [Region.wanted], fun w2 => by rw [← hex]; exact hall2 w2⟩, fun w2 => rfl⟩ (hnext v w hv)
        unfold wpOpIn
        rw [show l.toArray[i]? = some o from by simpa using ho]
        simp only []
        rw [wanted_of_same ha2] at hq
        split
        · rename_i hw
          rw [if_pos hw] at hq
          refine ⟨fr_about _ _ _ _ _, ?_⟩
          rw [Oper.semAt_eq _ _ _ (fun cc he => by simp [opOk, he] at hoo), ← hex]
          unfold MRun at hq
          revert hq
          generalize (execOp a'.eval o).run P w = res
          intro hq
          match res, hq with
          | .ok (.value v) w', hq => exact hnext v w' hq
          | .ok (.enter f args) w', ⟨e, hcall⟩ =>
            subst e
            refine ⟨by simp [FR, Fence.wide], (calls_wide hcall).mono fun e w'' h => ?_⟩
            obtain ⟨v, rfl, hq⟩ := h
            exact hnext v w'' hq
        · rename_i hw
          rw [if_neg hw] at hq
          exact ⟨fun _ _ => trivial, hnext undef w hq⟩
      by_cases hp : p < m ∧ p ∈ Region.ready .any l.toArray listed
      · exact (main p hp.2 hp.1).2 rfl
      · refine ⟨fun hr => ?_, fun i hi => ?_⟩
        · obtain ⟨i, hi⟩ := least_ready hI.sz hc.ac ⟨i0, by omega, hn0'⟩
          rw [hr] at hi; cases hi
        · have him : i < m := Nat.lt_of_not_le fun hm => by
            have hmk := ready_maskL hc hI.sz hI.dc hi hm
            by_cases hpm : p < m
            · by_cases hLp : Ls listed p
              · exact hn0' (by
                  by_cases e : i0 = p
                  · rw [e]; exact hLp
                  · exact hmk i0 hi0 e)
              · refine hp ⟨hpm, (mem_ready' hI.sz).2 ⟨l[p]'(by omega), List.getElem?_eq_getElem (by omega), hLp, fun e he hb => ?_⟩⟩
                have hlt := acyc_spec hc.ac (List.getElem?_eq_getElem (show p < l.length by omega)) e he hb
                exact hmk e.on (by omega) (by omega)
            · exact hn0' (hmk i0 hi0 (by omega))
          exact (main i hi him).1

/-- the plan so far: 'n' operations of the first part are still to come -/
def AnyM (P : Program) (c : Cx) (D : List Nat) (hs : List Asn) (l : List Oper) (Q : Exit → Act → World → Prop) (m i n : Nat) (rest : List Oper) (SL : (Nat → Value) → Slots) (S : List StepP) : Prop :=
  ∃ S' SL', PlanM P c hs l i (rest.take n) SL S S' SL' ∧ ∀ β, Tr c D (SL' β) (resF β (fun _ => true) S' 0 ++ hs) (Left P l.toArray Q (l.length - m) (Lend l.length m))

theorem tr_drawM {id : Nat} (m : Nat) [hmix : Mix P] (hck : regOkL l m = true) (k : AnyM P c D hs l Q m 0 m l (fun _ => sl) []) : Tr c D sl hs (WP P none (.region id l.toArray true) Q) := fun a w hst => by
  obtain ⟨S, SL', hp, ht⟩ := k
  have h : (Code.region id l.toArray true).wpIn (FR none) 0 P (NP Q) a w := wpIn_region_any hmix.eq (by
    refine phaseM (p := m) (regOkP_spec hck) (fun h => absurd h (Nat.lt_irrefl _)) (fun c a w h => h.elim) hp hst.slots hst.size (fun β a w hst => ht β a w hst) l.toArray.size _ _ _ ⟨by simp, ?_, ?_, hst.defers, hst.size, fun t _ => rfl, ?_, fun _ => undef, ?_, ?_⟩
    · exact fun k o _ hL => absurd hL (not_Ls _ _)
    · exact fun k _ hL => not_Ls _ _ hL
    · exact ⟨List.range l.length, List.nodup_range, fun i => ⟨fun h => ⟨by simpa using h, not_Ls _ _⟩, fun h => by simpa using h.1⟩, by simp⟩
    · have e : ∀ (T : List StepP) (i : Nat), resF (fun _ => undef) (fun i => (Array.replicate l.toArray.size false).getD i false) T i = [] := by
        intro T
        induction T with
        | nil => intro i; rfl
        | cons s T ih =>
          intro i
          have := not_Ls l.toArray.size i
          unfold Ls at this
          unfold resF
          rw [if_neg this, ih]; rfl
      rw [e]
      exact hst.mem.drew
    · exact fun j o d s _ _ _ hL => absurd hL (not_Ls _ _))
  exact wpIn_mono h fun e a' w' h => by
    cases e with
    | panic c => exact h.elim
    | _ => exact h
end
end Go.SL

