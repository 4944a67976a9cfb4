/- Parts of the proof: SPost SOpen S73p S80p S81. -/
import Derived.Test.YtfbgbipclgljaaaGreatDoorVM21
import Derived.Test.YtfbgbipclgljaaaGreatDoorVM12
import Derived.Test.YtfbgbipclgljaaaGreatDoorVM13
import Derived.Test.YtfbgbipclgljaaaGreatDoorVM09
import Derived.Test.YtfbgbipclgljaaaGreatDoorVM06
set_option linter.unusedSectionVars false
set_option linter.unusedVariables false
set_option linter.unusedSimpArgs false
/- SPost -/
/- What a law's row asks at its end. -/
namespace Go.Proofs.YtfbgbipclgljaaaGreatDoor
open Go Go.SL Go.Proofs.A1 Go.ChangeShapes Go.WideShapes Go.ChangeAt Go.RowKit Go.Joins

section
variable {H : Type} {enc : TypeId × Value → H} {P : Program}
theorem post_of_below {f : Func} {s : ChangeSpec} {apart fresh handsOn again : Bool} {W W' : World} {args : Array Value} {v : Value} {ds gs : List (DataW H)} {before pa pv : List MemPlace}
    (hW : DataW.Whole enc P f.params.toList s.vars apart W args.toList ds gs before)
    (hres : ∀ (b : Nat) (sp : Nat → Bool) (hd : Bool), DataW.TrodAll enc P W' b sp hd f.resultTypes.toList (v.resultList f.resultTypes.size) (s.fn H (ds ++ gs)).results [])
    (hargs : ∀ sp : Nat → Bool, (∀ p ∈ before, sp p.block = true) → DataW.TrodAll enc P W' 0 sp true f.params.toList args.toList (s.fn H (ds ++ gs)).args pa)
    (hvars : ∀ sp : Nat → Bool, (∀ p ∈ before, sp p.block = true) → DataW.TrodVars enc P W' sp s.vars (s.fn H (ds ++ gs)).vars pv)
    (hps : before = pa ++ pv) (hb : Below W.heap.size W W')
    (hok : ∀ (j : Nat) (t : TypeId) (r : Value), f.resultTypes[j]? = some t → (v.resultList f.resultTypes.size)[j]? = some r → Value.okWide P W' .any 0 t r) :
    s.post enc P f apart fresh handsOn again W args v W' := by
  have hlt : ∀ p ∈ before, p.block < W.heap.size := fun p hp => hW.lt p hp
  have hold : ∀ p ∈ before, (fun b => decide (b < W.heap.size)) p.block = true := fun p hp => by simpa using hlt p hp
  refine ⟨ds, gs, before, [], pa, pv, hW, hres _ _ _, hargs _ hold, hvars _ hold, World.keptBut_mono (fun p hp => ⟨hp, ?_⟩) (hb.frame (· ∈ before)), fun _ => ?_⟩
  · rw [hps, List.mem_append] at hp
    exact Or.inr hp
  · obtain ⟨_, _, _, _, _, hz, hn⟩ := hW
    refine ⟨hok, _, _, ([] ++ pa) ++ pv, ⟨[] ++ pa, pv, trodAll_append (hargs _ (fun _ _ => rfl)) (hres _ _ _), hvars _ (fun _ _ => rfl), rfl, ?_, ?_⟩, ?_⟩
    · intro b off hp
      have hin : MemPlace.cell b off ∈ before := by rw [hps]; simpa using hp
      rw [hb.frozen (hlt _ hin)]
      exact hz b off hin
    · intro ha
      have := hn ha
      rw [hps] at this
      simpa using this
    · intro p hp _
      rw [hps]
      simpa using hp
end

end Go.Proofs.YtfbgbipclgljaaaGreatDoor


/- SOpen -/
/- The arguments of the laws: what their cells are. -/
namespace Go.Proofs.A1
open Go Go.SL Go.ChangeShapes Go.WideShapes Go.Deep Go.Joins

section
variable {H : Type} {enc : TypeId × Value → H} {w : World}
theorem list1 {α : Type} : ∀ {l : List α}, l.length = 1 → ∃ a, l = [a]
  | [a], _ => ⟨a, rfl⟩
theorem c4 : Tryz.prog.cellsOf 4 = 1 := by kernel_rfl
theorem cells24 {n : Nat} {cs : List Value} {x : DataW H × List MemPlace} (h : DataW.trod enc Tryz.prog w 0 (fun _ => true) true n 24 cs = some x) : ∃ (a0 : Value), cs = [a0] ∧ (∃ (m : Nat) (y : DataW H × List MemPlace), DataW.trod enc Tryz.prog w 0 (fun _ => true) true m 22 [a0] = some y) := by
  obtain ⟨ys, n0, _, _, hlen, hyl, hf⟩ := DataW.trod_struct Tryz.underlying24 h
  rw [c24] at hlen
  have hyl0 : ys.length = 1 := hyl
  obtain ⟨k0, rfl⟩ := list1 hlen
  have f0_0 : DataW.trod enc Tryz.prog w 0 (fun _ => true) true n0 22 (List.take (Tryz.prog.cellsOf 22) (List.drop 0 [k0])) = ys[0]? := hf 0 _ rfl
  rw [c22, List.getElem?_eq_getElem (by omega)] at f0_0
  exact ⟨k0, rfl, ⟨_, _, by simpa using f0_0⟩⟩
theorem open_sched {n : Nat} {sv : Value} {x : DataW H × List MemPlace} (h : DataW.trod enc Tryz.prog w 0 (fun _ => true) true n 24 [sv] = some x) : ∃ es, Rd w sv 6 (ensL es) := by
  obtain ⟨a, e, m, y, h2⟩ := cells24 h
  simp only [List.cons.injEq, and_true] at e
  subst e
  exact open_ens h2
end
end Go.Proofs.A1


/- S73p -/
/- What is on air in a valid schedule. Plain Lean, no program in sight. -/
namespace Go.Proofs.A1
open Go Go.SL

theorem low_eq {a b : Int} (ha : 0 < a) (hb : 0 < b) : ∃ g, 0 < g ∧ a = (lowF a b).1 * g ∧ b = (lowF a b).2 * g := by
  obtain ⟨m, rfl⟩ := Int.eq_ofNat_of_zero_le (Int.le_of_lt ha)
  obtain ⟨n, rfl⟩ := Int.eq_ofNat_of_zero_le (Int.le_of_lt hb)
  refine ⟨gcdF m n, (gcdF_pos hb).1, ?_, ?_⟩
  · unfold lowF gcdF
    simp only [Int.toNat_natCast]
    exact (Int.ediv_mul_cancel (Int.natCast_dvd_natCast.2 (Nat.gcd_dvd_left m n))).symm
  · unfold lowF gcdF
    simp only [Int.toNat_natCast]
    exact (Int.ediv_mul_cancel (Int.natCast_dvd_natCast.2 (Nat.gcd_dvd_right m n))).symm
theorem low_in {a b : Int} (ha : 0 < a) (hab : a ≤ b) : 1 ≤ (lowF a b).1 ∧ (lowF a b).1 ≤ (lowF a b).2 ∧ (lowF a b).2 ≤ b := by
  obtain ⟨g, hg, h1, h2⟩ := low_eq ha (show 0 < b by omega)
  generalize (lowF a b).1 = x at h1 h2 ⊢
  generalize (lowF a b).2 = y at h2 ⊢
  have hx : 0 < x := by
    apply Classical.byContradiction
    intro hn
    have : x * g ≤ 0 := Int.mul_nonpos_of_nonpos_of_nonneg (by omega) (by omega)
    omega
  have hxy : x ≤ y := by
    apply Classical.byContradiction
    intro hn
    have : y * g < x * g := Int.mul_lt_mul_of_pos_right (by omega) hg
    omega
  refine ⟨by omega, hxy, ?_⟩
  have : y * 1 ≤ y * g := Int.mul_le_mul_of_nonneg_left (by omega) (by omega)
  omega
/-- the shares of two entries add up to 1 -/
theorem low_sum {a b c : Int} (ha : 0 < a) (hb : 0 < b) (hc : a + b = c) : (lowF a c).1 * (lowF b c).2 + (lowF b c).1 * (lowF a c).2 = (lowF a c).2 * (lowF b c).2 := by
  obtain ⟨g, hg, h1, h2⟩ := low_eq ha (show 0 < c by omega)
  obtain ⟨k, hk, h3, h4⟩ := low_eq hb (show 0 < c by omega)
  generalize (lowF a c).1 = n1 at *
  generalize (lowF a c).2 = d1 at *
  generalize (lowF b c).1 = n2 at *
  generalize (lowF b c).2 = d2 at *
  have hgk : g * k ≠ 0 := Int.mul_ne_zero (by omega) (by omega)
  apply Int.eq_of_mul_eq_mul_right hgk
  have e1 : n1 * d2 * (g * k) = a * c := by rw [h1]; conv => rhs; rw [h4]
                                            simp only [Int.mul_assoc, Int.mul_left_comm, Int.mul_comm]
  have e2 : n2 * d1 * (g * k) = b * c := by rw [h3]; conv => rhs; rw [h2]
                                            simp only [Int.mul_assoc, Int.mul_left_comm, Int.mul_comm]
  have e3 : d1 * d2 * (g * k) = c * c := by conv => rhs; rw [h2]
                                            conv => rhs; arg 2; rw [← h2, h4]
                                            simp only [Int.mul_assoc, Int.mul_left_comm, Int.mul_comm]
  rw [Int.add_mul, e1, e2, e3, ← hc, Int.add_mul]
theorem Sound.over {es : List En} (h : Sound es) {k : Nat} (hk : k + 1 < es.length) : to es k - fr es (k + 1) ≤ 250 := by
  have h1 := (h.next hk).1
  rw [jn_succ] at h1
  have := (h.all.ok k (by omega)).ov
  omega
/-- what is on air: nothing, one entry, or two -/
theorem Sound.air {es : List En} (h : Sound es) (f : Int) : shF es f = [] ∨ (∃ i : Nat, i < es.length ∧ onB es f i = true ∧ shF es f = [((i : Int), 1, 1)]) ∨
    ∃ (i : Nat) (p q : Int × Int), i + 1 < es.length ∧ shF es f = [((i : Int), p), (((i + 1 : Nat) : Int), q)] ∧ p = lowF (to es i - f) (to es i - fr es (i + 1) + 1) ∧ q = lowF (f - fr es (i + 1) + 1) (to es i - fr es (i + 1) + 1) ∧
      1 ≤ p.1 ∧ p.1 ≤ p.2 ∧ p.2 ≤ 251 ∧ 1 ≤ q.1 ∧ q.1 ≤ q.2 ∧ q.2 ≤ 251 ∧ p.1 * q.2 + q.1 * p.2 = p.2 * q.2 := by
  rcases h.onL f es.length (Nat.le_refl _) with e | ⟨i, h1, h2, e⟩ | ⟨i, h1, h2, h3, e⟩
  · left; unfold shF; rw [e]
  · right; left; exact ⟨i, h1, h2, by unfold shF; rw [e]⟩
  · right; right
    have ho := h.over h1
    simp only [onB, Bool.and_eq_true, decide_eq_true_eq] at h2 h3
    have e2 : to es i - fr es (i + 1) - (f - fr es (i + 1)) = to es i - f := by omega
    have l1 := low_in (a := to es i - f) (b := to es i - fr es (i + 1) + 1) (by omega) (by omega)
    have l2 := low_in (a := f - fr es (i + 1) + 1) (b := to es i - fr es (i + 1) + 1) (by omega) (by omega)
    have l3 := low_sum (a := to es i - f) (b := f - fr es (i + 1) + 1) (c := to es i - fr es (i + 1) + 1) (by omega) (by omega) (by omega)
    refine ⟨i, _, _, h1, ?_, rfl, rfl, l1.1, l1.2.1, by omega, l2.1, l2.2.1, by omega, l3⟩
    unfold shF; rw [e]; dsimp only; rw [e2]
theorem shF_off {es : List En} {f : Int} (h : ∀ k, k < es.length → onB es f k = false) : shF es f = [] := by
  have : onL es f es.length = [] := by
    unfold onL
    rw [List.filter_eq_nil_iff]
    intro k hk
    rw [h k (List.mem_range.1 hk)]; decide
  unfold shF; rw [this]
end Go.Proofs.A1


/- S80p -/
/- What is changed between two schedules. Plain Lean, no program in sight. -/
namespace Go.Proofs.A1
open Go Go.SL

/-- the frames from one up to another -/
def frs (a b : Int) : List Int := (List.range (b - a).toNat).map fun (i : Nat) => a + (i : Int)
theorem mem_frs {a b n : Int} : n ∈ frs a b ↔ a ≤ n ∧ n < b := by
  unfold frs
  rw [List.mem_map]
  constructor
  · rintro ⟨i, hi, rfl⟩
    have := List.mem_range.1 hi
    omega
  · intro h
    exact ⟨(n - a).toNat, List.mem_range.2 (by omega), by omega⟩
theorem frs_nil {a b : Int} (h : b ≤ a) : frs a b = [] := by
  unfold frs
  rw [show (b - a).toNat = 0 by omega]; rfl
theorem frs_succ {a b : Int} (h : a ≤ b) : frs a (b + 1) = frs a b ++ [b] := by
  unfold frs
  rw [show (b + 1 - a).toNat = (b - a).toNat + 1 by omega, List.range_succ, List.map_append]
  congr 1
  show [a + (((b - a).toNat : Nat) : Int)] = [b]
  congr 1; omega
/-- the end of the entry before one (its own first frame, if there is none) -/
def pvTo (es : List En) (k : Nat) : Int := if 0 < k then to es (k - 1) else fr es k
/-- the frames at which what is on air may become different -/
def tnL (es : List En) : Nat → List Int
  | 0 => []
  | k + 1 => tnL es k ++ [fr es k, to es k] ++ frs (fr es k) (pvTo es k)
theorem mem_tnL {es : List En} {n : Int} : ∀ {k : Nat}, n ∈ tnL es k ↔ ∃ i, i < k ∧ (n = fr es i ∨ n = to es i ∨ (fr es i ≤ n ∧ n < pvTo es i))
  | 0 => by simp [tnL]
  | k + 1 => by
    rw [tnL, List.mem_append, List.mem_append, mem_tnL (k := k), mem_frs]
    simp only [List.mem_cons, List.not_mem_nil, or_false]
    constructor
    · rintro ((⟨i, hi, h⟩ | h) | h)
      · exact ⟨i, by omega, h⟩
      · exact ⟨k, by omega, by rcases h with h | h; exact .inl h; exact .inr (.inl h)⟩
      · exact ⟨k, by omega, .inr (.inr h)⟩
    · rintro ⟨i, hi, h⟩
      by_cases e : i = k
      · subst e
        rcases h with h | h | h
        · exact .inl (.inr (.inl h))
        · exact .inl (.inr (.inr h))
        · exact .inr h
      · exact .inl (.inl ⟨i, by omega, h⟩)
/-- between two turns all stays as it is -/
theorem Sound.still {es : List En} (h : Sound es) {n : Int} (hn : n ∉ tnL es es.length) : shF es n = shF es (n - 1) := by
  have hne : ∀ k, k < es.length → n ≠ fr es k ∧ n ≠ to es k ∧ ¬ (fr es k ≤ n ∧ n < pvTo es k) := fun k hk =>
    ⟨fun e => hn (mem_tnL.2 ⟨k, hk, .inl e⟩), fun e => hn (mem_tnL.2 ⟨k, hk, .inr (.inl e)⟩), fun e => hn (mem_tnL.2 ⟨k, hk, .inr (.inr e)⟩)⟩
  have hb : ∀ k, k < es.length → onB es n k = onB es (n - 1) k := fun k hk => by
    have := hne k hk
    unfold onB
    rw [show decide (fr es k ≤ n) = decide (fr es k ≤ n - 1) from decide_eq_decide.2 (by omega), show decide (n < to es k) = decide (n - 1 < to es k) from decide_eq_decide.2 (by omega)]
  have hl : A1.onL es n es.length = A1.onL es (n - 1) es.length := by
    unfold Go.Proofs.A1.onL
    exact List.filter_congr fun k hk => hb k (List.mem_range.1 hk)
  rcases h.onL n es.length (Nat.le_refl _) with e | ⟨i, h1, h2, e⟩ | ⟨i, h1, h2, h3, e⟩
  · unfold shF; rw [← hl, e]
  · unfold shF; rw [← hl, e]
  · exfalso
    have := (hne (i + 1) h1).2.2
    simp only [onB, Bool.and_eq_true, decide_eq_true_eq] at h2 h3
    apply this
    unfold pvTo
    rw [if_pos (by omega), Nat.add_sub_cancel]
    exact ⟨h3.1, h2.2⟩
/-- the names and the parts that are on air -/
def vwL (es : List En) (f : Int) : List (ByteArray × Int × Int) := (shF es f).map fun x => ((nth es x.1.toNat).nm, x.2)
theorem Sound.vw_still {es : List En} (h : Sound es) {n : Int} (hn : n ∉ tnL es es.length) : vwL es n = vwL es (n - 1) := by
  unfold vwL; rw [h.still hn]
theorem vw_off {es : List En} {n : Int} (h : ∀ k, k < es.length → n < fr es k ∨ to es k ≤ n) : vwL es n = [] := by
  unfold vwL
  rw [shF_off fun k hk => ?_]; rfl
  have := h k hk
  unfold onB
  rw [Bool.and_eq_false_iff, decide_eq_false_iff_not, decide_eq_false_iff_not]
  omega
/-- is something else on air? -/
def dfB (a b : List En) (n : Int) : Bool := decide (vwL a n ≠ vwL b n)
/-- the changed span -/
structure ChSp (D : Int → Bool) (p q : Int) : Prop where
  p1 : D p = true
  p0 : ∀ n, n < p → D n = false
  q1 : D (q - 1) = true
  q0 : ∀ n, q ≤ n → D n = false
theorem ChSp.same {D : Int → Bool} {p q p' q' : Int} (h : ChSp D p q) (h' : ChSp D p' q') : p = p' ∧ q = q' := by
  constructor
  · apply Classical.byContradiction
    intro hn
    by_cases hl : p < p'
    · have := h'.p0 p hl; rw [h.p1] at this; cases this
    · have := h.p0 p' (by omega); rw [h'.p1] at this; cases this
  · apply Classical.byContradiction
    intro hn
    by_cases hl : q < q'
    · have := h.q0 (q' - 1) (by omega); rw [h'.q1] at this; cases this
    · have := h'.q0 (q - 1) (by omega); rw [h.q1] at this; cases this
/-- what turns know -/
structure Turns (D : Int → Bool) (T : List Int) : Prop where
  st : ∀ n, n ∉ T → D n = D (n - 1)
  neg : ∀ n, n < 0 → D n = false
  inc : T.Pairwise (· < ·)
theorem up_same {D : Int → Bool} {m : Int} : ∀ (k : Nat), (∀ n, m < n → n ≤ m + k → D n = D (n - 1)) → D (m + k) = D m
  | 0, _ => by rw [Int.natCast_zero, Int.add_zero]
  | k + 1, h => by
    have h1 := up_same k fun n a b => h n a (by omega)
    have h2 := h (m + (k + 1 : Nat)) (by omega) (by omega)
    rw [h2, show m + ((k + 1 : Nat) : Int) - 1 = m + k by omega, h1]
theorem up_to {D : Int → Bool} {m n : Int} (hmn : m ≤ n) (h : ∀ x, m < x → x ≤ n → D x = D (x - 1)) : D n = D m := by
  have := up_same (D := D) (m := m) (n - m).toNat fun x a b => h x a (by omega)
  rwa [show m + (((n - m).toNat : Nat) : Int) = n by omega] at this
theorem Turns.lt {D : Int → Bool} {T : List Int} (h : Turns D T) {i j : Nat} (hij : i < j) (hj : j < T.length) : T[i]'(by omega) < T[j] :=
  List.pairwise_iff_getElem.1 h.inc i j (by omega) hj hij
/-- nothing is changed ahead of a turn ahead of which no turn is changed -/
theorem Turns.ahead {D : Int → Bool} {T : List Int} (h : Turns D T) {m : Int} (hm : ∀ t ∈ T, t < m → D t = false) : ∀ n, n < m → D n = false := by
  have key : ∀ k : Nat, ((k : Int) - 1) < m → D ((k : Int) - 1) = false := by
    intro k
    induction k with
    | zero => intro _; exact h.neg _ (by omega)
    | succ k ih =>
      intro hk
      by_cases ht : (((k + 1 : Nat) : Int) - 1) ∈ T
      · exact hm _ ht hk
      · rw [h.st _ ht, show ((k + 1 : Nat) : Int) - 1 - 1 = (k : Int) - 1 by omega]
        exact ih (by omega)
  intro n hn
  by_cases h0 : n < 0
  · exact h.neg n h0
  · have := key (n + 1).toNat (by omega)
    rwa [show (((n + 1).toNat : Nat) : Int) - 1 = n by omega] at this
theorem Turns.none {D : Int → Bool} {T : List Int} (h : Turns D T) (hz : ∀ t ∈ T, D t = false) : ∀ n, D n = false :=
  fun n => h.ahead (m := n + 1) (fun t ht _ => hz t ht) n (by omega)
theorem Turns.behind {D : Int → Bool} {T : List Int} (h : Turns D T) {m : Int} (h0 : D m = false) (hm : ∀ t ∈ T, m < t → D t = false) : ∀ n, m ≤ n → D n = false := by
  have key : ∀ k : Nat, D (m + k) = false := by
    intro k
    induction k with
    | zero => rw [Int.natCast_zero, Int.add_zero]; exact h0
    | succ k ih =>
      by_cases ht : (m + ((k + 1 : Nat) : Int)) ∈ T
      · exact hm _ ht (by omega)
      · rw [h.st _ ht, show m + ((k + 1 : Nat) : Int) - 1 = m + k by omega]; exact ih
  intro n hn
  have := key (n - m).toNat
  rwa [show m + (((n - m).toNat : Nat) : Int) = n by omega] at this
/-- the changed span lies between the first turn that is changed and the turn behind the last one -/
theorem Turns.span {D : Int → Bool} {T : List Int} (h : Turns D T) {i j : Nat} (hj : j + 1 < T.length) (hij : i ≤ j) (hi : D (T[i]'(by omega)) = true) (hi0 : ∀ k (hk : k < i), D (T[k]'(by omega)) = false) (hj1 : D (T[j]'(by omega)) = true) (hj0 : ∀ k (hk : k < T.length), j < k → D T[k] = false) :
    ChSp D (T[i]'(by omega)) T[j + 1] := by
  refine ⟨hi, h.ahead fun t ht hlt => ?_, ?_, h.behind (hj0 _ _ (by omega)) fun t ht hlt => ?_⟩
  · obtain ⟨k, hk, rfl⟩ := List.getElem_of_mem ht
    have : k < i := by
      apply Classical.byContradiction
      intro hn
      by_cases e : k = i
      · subst e; omega
      · have := h.lt (i := i) (j := k) (by omega) hk; omega
    exact hi0 k this
  · have hlt := h.lt (i := j) (j := j + 1) (by omega) hj
    rw [up_to (D := D) (m := T[j]'(by omega)) (n := T[j + 1] - 1) (by omega) fun x h1 h2 => h.st x fun hx => ?_]
    · exact hj1
    · obtain ⟨k, hk, rfl⟩ := List.getElem_of_mem hx
      have a1 : j < k := by
        apply Classical.byContradiction
        intro hn
        by_cases e : k = j
        · subst e; omega
        · have := h.lt (i := k) (j := j) (by omega) (by omega); omega
      have a2 : k < j + 1 := by
        apply Classical.byContradiction
        intro hn
        by_cases e : k = j + 1
        · subst e; omega
        · have := h.lt (i := j + 1) (j := k) (by omega) hk; omega
      omega
  · obtain ⟨k, hk, rfl⟩ := List.getElem_of_mem ht
    have : j < k := by
      apply Classical.byContradiction
      intro hn
      by_cases e : k = j + 1
      · omega
      · have := h.lt (i := k) (j := j + 1) (by omega) hj; omega
    exact hj0 k hk this
theorem Sound.pv_le {es : List En} (h : Sound es) {k : Nat} (hk : k < es.length) : pvTo es k ≤ to es k := by
  unfold pvTo
  split
  · have := h.to_lt (i := k - 1) (k := k) (by omega) hk; omega
  · have := h.fr_nn hk; omega
theorem tn_in {es : List En} (h : Sound es) {n : Int} (hn : n ∈ tnL es es.length) : 0 ≤ n ∧ n ≤ 10000000 ∧ ∃ k, k < es.length ∧ n ≤ to es k := by
  obtain ⟨k, hk, e⟩ := mem_tnL.1 hn
  have h1 := h.fr_nn hk
  have h2 := h.pv_le hk
  rcases e with e | e | e <;> exact ⟨by omega, by omega, k, hk, by omega⟩
/-- behind the last turn nothing is on air -/
theorem df_end {a b : List En} {n : Int} (h : ∀ m, m ∈ tnL a a.length ∨ m ∈ tnL b b.length → m ≤ n) : dfB a b n = false := by
  unfold dfB
  rw [vw_off fun k hk => .inr (h _ (.inl (mem_tnL.2 ⟨k, hk, .inr (.inl rfl)⟩))), vw_off fun k hk => .inr (h _ (.inr (mem_tnL.2 ⟨k, hk, .inr (.inl rfl)⟩)))]
  simp
theorem df_neg {a b : List En} (ha : Sound a) (hb : Sound b) {n : Int} (h : n < 0) : dfB a b n = false := by
  unfold dfB
  rw [vw_off fun k hk => .inl (by have := ha.fr_nn hk; omega), vw_off fun k hk => .inl (by have := hb.fr_nn hk; omega)]
  simp
theorem df_still {a b : List En} (ha : Sound a) (hb : Sound b) {n : Int} (h1 : n ∉ tnL a a.length) (h2 : n ∉ tnL b b.length) : dfB a b n = dfB a b (n - 1) := by
  unfold dfB; rw [ha.vw_still h1, hb.vw_still h2]
end Go.Proofs.A1


/- S81 -/
namespace Go.Proofs.A1
open Go Go.SL

/-- the turns of the first entries and of one more, up to a frame -/
def tnP (es : List En) (k : Nat) (n : Int) : List Int := tnL es k ++ [fr es k, to es k] ++ frs (fr es k) n
theorem frs_len (a b : Int) : (frs a b).length = (b - a).toNat := by simp [frs]
theorem Sound.pv_in {es : List En} (h : Sound es) {k : Nat} (hk : k < es.length) : pvTo es k - fr es k ≤ 250 := by
  unfold pvTo
  split
  · have := h.over (k := k - 1) (by omega)
    rwa [show k - 1 + 1 = k by omega] at this
  · omega
theorem Sound.tn_len {es : List En} (h : Sound es) : ∀ k, k ≤ es.length → (tnL es k).length ≤ 300 * k
  | 0, _ => Nat.le_refl _
  | k + 1, hk => by
    have h1 := h.tn_len k (by omega)
    have h2 := h.pv_in (k := k) (by omega)
    rw [tnL, List.length_append, List.length_append, frs_len]
    simp only [List.length_cons, List.length_nil]
    omega
theorem Sound.tnP_len {es : List En} (h : Sound es) {k : Nat} (hk : k < es.length) {n : Int} (hn : n ≤ fr es k ∨ n ≤ pvTo es k) : (tnP es k n).length ≤ 8000 := by
  have h1 := h.tn_len k (by omega)
  have h2 := h.pv_in hk
  have h3 := h.all.few
  rw [tnP, List.length_append, List.length_append, frs_len]
  simp only [List.length_cons, List.length_nil]
  omega
theorem tnP_succ {es : List En} {k : Nat} {n : Int} (h : fr es k ≤ n) : tnP es k (n + 1) = tnP es k n ++ [n] := by
  unfold tnP; rw [frs_succ h, ← List.append_assoc]
theorem tnP_zero {es : List En} {k : Nat} : tnP es k (fr es k) = tnL es k ++ [fr es k, to es k] := by
  unfold tnP; rw [frs_nil (Int.le_refl _), List.append_nil]
theorem tnP_end {es : List En} {k : Nat} {n : Int} (h : n = pvTo es k ∨ (n = fr es k ∧ pvTo es k ≤ n)) : tnP es k n = tnL es (k + 1) := by
  rw [tnL, tnP]
  rcases h with h | ⟨h, h2⟩
  · rw [h]
  · rw [frs_nil (by omega), frs_nil (by omega)]
def intsV (l : List Int) : List Value := l.map (Value.int .i64)
theorem intsV_flat (l : List Int) : intsV l = (ints l).flatten := by
  induction l with
  | nil => rfl
  | cons a l ih => simp only [intsV, ints, List.map_cons, List.flatten_cons] at ih ⊢; rw [ih]; rfl
theorem intsV_length (l : List Int) : (intsV l).length = l.length := by simp [intsV]
theorem intsV_app (a b : List Int) : intsV (a ++ b) = intsV a ++ intsV b := by simp [intsV]
theorem rdIntsV {c : Cx} {hs hs' : List Asn} {w : World} {E : TypeId} {v : Value} {l : List Int} {n : Nat} (hm : Mem c hs w) (ht : Take hs (row E 1 v n (intsV l)) hs') (hn : n = l.length) : Rd w v 1 (ints l) :=
  hm.rdRow ht (intsV_flat l) (fun r hr => by obtain ⟨x, _, rfl⟩ := List.mem_map.1 hr; rfl) (by rw [hn]; exact ints_length l)
set_option maxHeartbeats 1000000 in
theorem turns_c {lv : Value} {es : List En} {w : World} (h : Rd w lv 8 (plRows es)) (hs : Sound es) :
    Gives Tryz.prog 167 [lv] w [] (fun _ : Value => True) id (fun v => [row 3 1 v (tnL es es.length).length (intsV (tnL es es.length))]) := by
  obtain ⟨a, cp, b, o, rfl, hcap, hmax, ha, hc⟩ := h
  rw [plRows_length] at *
  unfold maxLen at hmax
  have hfew := hs.all.few
  refine gives_of_tr Tryz.func167 rfl rfl ?_
  (refine s_r ?_; refine a_s rfl rfl ?_; refine n_r ?_; refine a_s rfl rfl ?_; refine n_t ?_; refine tr_seq ?_; refine s_r ?_; refine m_v rfl rfl ?_; refine tr_val (rk_len_slice (.of rfl)) rfl ?_; refine m_v rfl rfl ?_; refine n_t ?_; refine tr_block ?_)
  refine tr_rowNil 3 1 ?_
  refine tr_for (ι := Nat × Value) (fun x => x.1 ≤ es.length) (fun x => [(9, .int .i64 x.1), (8, .int .i64 es.length), (7, .slice a es.length cp), (3, x.2), (0, .slice a es.length cp)]) (fun x => [row 3 1 x.2 (tnL es x.1).length (intsV (tnL es x.1))]) (fun x => es.length - x.1) ?_ ?_
  · apply tr_start (0, .slice none 0 0) (Nat.zero_le _)
    case hs1 => exact .cons rfl (.cons rfl (.cons rfl (.cons rfl (.cons rfl .nil))))
    case ht =>
      show Takes _ [row 3 1 (.slice none 0 0) 0 []] _
      exact .cons .here .nil
  rintro ⟨k, v⟩ hk
  dsimp only at hk ⊢
  by_cases hlt : k < es.length
  · have ha' := ha (plRows_ne hlt)
    have hcell := (hc k _ (plRows_get hlt)).2
    have hk1 : (max 0 ((k : Int) - 1)).toNat = k - 1 := by omega
    have p7 : w.cell? ⟨b, o + (max 0 ((k : Int) - 1)).toNat * 8 + 7, none⟩ = some (.int .i64 (to es (k - 1))) := by
      rw [hk1]; exact (hc (k - 1) _ (plRows_get (by omega))).2 7 _ rfl
    have b0 := hs.fr_nn hlt
    have b1 := hs.fr_nn (k := k - 1) (by omega)
    have hl0 := hs.tn_len k hk
    have hpv : 0 < k → pvTo es k = to es (k - 1) := fun h => by rw [pvTo, if_pos h]
    have hpv0 : ¬ 0 < k → pvTo es k = fr es k := fun h => by rw [pvTo, if_neg h]
    unfold plL at hcell
    (refine s_r ?_; refine tr_val (rk_lss (.of rfl) (.of rfl)) rfl ?_; refine n_t ?_; refine tr_seq ?_; refine c_d rfl (fun hcd => ?_) (fun _ => by omega); refine s_t ?_; refine tr_seq ?_; refine tr_block ?_; refine s_r ?_; refine m_v rfl rfl ?_; refine tr_val (rk_indexAddr (.of rfl) (.of rfl) ha' (by omega) hcd norm1_) rfl ?_; refine tr_val (rk_loadN (.of rfl) (Ats.base hcell rfl) rfl) rfl ?_; refine tr_new (rk_alloc rfl) rfl (fun _ _ => ?_); refine a_s rfl rfl ?_; refine tr_store (.of rfl) (.of rfl) .here rfl rfl (okc_cons rfl (okc_cons rfl (okc_cons rfl (okc_cons rfl (okc_cons rfl (okc_cons rfl (okc_cons rfl (okc_cons rfl okc_nil)))))))) (lenb rfl) norm_ ?_; refine n_r ?_; refine m_v rfl rfl ?_; refine f_a rfl rfl norm0_ ?_; refine f_a rfl rfl norm0_ ?_; refine tr_val (rk_load1 (.of rfl) (At.lit .here rfl)) rfl ?_; refine f_a rfl rfl norm0_ ?_; refine f_a rfl rfl norm0_ ?_; refine tr_val (rk_load1 (.of rfl) (At.lit .here rfl)) rfl ?_; refine tr_new (rk_sliceLit (.cons (.of rfl) (.cons (.of rfl) .nil)) rfl rfl rfl rfl) rfl (fun _ _ => ?_))
    rename_i b5 hb5 _ _
    refine tr_appendB (.of rfl) (.of rfl) (.there (.there .here)) .here norm_ (by rfl) (okc_cons rfl (okc_cons rfl okc_nil)) (by rfl) (by rfl) (by rfl) lenx_ (by rfl) ?_
    intro v1
    (refine a_s rfl rfl ?_; refine n_r ?_; refine f_a rfl rfl norm0_ ?_; refine f_a rfl rfl norm0_ ?_; refine tr_val (rk_load1 (.of rfl) (At.lit (.there (.there .here)) rfl)) rfl ?_; refine a_s rfl rfl ?_; refine n_t ?_; refine tr_block ?_)
    refine tr_for (ι := Int × Value) (fun x => fr es k ≤ x.1 ∧ (x.1 ≤ fr es k ∨ x.1 ≤ pvTo es k)) (fun x => [(6, .int .i64 x.1), (3, x.2), (4, .int .i64 (k : Int)), (5, .pointer (some ⟨b5, 0, none⟩)), (9, .int .i64 (k : Int)), (8, .int .i64 es.length), (7, .slice a es.length cp), (0, .slice a es.length cp)]) (fun x => [row 3 1 x.2 (tnP es k x.1).length (intsV (tnP es k x.1))]) (fun x => (pvTo es k - x.1).toNat) ?_ ?_
    · apply tr_start (fr es k, v1) ⟨Int.le_refl _, .inl (Int.le_refl _)⟩
      case hs1 => exact .cons rfl (.cons rfl (.cons rfl (.cons rfl (.cons rfl (.cons rfl (.cons rfl (.cons rfl .nil)))))))
      case ht =>
        show Takes _ [row 3 1 v1 (tnP es k (fr es k)).length (intsV (tnP es k (fr es k)))] _
        rw [tnP_zero, intsV_app, List.length_append]
        show Takes _ [row 3 1 v1 ((tnL es k).length + 2) (intsV (tnL es k) ++ [.int .i64 (fr es k), .int .i64 (to es k)])] _
        exact .cons .here .nil
    rintro ⟨n, v2⟩ ⟨hn0, hn1⟩
    dsimp only at hn0 hn1 ⊢
    have hl1 := hs.tnP_len hlt hn1
    (refine tr_seq ?_; refine s_r ?_; refine m_v rfl rfl ?_; refine tr_val (rk_gtr (.of rfl) (.of rfl)) rfl ?_; refine m_v rfl rfl ?_; refine v_g rfl rfl rfl rfl ?_; refine v_g rfl rfl rfl rfl ?_; refine v_g rfl rfl rfl rfl ?_; refine tr_vG1 rfl rfl inferInstance (fun hg hgp => (rk_sub (.ofg hg rfl) (.of rfl) (ini (by omega)))) rfl ?_; refine tr_vG1 rfl rfl inferInstance (fun hg hgp => (rk_max2 (.of rfl) (.ofg hg rfl))) rfl ?_; refine tr_vG1 rfl rfl inferInstance (fun hg hgp => (rk_indexAddr (.ofg hg rfl) (.ofg hg rfl) ha' (by omega) (by omega) norm1_)) rfl ?_; refine tr_vG1 rfl rfl inferInstance (fun hg hgp => (rk_fieldAddr (.ofg hg rfl) norm0_)) rfl ?_; refine tr_vG1 rfl rfl inferInstance (fun hg hgp => (rk_fieldAddr (.ofg hg rfl) norm0_)) rfl ?_; refine tr_vG1 rfl rfl inferInstance (fun hg hgp => (rk_load1 (.ofg hg rfl) (At.base p7 rfl))) rfl ?_; refine tr_vG1 rfl rfl inferInstance (fun hg hgp => (rk_lss (.ofg hg rfl) (.ofg hg rfl))) rfl ?_; refine tr_val (rk_pick_and (.of rfl) rfl) rfl ?_; refine n_t ?_; refine c_b rfl (fun hcd => ?_) (fun hcd => ?_); refine s_t ?_; refine tr_seq ?_; refine tr_block ?_; refine tr_region ?_; refine m_v rfl rfl ?_; refine m_v rfl rfl ?_; refine tr_new (rk_sliceLit (.cons (.of rfl) .nil) rfl rfl rfl rfl) rfl (fun _ _ => ?_); rotate_left; refine x_t ?_; refine tr_then_exit ?_; refine tr_blk_exit ?_; refine tr_blk_normal ?_; refine tr_then ?_; refine tr_region ?_; refine tr_val (rk_add (.of rfl) (.of rfl) (ini (by omega))) rfl ?_; refine m_v rfl rfl ?_; refine n_t ?_; rotate_right)
    · have hk0 : 0 < k := by omega
      have hpe := hpv hk0
      have hnt : n < to es (k - 1) := hcd.2
      have hsx := tnP_succ (es := es) (k := k) hn0
      have hl2 := hs.tnP_len hlt (n := n + 1) (.inr (by omega))
      clear hcd
      refine tr_appendB (.of rfl) (.of rfl) (.there .here) .here norm_ (by rfl) (okc_cons rfl okc_nil) (by rfl) (by rfl) (by rfl) lenx_ (by rfl) ?_
      intro v3
      (refine a_s rfl rfl ?_; refine tr_nil ?_; refine tr_blk_normal ?_; refine tr_then ?_; refine tr_region ?_; refine m_v rfl rfl ?_; refine tr_val (rk_add (.of rfl) (.of rfl) (ini (by omega))) rfl ?_; refine a_s rfl rfl ?_; refine n_t ?_)
      apply tr_next (n + 1, v3) ⟨(show fr es k ≤ n + 1 by omega), (show n + 1 ≤ fr es k ∨ n + 1 ≤ pvTo es k by omega)⟩ (show (pvTo es k - (n + 1)).toNat < (pvTo es k - n).toNat by omega)
      case hs1 => exact .cons rfl (.cons rfl (.cons rfl (.cons rfl (.cons rfl (.cons rfl (.cons rfl (.cons rfl .nil)))))))
      case ht =>
        show Takes _ [row 3 1 v3 (tnP es k (n + 1)).length (intsV (tnP es k (n + 1)))] _
        rw [hsx, intsV_app, List.length_append]
        show Takes _ [row 3 1 v3 ((tnP es k n).length + 1) (intsV (tnP es k n) ++ [.int .i64 n])] _
        exact .cons .here .nil
    · have hte : tnP es k n = tnL es (k + 1) := by
        refine tnP_end ?_
        by_cases hk0 : 0 < k
        · have := hpv hk0; omega
        · have := hpv0 hk0; omega
      rw [hte]
      clear hcd
      apply tr_next (k + 1, v2) (show k + 1 ≤ es.length from hlt) (show es.length - (k + 1) < es.length - k by omega)
      case hs1 => exact .cons rfl (.cons rfl (.cons rfl (.cons rfl (.cons rfl .nil))))
      case ht => exact .cons .here .nil
  · obtain rfl : k = es.length := by omega
    (refine s_r ?_; refine tr_val (rk_lss (.of rfl) (.of rfl)) rfl ?_; refine n_t ?_; refine tr_seq ?_; refine c_d rfl (fun _ => by omega) (fun hcd => ?_); refine x_t ?_; refine tr_then_exit ?_; refine tr_blk_exit ?_; refine tr_then ?_; refine s_r ?_; refine m_v rfl rfl ?_; refine a_s rfl rfl ?_; refine n_t ?_; refine tr_ret ?_)
    first | with_reducible apply tr_retM | with_reducible apply tr_endM
    case he => exact ends1 rfl rfl
    case hR =>
      intro w' hm'
      exact gives_end v trivial (show Takes _ [row 3 1 v (tnL es es.length).length (intsV (tnL es es.length))] _ by exact .cons .here .nil) hm' rfl
end Go.Proofs.A1

