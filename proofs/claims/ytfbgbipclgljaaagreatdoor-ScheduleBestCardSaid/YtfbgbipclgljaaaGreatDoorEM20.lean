/- Parts of the proof: SOpen R1 R2 R3 R4 R5. -/
import Derived.Test.YtfbgbipclgljaaaGreatDoorEM19
import Derived.Test.YtfbgbipclgljaaaGreatDoorEM10
import Derived.Test.YtfbgbipclgljaaaGreatDoorEM11
import Derived.Test.YtfbgbipclgljaaaGreatDoorEM06
set_option linter.unusedSectionVars false
set_option linter.unusedVariables false
set_option linter.unusedSimpArgs false
/- SOpen -/
/- The arguments of the laws: what their cells are. -/
namespace Go.Proofs.A1
open Go Go.SL Go.ChangeShapes Go.WideShapes Go.Deep Go.Joins

section
variable {H : Type} {enc : TypeId × Value → H} {w : World}
theorem list2 {α : Type} : ∀ {l : List α}, l.length = 2 → ∃ a b, l = [a, b]
  | [a, b], _ => ⟨a, b, rfl⟩
theorem list4 {α : Type} : ∀ {l : List α}, l.length = 4 → ∃ a b c d, l = [a, b, c, d]
  | [a, b, c, d], _ => ⟨a, b, c, d, rfl⟩
theorem c4 : Tryz.prog.cellsOf 4 = 1 := by kernel_rfl
theorem c132 : Tryz.prog.cellsOf 132 = 4 := by kernel_rfl
theorem cells132 {n : Nat} {cs : List Value} {x : DataW H × List MemPlace} (h : DataW.trod enc Tryz.prog w 0 (fun _ => true) true n 132 cs = some x) : ∃ (a0 : ByteArray) (a1 : Int) (a2 : Int) (a3 : Int), cs = [.string a0, .int .i64 a1, .int .i64 a2, .int .i64 a3] := by
  obtain ⟨ys, n0, _, _, hlen, hyl, hf⟩ := DataW.trod_struct Tryz.underlying132 h
  rw [c132] at hlen
  have hyl0 : ys.length = 4 := hyl
  obtain ⟨k0, k1, k2, k3, rfl⟩ := list4 hlen
  have f0_0 : DataW.trod enc Tryz.prog w 0 (fun _ => true) true n0 9 (List.take (Tryz.prog.cellsOf 9) (List.drop 0 [k0, k1, k2, k3])) = ys[0]? := hf 0 _ rfl
  rw [c9, List.getElem?_eq_getElem (by omega)] at f0_0
  obtain ⟨b0, eb0, _, _⟩ := DataW.trod_string Tryz.underlying9 f0_0
  simp at eb0
  have f0_1 : DataW.trod enc Tryz.prog w 0 (fun _ => true) true n0 3 (List.take (Tryz.prog.cellsOf 3) (List.drop 1 [k0, k1, k2, k3])) = ys[1]? := hf 1 _ rfl
  rw [c3, List.getElem?_eq_getElem (by omega)] at f0_1
  obtain ⟨b1, eb1, _, _⟩ := DataW.trod_int Tryz.underlying3 f0_1
  simp at eb1
  have f0_2 : DataW.trod enc Tryz.prog w 0 (fun _ => true) true n0 3 (List.take (Tryz.prog.cellsOf 3) (List.drop 2 [k0, k1, k2, k3])) = ys[2]? := hf 2 _ rfl
  rw [c3, List.getElem?_eq_getElem (by omega)] at f0_2
  obtain ⟨b2, eb2, _, _⟩ := DataW.trod_int Tryz.underlying3 f0_2
  simp at eb2
  have f0_3 : DataW.trod enc Tryz.prog w 0 (fun _ => true) true n0 3 (List.take (Tryz.prog.cellsOf 3) (List.drop 3 [k0, k1, k2, k3])) = ys[3]? := hf 3 _ rfl
  rw [c3, List.getElem?_eq_getElem (by omega)] at f0_3
  obtain ⟨b3, eb3, _, _⟩ := DataW.trod_int Tryz.underlying3 f0_3
  simp at eb3
  subst eb0 eb1 eb2 eb3
  exact ⟨b0, b1, b2, b3, rfl⟩
theorem c85 : Tryz.prog.cellsOf 85 = 2 := by kernel_rfl
theorem cells85 {n : Nat} {cs : List Value} {x : DataW H × List MemPlace} (h : DataW.trod enc Tryz.prog w 0 (fun _ => true) true n 85 cs = some x) : ∃ (a0 : Int) (a1 : Int), cs = [.int .i64 a0, .int .i64 a1] := by
  obtain ⟨ys, n0, _, _, hlen, hyl, hf⟩ := DataW.trod_struct Tryz.underlying85 h
  rw [c85] at hlen
  have hyl0 : ys.length = 2 := hyl
  obtain ⟨k0, k1, rfl⟩ := list2 hlen
  have f0_0 : DataW.trod enc Tryz.prog w 0 (fun _ => true) true n0 3 (List.take (Tryz.prog.cellsOf 3) (List.drop 0 [k0, k1])) = ys[0]? := hf 0 _ rfl
  rw [c3, List.getElem?_eq_getElem (by omega)] at f0_0
  obtain ⟨b0, eb0, _, _⟩ := DataW.trod_int Tryz.underlying3 f0_0
  simp at eb0
  have f0_1 : DataW.trod enc Tryz.prog w 0 (fun _ => true) true n0 3 (List.take (Tryz.prog.cellsOf 3) (List.drop 1 [k0, k1])) = ys[1]? := hf 1 _ rfl
  rw [c3, List.getElem?_eq_getElem (by omega)] at f0_1
  obtain ⟨b1, eb1, _, _⟩ := DataW.trod_int Tryz.underlying3 f0_1
  simp at eb1
  subst eb0 eb1
  exact ⟨b0, b1, rfl⟩
theorem c83 : Tryz.prog.cellsOf 83 = 4 := by kernel_rfl
theorem c80 : Tryz.prog.cellsOf 80 = 1 := by kernel_rfl
theorem c44 : Tryz.prog.cellsOf 44 = 1 := by kernel_rfl
theorem c81 : Tryz.prog.cellsOf 81 = 1 := by kernel_rfl
theorem cells83 {n : Nat} {cs : List Value} {x : DataW H × List MemPlace} (h : DataW.trod enc Tryz.prog w 0 (fun _ => true) true n 83 cs = some x) : ∃ (a0 : Int) (a1 : Value) (a2 : Value) (a3 : Value), cs = [.int .i64 a0, a1, a2, a3] ∧ (∃ (m : Nat) (y : DataW H × List MemPlace), DataW.trod enc Tryz.prog w 0 (fun _ => true) true m 80 [a1] = some y) ∧ (∃ (m : Nat) (y : DataW H × List MemPlace), DataW.trod enc Tryz.prog w 0 (fun _ => true) true m 44 [a2] = some y) ∧ (∃ (m : Nat) (y : DataW H × List MemPlace), DataW.trod enc Tryz.prog w 0 (fun _ => true) true m 81 [a3] = some y) := by
  obtain ⟨ys, n0, _, _, hlen, hyl, hf⟩ := DataW.trod_struct Tryz.underlying83 h
  rw [c83] at hlen
  have hyl0 : ys.length = 4 := hyl
  obtain ⟨k0, k1, k2, k3, rfl⟩ := list4 hlen
  have f0_0 : DataW.trod enc Tryz.prog w 0 (fun _ => true) true n0 3 (List.take (Tryz.prog.cellsOf 3) (List.drop 0 [k0, k1, k2, k3])) = ys[0]? := hf 0 _ rfl
  rw [c3, List.getElem?_eq_getElem (by omega)] at f0_0
  obtain ⟨b0, eb0, _, _⟩ := DataW.trod_int Tryz.underlying3 f0_0
  simp at eb0
  have f0_1 : DataW.trod enc Tryz.prog w 0 (fun _ => true) true n0 80 (List.take (Tryz.prog.cellsOf 80) (List.drop 1 [k0, k1, k2, k3])) = ys[1]? := hf 1 _ rfl
  rw [c80, List.getElem?_eq_getElem (by omega)] at f0_1
  have f0_2 : DataW.trod enc Tryz.prog w 0 (fun _ => true) true n0 44 (List.take (Tryz.prog.cellsOf 44) (List.drop 2 [k0, k1, k2, k3])) = ys[2]? := hf 2 _ rfl
  rw [c44, List.getElem?_eq_getElem (by omega)] at f0_2
  have f0_3 : DataW.trod enc Tryz.prog w 0 (fun _ => true) true n0 81 (List.take (Tryz.prog.cellsOf 81) (List.drop 3 [k0, k1, k2, k3])) = ys[3]? := hf 3 _ rfl
  rw [c81, List.getElem?_eq_getElem (by omega)] at f0_3
  subst eb0
  exact ⟨b0, k1, k2, k3, rfl, ⟨_, _, by simpa using f0_1⟩, ⟨_, _, by simpa using f0_2⟩, ⟨_, _, by simpa using f0_3⟩⟩
theorem c121 : Tryz.prog.cellsOf 121 = 2 := by kernel_rfl
theorem cells121 {n : Nat} {cs : List Value} {x : DataW H × List MemPlace} (h : DataW.trod enc Tryz.prog w 0 (fun _ => true) true n 121 cs = some x) : ∃ a0 a1 : Int, cs = [.int .i64 a0, .int .i64 a1] := by
  obtain ⟨ys, n0, _, _, hlen, hyl, hf⟩ := DataW.trod_array Tryz.underlying121 h
  rw [c121] at hlen
  obtain ⟨k0, k1, rfl⟩ := list2 hlen
  have key : ∀ i, i < 2 → DataW.trod enc Tryz.prog w 0 (fun _ => true) true n0 3 (List.take 1 (List.drop i [k0, k1])) = ys[i]? := fun i hi => by
    have := hf i hi
    rwa [c3, Nat.mul_one] at this
  have f0 := key 0 (by omega)
  have f1 := key 1 (by omega)
  rw [List.getElem?_eq_getElem (by omega)] at f0 f1
  obtain ⟨b0, e0, _, _⟩ := DataW.trod_int Tryz.underlying3 f0
  obtain ⟨b1, e1, _, _⟩ := DataW.trod_int Tryz.underlying3 f1
  simp at e0 e1
  subst e0 e1
  exact ⟨b0, b1, rfl⟩
theorem open_ints {n : Nat} {v : Value} {x : DataW H × List MemPlace} (h : DataW.trod enc Tryz.prog w 0 (fun _ => true) true n 44 [v] = some x) : ∃ l, Rd w v 1 (ints l) :=
  open_rows (α := Int) (cells := fun e => [.int .i64 e]) Tryz.underlying44 c3 (by decide) (fun _ => rfl) (fun _ _ _ h => by obtain ⟨a, rfl, _⟩ := DataW.trod_int Tryz.underlying3 h; exact ⟨a, rfl⟩) h
theorem open_sps {n : Nat} {v : Value} {x : DataW H × List MemPlace} (h : DataW.trod enc Tryz.prog w 0 (fun _ => true) true n 80 [v] = some x) : ∃ l, Rd w v 4 (spsL l) := by
  haveI : Inhabited Sp := ⟨⟨⟨#[]⟩, 0, 0, 0⟩⟩
  exact open_rows (cells := Sp.cells) Tryz.underlying80 c132 (by decide) (fun _ => rfl) (fun _ _ _ h => by obtain ⟨a, b, c, d, rfl⟩ := cells132 h; exact ⟨⟨a, b, c, d⟩, rfl⟩) h
theorem open_prs {n : Nat} {v : Value} {x : DataW H × List MemPlace} (h : DataW.trod enc Tryz.prog w 0 (fun _ => true) true n 81 [v] = some x) : ∃ l, Rd w v 2 (prsL l) :=
  open_rows (α := Int × Int) (cells := prV) Tryz.underlying81 c121 (by decide) (fun _ => rfl) (fun _ _ _ h => by obtain ⟨a, b, rfl⟩ := cells121 h; exact ⟨(a, b), rfl⟩) h
theorem open_brk {n : Nat} {cs : List Value} {x : DataW H × List MemPlace} (h : DataW.trod enc Tryz.prog w 0 (fun _ => true) true n 83 cs = some x) : ∃ (b : Br) (sv cv xv : Value), cs = [.int .i64 b.n, sv, cv, xv] ∧ Rd w sv 4 (spsL b.sp) ∧ Rd w cv 1 (ints b.cm) ∧ Rd w xv 2 (prsL b.ex) := by
  obtain ⟨a, sv, cv, xv, rfl, ⟨_, _, h1⟩, ⟨_, _, h2⟩, ⟨_, _, h3⟩⟩ := cells83 h
  obtain ⟨l1, r1⟩ := open_sps h1
  obtain ⟨l2, r2⟩ := open_ints h2
  obtain ⟨l3, r3⟩ := open_prs h3
  exact ⟨⟨a, l1, l2, l3⟩, sv, cv, xv, rfl, r1, r2, r3⟩
end
end Go.Proofs.A1


/- R1 -/
namespace Go.Proofs.A1
open Go Go.SL

def findS (l : List Sp) (s : ByteArray) (n : Nat) : Int := ((List.range n).find? fun i => decide ((nthS l i).nm = s)).elim (-1) (fun i => (i : Int))
theorem findS_le (l : List Sp) (s : ByteArray) (n : Nat) : decide (0 ≤ findS l s n) = knwS l n s := by
  unfold findS knwS
  cases h : (List.range n).find? fun i => decide ((nthS l i).nm = s) with
  | none =>
    have : (List.range n).any (fun i => decide ((nthS l i).nm = s)) = false := by
      rw [List.any_eq_false]
      exact List.find?_eq_none.1 h
    rw [this]; rfl
  | some i =>
    have : (List.range n).any (fun i => decide ((nthS l i).nm = s)) = true := by
      rw [List.any_eq_true]
      exact ⟨i, List.mem_of_find?_eq_some h, by simpa using List.find?_some h⟩
    rw [this]; simp
theorem findS_at {l : List Sp} {s : ByteArray} {k n : Nat} (h : ∀ i, i < k → ¬ (nthS l i).nm = s) (hk : k < n) (hs : (nthS l k).nm = s) : findS l s n = k := by
  unfold findS
  have : (List.range n).find? (fun i => decide ((nthS l i).nm = s)) = some k := by
    rw [List.find?_range_eq_some]
    exact ⟨by simpa using hs, by simpa using hk, fun i hi => by simpa using h i hi⟩
  rw [this]; rfl
theorem findS_none {l : List Sp} {s : ByteArray} {n : Nat} (h : ∀ i, i < n → ¬ (nthS l i).nm = s) : findS l s n = -1 := by
  unfold findS
  have : (List.range n).find? (fun i => decide ((nthS l i).nm = s)) = none := by
    rw [List.find?_eq_none]
    intro i hi
    simpa using h i (List.mem_range.1 hi)
  rw [this]; rfl
theorem findSQ_c {sv cv xv : Value} {b : Br} {w : World} (s : ByteArray) (n : Nat) (h1 : Rd w sv 4 (spsL b.sp)) (hone2 : cv.oneCell' = true) (hone3 : xv.oneCell' = true) (hn : n ≤ b.sp.length) :
    GivesV Tryz.prog 129 [.agg #[.int .i64 b.n, sv, cv, xv], .string s, .int .i64 n] w (.int .i64 (findS b.sp s n)) := by
  obtain ⟨a, cap, bb, o, rfl, hcap, hmax, ha, hc⟩ := h1
  rw [spsL_length] at *
  unfold maxLen at hmax
  refine givesV_of_tr Tryz.func129 rfl rfl ?_
  (refine s_r ?_; refine tr_new (rk_box (.of rfl) rfl) rfl (fun _ _ => ?_); refine a_s rfl rfl ?_; refine n_t ?_; refine tr_seq ?_; refine s_r ?_; refine a_s rfl rfl ?_; refine n_t ?_; refine tr_block ?_)
  rename_i b3 hb3
  refine tr_for (fun k : Nat => k ≤ n ∧ ∀ i, i < k → ¬ (nthS b.sp i).nm = s) (fun k => [(7, .int .i64 k), (1, .string s), (2, .int .i64 n), (3, .pointer (some ⟨b3, 0, none⟩))])
    (fun _ => [blk b3 (.cells #[.int .i64 b.n, .slice a b.sp.length cap, cv, xv] 83 (0, 0))]) (fun k => n - k) ?_ ?_
  · apply tr_start 0 ⟨by omega, fun i h => by omega⟩
    case hs1 => exact .cons rfl (.cons rfl (.cons rfl (.cons rfl .nil)))
    case ht => (try simp only [List.take_zero, List.map_nil, List.nil_append]); exact .cons .here .nil
  rintro k ⟨hk, hf⟩
  by_cases hlt : k < n
  · have ha' := ha (spsL_ne (k := k) (by omega))
    have hcell := (hc k _ (spsL_get (k := k) (by omega))).2 0 _ rfl
    (refine tr_seq ?_; refine s_r ?_; refine m_v rfl rfl ?_; refine m_v rfl rfl ?_; refine tr_val (rk_lss (.of rfl) (.of rfl)) rfl ?_; refine n_t ?_; refine c_d rfl (fun hcd => ?_) (fun _ => by omega); refine s_t ?_; refine tr_seq ?_; refine tr_block ?_; refine s_r ?_; refine f_a rfl rfl norm0_ ?_; refine tr_val (rk_load1 (.of rfl) (At.lit .here rfl)) rfl ?_; refine m_v rfl rfl ?_; refine tr_val (rk_indexAddr (.of rfl) (.of rfl) ha' (by omega) (by omega) norm1_) rfl ?_; refine f_a rfl rfl norm0_ ?_; refine tr_val (rk_load1 (.of rfl) (At.base hcell rfl)) rfl ?_; refine m_v rfl rfl ?_; refine tr_val (rk_eqls (.of rfl) (.of rfl)) rfl ?_; refine n_t ?_; refine c_d rfl (fun hcd => ?_) (fun hcd => ?_); refine s_r ?_; refine m_v rfl rfl ?_; refine a_s rfl rfl ?_; refine n_t ?_; refine tr_ret ?_; refine tr_blk_ret ?_; refine tr_then_ret ?_; refine tr_then_ret ?_; refine tr_blk_ret ?_; refine tr_then_ret ?_; refine tr_retE rfl (ends1 rfl rfl) ?_; rotate_left; refine tr_skip ?_; refine tr_blk_normal ?_; refine tr_then ?_; refine tr_region ?_; refine m_v rfl rfl ?_; refine tr_val (rk_add (.of rfl) (.of rfl) (ini (by omega))) rfl ?_; refine a_s rfl rfl ?_; refine n_t ?_; rotate_right)
    · rw [findS_at hf hlt hcd]
    · apply tr_next (k + 1) ⟨by omega, fun i hi => by
        by_cases e : i = k
        · rw [e]; exact hcd
        · exact hf i (by omega)⟩ (by omega)
      case hs1 => exact .cons rfl (.cons rfl (.cons rfl (.cons rfl .nil)))
      case ht => (try simp only [List.take_zero, List.map_nil, List.nil_append]); exact .cons .here .nil
  · obtain rfl : k = n := by omega
    (refine tr_seq ?_; refine s_r ?_; refine m_v rfl rfl ?_; refine m_v rfl rfl ?_; refine tr_val (rk_lss (.of rfl) (.of rfl)) rfl ?_; refine n_t ?_; refine c_d rfl (fun _ => by omega) (fun hcd => ?_); refine x_t ?_; refine tr_then_exit ?_; refine tr_blk_exit ?_; refine tr_then ?_; refine s_r ?_; refine a_s rfl rfl ?_; refine n_t ?_; refine tr_ret ?_; refine tr_retE rfl (ends1 rfl rfl) ?_)
    rw [findS_none hf]
theorem campQ_c {sv cv xv : Value} {b : Br} (n : Int) {w : World} (hone1 : sv.oneCell' = true) (h2 : Rd w cv 1 (ints b.cm)) (hone3 : xv.oneCell' = true) :
    GivesV Tryz.prog 130 [.agg #[.int .i64 b.n, sv, cv, xv], .int .i64 n] w (.int .i64 (campF b.cm.length n)) := by
  obtain ⟨a, cap, bb, o, rfl, hcap, hmax, ha, hc⟩ := h2
  rw [ints_length] at *
  unfold maxLen at hmax
  refine givesV_of_tr Tryz.func130 rfl rfl ?_
  (refine s_r ?_; refine tr_new (rk_box (.of rfl) rfl) rfl (fun _ _ => ?_); refine a_s rfl rfl ?_; refine n_r ?_; refine m_v rfl rfl ?_; refine tr_val (rk_lss (.of rfl) (.of rfl)) rfl ?_; refine m_v rfl rfl ?_; refine v_g rfl rfl rfl rfl ?_; refine tr_vG1 rfl rfl inferInstance (fun hg hgp => (rk_fieldAddr (.of rfl) norm0_)) rfl ?_; refine tr_vG1 rfl rfl inferInstance (fun hg hgp => (rk_load1 (.ofg hg rfl) (At.lit .here rfl))) rfl ?_; refine tr_vG1 rfl rfl inferInstance (fun hg hgp => (rk_len_slice (.ofg hg rfl))) rfl ?_; refine tr_vG1 rfl rfl inferInstance (fun hg hgp => (rk_geq (.ofg hg rfl) (.ofg hg rfl))) rfl ?_; refine tr_val (rk_pick_or (.of rfl) rfl) rfl ?_; refine tr_callV (rk_call (.of rfl) (.cons (.of rfl) (.cons (.of rfl) .nil)) inferInstance normc_) rfl (fun w' hm' => (when_q _ 10 w')) ?_; refine a_s rfl rfl ?_; refine n_t ?_; refine tr_ret ?_; refine tr_retE rfl (ends1 rfl rfl) ?_)
  rfl
def shortBr (b : Br) : Bool := (b.sp.all fun x => decide (x.nm.size ≤ 40)) && ((decide (b.sp.length ≤ 6) || decide (b.sp.length = 9)) && decide (b.cm.length ≤ 9) && decide (b.ex.length ≤ 17))
theorem shortBr_few {b : Br} (h : shortBr b = true) : b.sp.length ≤ 9 ∧ b.cm.length ≤ 9 ∧ b.ex.length ≤ 17 := by
  unfold shortBr at h
  simp only [Bool.and_eq_true, Bool.or_eq_true, decide_eq_true_eq] at h
  omega
theorem shortBr_c {sv cv xv : Value} {b : Br} {w : World} (h1 : Rd w sv 4 (spsL b.sp)) (h2 : Rd w cv 1 (ints b.cm)) (h3 : Rd w xv 2 (prsL b.ex)) :
    GivesV Tryz.prog 43 [.agg #[.int .i64 b.n, sv, cv, xv]] w (.bool (shortBr b)) := by
  obtain ⟨a, cap, bb, o, rfl, hcap, hmax, ha, hc⟩ := h1
  obtain ⟨a2, cap2, bb2, o2, rfl, hcap2, hmax2, ha2, hc2⟩ := h2
  obtain ⟨a3, cap3, bb3, o3, rfl, hcap3, hmax3, ha3, hc3⟩ := h3
  rw [spsL_length] at *
  rw [ints_length] at *
  rw [prsL_length] at *
  unfold maxLen at hmax hmax2 hmax3
  refine givesV_of_tr Tryz.func43 rfl rfl ?_
  (refine s_r ?_; refine tr_new (rk_box (.of rfl) rfl) rfl (fun _ _ => ?_); refine a_s rfl rfl ?_; refine n_t ?_; refine tr_seq ?_; refine s_r ?_; refine a_s rfl rfl ?_; refine n_t ?_; refine tr_block ?_)
  rename_i b1 hb1
  refine tr_for (fun k : Nat => k ≤ b.sp.length ∧ ∀ i (hi : i < k) (hl : i < b.sp.length), b.sp[i].nm.size ≤ 40) (fun k => [(3, .int .i64 k), (1, .pointer (some ⟨b1, 0, none⟩))])
    (fun _ => [blk b1 (.cells #[.int .i64 b.n, .slice a b.sp.length cap, .slice a2 b.cm.length cap2, .slice a3 b.ex.length cap3] 83 (0, 0))]) (fun k => b.sp.length - k) ?_ ?_
  · apply tr_start 0 ⟨Nat.zero_le _, fun i h => by omega⟩
    case hs1 => exact .cons rfl (.cons rfl .nil)
    case ht => (try simp only [List.take_zero, List.map_nil, List.nil_append]); exact .cons .here .nil
  rintro k ⟨hk, hf⟩
  by_cases hlt : k < b.sp.length
  · have ha' := ha (spsL_ne hlt)
    have hcell := (hc k _ (spsL_get hlt)).2 0 _ rfl
    have hnk := nthS_eq hlt
    rw [hnk] at hcell
    (refine tr_seq ?_; refine s_r ?_; refine m_v rfl rfl ?_; refine f_a rfl rfl norm0_ ?_; refine tr_val (rk_load1 (.of rfl) (At.lit .here rfl)) rfl ?_; refine tr_val (rk_len_slice (.of rfl)) rfl ?_; refine tr_val (rk_lss (.of rfl) (.of rfl)) rfl ?_; refine n_t ?_; refine c_d rfl (fun hcd => ?_) (fun _ => by omega); refine s_t ?_; refine tr_seq ?_; refine tr_block ?_; refine s_r ?_; refine f_a rfl rfl norm0_ ?_; refine tr_val (rk_load1 (.of rfl) (At.lit .here rfl)) rfl ?_; refine m_v rfl rfl ?_; refine tr_val (rk_indexAddr (.of rfl) (.of rfl) ha' (by omega) hcd norm1_) rfl ?_; refine f_a rfl rfl norm0_ ?_; refine tr_val (rk_load1 (.of rfl) (At.base hcell rfl)) rfl ?_; refine tr_val (rk_len_string (.of rfl)) rfl ?_; refine tr_val (rk_gtr (.of rfl) (.of rfl)) rfl ?_; refine n_t ?_; refine c_d rfl (fun hcd => ?_) (fun hcd => ?_); refine s_r ?_; refine a_s rfl rfl ?_; refine n_t ?_; refine tr_ret ?_; refine tr_blk_ret ?_; refine tr_then_ret ?_; refine tr_then_ret ?_; refine tr_blk_ret ?_; refine tr_then_ret ?_; refine tr_retE rfl (ends1 rfl rfl) ?_; rotate_left; refine tr_skip ?_; refine tr_blk_normal ?_; refine tr_then ?_; refine tr_region ?_; refine m_v rfl rfl ?_; refine tr_val (rk_add (.of rfl) (.of rfl) (ini (by omega))) rfl ?_; refine a_s rfl rfl ?_; refine n_t ?_; rotate_right)
    · have : (b.sp.all fun x => decide (x.nm.size ≤ 40)) = false := by
        rw [List.all_eq_false]
        refine ⟨b.sp[k], List.getElem_mem hlt, ?_⟩
        simp only [decide_eq_true_eq]
        omega
      rw [shortBr, this]; rfl
    · apply tr_next (k + 1) ⟨by omega, fun i hi hl => by
        by_cases e : i = k
        · subst e; omega
        · exact hf i (by omega) hl⟩ (by omega)
      case hs1 => exact .cons rfl (.cons rfl .nil)
      case ht => (try simp only [List.take_zero, List.map_nil, List.nil_append]); exact .cons .here .nil
  · obtain rfl : k = b.sp.length := by omega
    have hall : (b.sp.all fun x => decide (x.nm.size ≤ 40)) = true := by
      rw [List.all_eq_true]
      intro x hx
      obtain ⟨i, hi, rfl⟩ := List.getElem_of_mem hx
      exact decide_eq_true (hf i hi hi)
    (refine tr_seq ?_; refine s_r ?_; refine m_v rfl rfl ?_; refine f_a rfl rfl norm0_ ?_; refine tr_val (rk_load1 (.of rfl) (At.lit .here rfl)) rfl ?_; refine tr_val (rk_len_slice (.of rfl)) rfl ?_; refine tr_val (rk_lss (.of rfl) (.of rfl)) rfl ?_; refine n_t ?_; refine c_d rfl (fun _ => by omega) (fun hcd => ?_); refine x_t ?_; refine tr_then_exit ?_; refine tr_blk_exit ?_; refine tr_then ?_; refine s_r ?_; refine f_a rfl rfl norm0_ ?_; refine tr_val (rk_load1 (.of rfl) (At.lit .here rfl)) rfl ?_; refine tr_val (rk_len_slice (.of rfl)) rfl ?_; refine tr_val (rk_leq (.of rfl) (.of rfl)) rfl ?_; refine m_v rfl rfl ?_; refine tr_vG1 rfl rfl inferInstance (fun hg hgp => (rk_fieldAddr (.of rfl) norm0_)) rfl ?_; refine tr_vG1 rfl rfl inferInstance (fun hg hgp => (rk_load1 (.ofg hg rfl) (At.lit .here rfl))) rfl ?_; refine tr_vG1 rfl rfl inferInstance (fun hg hgp => (rk_len_slice (.ofg hg rfl))) rfl ?_; refine tr_vG1 rfl rfl inferInstance (fun hg hgp => (rk_eql (.ofg hg rfl) (.of rfl))) rfl ?_; refine tr_val (rk_pick_or (.of rfl) rfl) rfl ?_; refine m_v rfl rfl ?_; refine tr_vG1 rfl rfl inferInstance (fun hg hgp => (rk_fieldAddr (.of rfl) norm0_)) rfl ?_; refine tr_vG1 rfl rfl inferInstance (fun hg hgp => (rk_load1 (.ofg hg rfl) (At.lit .here rfl))) rfl ?_; refine tr_vG1 rfl rfl inferInstance (fun hg hgp => (rk_len_slice (.ofg hg rfl))) rfl ?_; refine tr_vG1 rfl rfl inferInstance (fun hg hgp => (rk_leq (.ofg hg rfl) (.of rfl))) rfl ?_; refine tr_val (rk_pick_and (.of rfl) rfl) rfl ?_; refine m_v rfl rfl ?_; refine tr_vG1 rfl rfl inferInstance (fun hg hgp => (rk_fieldAddr (.of rfl) norm0_)) rfl ?_; refine tr_vG1 rfl rfl inferInstance (fun hg hgp => (rk_load1 (.ofg hg rfl) (At.lit .here rfl))) rfl ?_; refine tr_vG1 rfl rfl inferInstance (fun hg hgp => (rk_len_slice (.ofg hg rfl))) rfl ?_; refine tr_vG1 rfl rfl inferInstance (fun hg hgp => (rk_leq (.ofg hg rfl) (.of rfl))) rfl ?_; refine tr_val (rk_pick_and (.of rfl) rfl) rfl ?_; refine a_s rfl rfl ?_; refine n_t ?_; refine tr_ret ?_; refine tr_retE rfl (ends1 rfl rfl) ?_)
    rw [shortBr, hall, Bool.true_and]
    have e1 : decide ((b.sp.length : Int) ≤ 6) = decide (b.sp.length ≤ 6) := decide_eq_decide.2 (by omega)
    have e2 : decide ((b.sp.length : Int) = 9) = decide (b.sp.length = 9) := decide_eq_decide.2 (by omega)
    have e3 : decide ((b.cm.length : Int) ≤ 9) = decide (b.cm.length ≤ 9) := decide_eq_decide.2 (by omega)
    have e4 : decide ((b.ex.length : Int) ≤ 17) = decide (b.ex.length ≤ 17) := decide_eq_decide.2 (by omega)
    rw [e1, e2, e3, e4]
end Go.Proofs.A1


/- R2 -/
namespace Go.Proofs.A1
open Go Go.SL

theorem spE_q (b : Br) (k : Nat) : firstF [nmF (nthS b.sp k).nm, whenF (decide (0 ≤ findS b.sp (nthS b.sp k).nm k)) 9, campF b.cm.length (nthS b.sp k).cp, withinF (nthS b.sp k).ln 1 100000, withinF (nthS b.sp k).vl 0 1000000] = spE b k := by
  unfold spE
  rw [findS_le]
theorem ints_nth {l : List Int} {k : Nat} (h : k < l.length) : (ints l)[k]? = some [.int .i64 l[k]] := by simp [ints, h]
set_option maxHeartbeats 2000000 in
theorem brkQ_c {b : Br} {sv cv xv : Value} {w : World} (h1 : Rd w sv 4 (spsL b.sp)) (h2 : Rd w cv 1 (ints b.cm)) (h3 : Rd w xv 2 (prsL b.ex)) :
    GivesV Tryz.prog 47 [.agg #[.int .i64 b.n, sv, cv, xv]] w (.int .i64 (brE b)) := by
  have hone1 := Rd.one h1
  have hone2 := Rd.one h2
  have hone3 := Rd.one h3
  have h1' := h1
  have h2' := h2
  have h3' := h3
  obtain ⟨a, cap, bb, o, rfl, hcap, hmax, ha, hc⟩ := h1
  obtain ⟨a2, cap2, bb2, o2, rfl, hcap2, hmax2, ha2, hc2⟩ := h2
  obtain ⟨a3, cap3, bb3, o3, rfl, hcap3, hmax3, ha3, hc3⟩ := h3
  rw [spsL_length] at *
  rw [ints_length] at *
  rw [prsL_length] at *
  unfold maxLen at hmax hmax2 hmax3
  refine givesV_of_tr Tryz.func47 rfl rfl ?_
  (refine s_r ?_; refine tr_new (rk_box (.of rfl) rfl) rfl (fun _ _ => ?_); refine a_s rfl rfl ?_; refine n_t ?_; refine tr_seq ?_; refine tr_seq ?_)
  with_reducible refine tr_draw 18 (by kernel_rfl) ?_
  (refine a_f rfl rfl norm0_ ?_; refine any_val (rk_load1 (.of rfl) (At.lit .here rfl)) rfl ?_; refine any_call (rk_call (.of rfl) (.cons (.of rfl) (.cons (.of rfl) (.cons (.of rfl) .nil))) inferInstance normc_) rfl (fun w' hm' => (range_q _ 0 100000 w')) ?_; refine a_f rfl rfl norm0_ ?_; refine any_val (rk_load1 (.of rfl) (At.lit .here rfl)) rfl ?_; refine any_val (rk_len_slice (.of rfl)) rfl ?_; refine any_val (rk_gtr (.of rfl) (.of rfl)) rfl ?_; refine any_call (rk_call (.of rfl) (.cons (.of rfl) (.cons (.of rfl) .nil)) inferInstance normc_) rfl (fun w' hm' => (when_q _ 5 w')) ?_; refine a_f rfl rfl norm0_ ?_; refine any_val (rk_load1 (.of rfl) (At.lit .here rfl)) rfl ?_; refine any_val (rk_len_slice (.of rfl)) rfl ?_; refine any_val (rk_gtr (.of rfl) (.of rfl)) rfl ?_; refine any_call (rk_call (.of rfl) (.cons (.of rfl) (.cons (.of rfl) .nil)) inferInstance normc_) rfl (fun w' hm' => (when_q _ 5 w')) ?_; refine a_f rfl rfl norm0_ ?_; refine any_val (rk_load1 (.of rfl) (At.lit .here rfl)) rfl ?_; refine any_val (rk_len_slice (.of rfl)) rfl ?_; refine any_val (rk_gtr (.of rfl) (.of rfl)) rfl ?_; refine any_call (rk_call (.of rfl) (.cons (.of rfl) (.cons (.of rfl) .nil)) inferInstance normc_) rfl (fun w' hm' => (when_q _ 5 w')) ?_)
  with_reducible refine any_end ?_
  (refine tr_new (rk_sliceLit (.cons (.of rfl) (.cons (.of rfl) (.cons (.of rfl) (.cons (.of rfl) .nil)))) rfl rfl rfl rfl) rfl (fun _ _ => ?_); refine tr_callV (rk_call (.of rfl) (.cons (.of rfl) .nil) inferInstance normc_) rfl (fun w' hm' => (first_qB (Mem.rdBlk hm' .here rfl rfl) (IntL.cons (IntL.cons (IntL.cons (IntL.cons IntL.nil)))))) ?_; refine a_s rfl rfl ?_; refine n_r ?_; refine m_v rfl rfl ?_; refine tr_val (rk_neq (.of rfl) (.of rfl)) rfl ?_; refine n_t ?_; refine c_d rfl (fun hcd => ?_) (fun hcd => ?_); refine s_r ?_; refine m_v rfl rfl ?_; refine a_s rfl rfl ?_; refine n_t ?_; refine r_t ?_; refine tr_retE rfl (ends1 rfl rfl) ?_; rotate_left; refine s_t ?_; refine tr_seq ?_; refine s_r ?_; refine a_s rfl rfl ?_; refine n_t ?_; refine tr_block ?_; rotate_right)
  · have hne : br0 b ≠ 0 := hcd
    have hE : brE b = br0 b := by simp [brE, firstF, hne]
    rw [hE]; rfl
  have hz0 : br0 b = 0 := Decidable.not_not.1 hcd
  have hz1 := hz0
  unfold br0 at hz1
  rw [firstF_zero] at hz1
  simp only [List.mem_cons, List.not_mem_nil, or_false, forall_eq_or_imp, forall_eq] at hz1
  rw [whenF_zero (by decide), whenF_zero (by decide), whenF_zero (by decide)] at hz1
  simp only [decide_eq_false_iff_not] at hz1
  have hl8 : b.sp.length ≤ 8 := by omega
  have hm8 : b.cm.length ≤ 8 := by omega
  have hx16 : b.ex.length ≤ 16 := by omega
  rename_i b1 hb1 bq hbq
  refine tr_for (ι := Nat) (fun k => k ≤ b.sp.length ∧ ∀ i, i < k → spE b i = 0) (fun k => [(4, .int .i64 k), (1, .pointer (some ⟨b1, 0, none⟩))])
    (fun _ => [blk b1 (.cells #[.int .i64 b.n, .slice a b.sp.length cap, .slice a2 b.cm.length cap2, .slice a3 b.ex.length cap3] 83 (0, 0))]) (fun k => b.sp.length - k) ?_ ?_
  · apply tr_start (0 : Nat) ⟨Nat.zero_le _, fun i h => by omega⟩
    case hs1 => exact .cons rfl (.cons rfl .nil)
    case ht => (try simp only [List.take_zero, List.map_nil, List.nil_append]); exact .cons (.there .here) .nil
  rintro k ⟨hk, hf⟩
  by_cases hlt : k < b.sp.length
  · have ha' := ha (spsL_ne hlt)
    have hcell := (hc k _ (spsL_get hlt)).2
    have heq := spE_q b k
    unfold Sp.cells at hcell
    (refine tr_seq ?_; refine s_r ?_; refine m_v rfl rfl ?_; refine f_a rfl rfl norm0_ ?_; refine tr_val (rk_load1 (.of rfl) (At.lit .here rfl)) rfl ?_; refine tr_val (rk_len_slice (.of rfl)) rfl ?_; refine tr_val (rk_lss (.of rfl) (.of rfl)) rfl ?_; refine n_t ?_; refine c_d rfl (fun hcd => ?_) (fun _ => by omega); refine s_t ?_; refine tr_seq ?_; refine tr_block ?_; refine s_r ?_; refine f_a rfl rfl norm0_ ?_; refine tr_val (rk_load1 (.of rfl) (At.lit .here rfl)) rfl ?_; refine m_v rfl rfl ?_; refine tr_val (rk_indexAddr (.of rfl) (.of rfl) ha' (by omega) hcd norm1_) rfl ?_; refine tr_val (rk_loadN (.of rfl) (Ats.base hcell rfl) rfl) rfl ?_; refine tr_new (rk_alloc rfl) rfl (fun _ _ => ?_); refine tr_store (.of rfl) (.of rfl) .here rfl rfl (okc_cons rfl (okc_cons rfl (okc_cons rfl (okc_cons rfl okc_nil)))) (lenb rfl) norm_ ?_; refine n_t ?_; refine tr_seq ?_)
    with_reducible refine tr_draw 20 (by kernel_rfl) ?_
    (refine a_f rfl rfl norm0_ ?_; refine any_val (rk_load1 (.of rfl) (At.lit .here rfl)) rfl ?_; refine any_call (rk_call (.of rfl) (.cons (.of rfl) .nil) inferInstance normc_) rfl (fun w' hm' => (nm_q _ w')) ?_; refine any_val (rk_loadB (.of rfl) (.there .here) norm_ (by rfl)) rfl ?_; refine a_f rfl rfl norm0_ ?_; refine any_val (rk_load1 (.of rfl) (At.lit .here rfl)) rfl ?_; refine a_m rfl rfl ?_; refine any_call (rk_call (.of rfl) (.cons (.of rfl) (.cons (.of rfl) (.cons (.of rfl) .nil))) inferInstance normc_) rfl (fun w' hm' => (findSQ_c _ k (Rd.keeps h1' (Mem.keeps hm')) hone2 hone3 hk)) ?_; refine any_val (rk_geq (.of rfl) (.of rfl)) rfl ?_; refine any_call (rk_call (.of rfl) (.cons (.of rfl) (.cons (.of rfl) .nil)) inferInstance normc_) rfl (fun w' hm' => (when_q _ 9 w')) ?_; refine any_val (rk_loadB (.of rfl) (.there .here) norm_ (by rfl)) rfl ?_; refine a_f rfl rfl norm0_ ?_; refine any_val (rk_load1 (.of rfl) (At.lit .here rfl)) rfl ?_; refine any_call (rk_call (.of rfl) (.cons (.of rfl) (.cons (.of rfl) .nil)) inferInstance normc_) rfl (fun w' hm' => (campQ_c _ hone1 (Rd.keeps h2' (Mem.keeps hm')) hone3)) ?_; refine a_f rfl rfl norm0_ ?_; refine any_val (rk_load1 (.of rfl) (At.lit .here rfl)) rfl ?_; refine any_call (rk_call (.of rfl) (.cons (.of rfl) (.cons (.of rfl) (.cons (.of rfl) .nil))) inferInstance normc_) rfl (fun w' hm' => (range_q _ 1 100000 w')) ?_; refine a_f rfl rfl norm0_ ?_; refine any_val (rk_load1 (.of rfl) (At.lit .here rfl)) rfl ?_; refine any_call (rk_call (.of rfl) (.cons (.of rfl) (.cons (.of rfl) (.cons (.of rfl) .nil))) inferInstance normc_) rfl (fun w' hm' => (range_q _ 0 1000000 w')) ?_)
    with_reducible refine any_end ?_
    (refine tr_new (rk_sliceLit (.cons (.of rfl) (.cons (.of rfl) (.cons (.of rfl) (.cons (.of rfl) (.cons (.of rfl) .nil))))) rfl rfl rfl rfl) rfl (fun _ _ => ?_); refine tr_callV (rk_call (.of rfl) (.cons (.of rfl) .nil) inferInstance normc_) rfl (fun w' hm' => (first_qB (Mem.rdBlk hm' .here rfl rfl) (IntL.cons (IntL.cons (IntL.cons (IntL.cons (IntL.cons IntL.nil))))))) ?_; refine a_s rfl rfl ?_; refine n_r ?_; refine m_v rfl rfl ?_; refine tr_val (rk_neq (.of rfl) (.of rfl)) rfl ?_; refine n_t ?_; refine c_d rfl (fun hcd => ?_) (fun hcd => ?_); refine s_r ?_; refine m_v rfl rfl ?_; refine a_s rfl rfl ?_; refine n_t ?_; refine tr_ret ?_; refine tr_blk_ret ?_; refine tr_then_ret ?_; refine tr_then_ret ?_; refine tr_blk_ret ?_; refine tr_then_ret ?_; refine tr_retE rfl (ends1 rfl rfl) ?_; rotate_left; refine tr_skip ?_; refine tr_blk_normal ?_; refine tr_then ?_; refine tr_region ?_; refine m_v rfl rfl ?_; refine tr_val (rk_add (.of rfl) (.of rfl) (ini (by omega))) rfl ?_; refine a_s rfl rfl ?_; refine n_t ?_; rotate_right)
    · have hne : spE b k ≠ 0 := by rw [← heq]; exact hcd
      have hb : errE (spE b) b.sp.length = spE b k := errE_bad hf hlt hne
      have hE : brE b = spE b k := by rw [brE, hz0, hb]; simp [firstF, hne]
      rw [hE, ← heq]
    · have hz : spE b k = 0 := by rw [← heq]; exact Decidable.not_not.1 hcd
      apply tr_next (k + 1) ⟨by omega, fun i hi => by
        by_cases e : i = k
        · rw [e]; exact hz
        · exact hf i (by omega)⟩ (by omega)
      case hs1 => exact .cons rfl (.cons rfl .nil)
      case ht => (try simp only [List.take_zero, List.map_nil, List.nil_append]); exact .cons (.there (.there .here)) .nil
  obtain rfl : k = b.sp.length := by omega
  have hz2 : errE (spE b) b.sp.length = 0 := errE_ok.2 hf
  (refine tr_seq ?_; refine s_r ?_; refine m_v rfl rfl ?_; refine f_a rfl rfl norm0_ ?_; refine tr_val (rk_load1 (.of rfl) (At.lit .here rfl)) rfl ?_; refine tr_val (rk_len_slice (.of rfl)) rfl ?_; refine tr_val (rk_lss (.of rfl) (.of rfl)) rfl ?_; refine n_t ?_; refine c_d rfl (fun _ => by omega) (fun hcd => ?_); refine x_t ?_; refine tr_then_exit ?_; refine tr_blk_exit ?_; refine tr_then ?_; refine tr_seq ?_; refine s_r ?_; refine a_s rfl rfl ?_; refine n_t ?_; refine tr_block ?_)
  refine tr_for (ι := Nat) (fun k => k ≤ b.cm.length ∧ ∀ i (hi : i < k) (hl : i < b.cm.length), fewF b.cm[i] = 0) (fun k => [(7, .int .i64 k), (1, .pointer (some ⟨b1, 0, none⟩))])
    (fun _ => [blk b1 (.cells #[.int .i64 b.n, .slice a b.sp.length cap, .slice a2 b.cm.length cap2, .slice a3 b.ex.length cap3] 83 (0, 0))]) (fun k => b.cm.length - k) ?_ ?_
  · apply tr_start (0 : Nat) ⟨Nat.zero_le _, fun i h => by omega⟩
    case hs1 => exact .cons rfl (.cons rfl .nil)
    case ht => (try simp only [List.take_zero, List.map_nil, List.nil_append]); exact .cons .here .nil
  rintro k ⟨hk, hfm⟩
  by_cases hlt : k < b.cm.length
  · have ha2' := ha2 (ints_ne hlt)
    have c0 : w.cell? ⟨bb2, o2 + k * 1, none⟩ = some (.int .i64 b.cm[k]) := (hc2 k _ (ints_nth hlt)).2 0 _ rfl
    (refine tr_seq ?_; refine s_r ?_; refine m_v rfl rfl ?_; refine f_a rfl rfl norm0_ ?_; refine tr_val (rk_load1 (.of rfl) (At.lit .here rfl)) rfl ?_; refine tr_val (rk_len_slice (.of rfl)) rfl ?_; refine tr_val (rk_lss (.of rfl) (.of rfl)) rfl ?_; refine n_t ?_; refine c_d rfl (fun hcd => ?_) (fun _ => by omega); refine s_t ?_; refine tr_seq ?_; refine tr_block ?_; refine s_r ?_; refine f_a rfl rfl norm0_ ?_; refine tr_val (rk_load1 (.of rfl) (At.lit .here rfl)) rfl ?_; refine m_v rfl rfl ?_; refine tr_val (rk_indexAddr (.of rfl) (.of rfl) ha2' (by omega) hcd norm1_) rfl ?_; refine tr_val (rk_load1 (.of rfl) (At.base c0 rfl)) rfl ?_; refine tr_callV (rk_call (.of rfl) (.cons (.of rfl) (.cons (.of rfl) (.cons (.of rfl) .nil))) inferInstance normc_) rfl (fun w' hm' => (range_q _ 0 8 w')) ?_; refine a_s rfl rfl ?_; refine n_r ?_; refine m_v rfl rfl ?_; refine tr_val (rk_neq (.of rfl) (.of rfl)) rfl ?_; refine n_t ?_; refine c_d rfl (fun hcd => ?_) (fun hcd => ?_); refine s_r ?_; refine m_v rfl rfl ?_; refine a_s rfl rfl ?_; refine n_t ?_; refine tr_ret ?_; refine tr_blk_ret ?_; refine tr_then_ret ?_; refine tr_then_ret ?_; refine tr_blk_ret ?_; refine tr_then_ret ?_; refine tr_retE rfl (ends1 rfl rfl) ?_; rotate_left; refine tr_skip ?_; refine tr_blk_normal ?_; refine tr_then ?_; refine tr_region ?_; refine m_v rfl rfl ?_; refine tr_val (rk_add (.of rfl) (.of rfl) (ini (by omega))) rfl ?_; refine a_s rfl rfl ?_; refine n_t ?_; rotate_right)
    · have hne : fewF b.cm[k] ≠ 0 := hcd
      have hq := firstF_hit (f := fewF) hlt (fun i hi => hfm i hi _) hne
      have hE : brE b = fewF b.cm[k] := by rw [brE, hz0, hz2, hq]; simp [firstF, hne]
      rw [hE]; rfl
    · have hz : fewF b.cm[k] = 0 := Decidable.not_not.1 hcd
      apply tr_next (k + 1) ⟨by omega, fun i hi hl => by
        by_cases e : i = k
        · subst e; exact hz
        · exact hfm i (by omega) hl⟩ (by omega)
      case hs1 => exact .cons rfl (.cons rfl .nil)
      case ht => (try simp only [List.take_zero, List.map_nil, List.nil_append]); exact .cons .here .nil
  obtain rfl : k = b.cm.length := by omega
  have hz3 : firstF (b.cm.map fewF) = 0 := firstF_nil' fun x hx => by
    obtain ⟨i, hi, rfl⟩ := List.getElem_of_mem hx
    exact hfm i hi hi
  have hE : brE b = firstF (b.ex.map (prE b.cm.length)) := by rw [brE]; exact firstF4 _ _ _ _ hz0 hz2 hz3
  rw [hE]
  (refine tr_seq ?_; refine s_r ?_; refine m_v rfl rfl ?_; refine f_a rfl rfl norm0_ ?_; refine tr_val (rk_load1 (.of rfl) (At.lit .here rfl)) rfl ?_; refine tr_val (rk_len_slice (.of rfl)) rfl ?_; refine tr_val (rk_lss (.of rfl) (.of rfl)) rfl ?_; refine n_t ?_; refine c_d rfl (fun _ => by omega) (fun hcd => ?_); refine x_t ?_; refine tr_then_exit ?_; refine tr_blk_exit ?_; refine tr_then ?_; refine tr_seq ?_; refine s_r ?_; refine a_s rfl rfl ?_; refine n_t ?_; refine tr_block ?_)
  refine tr_for (ι := Nat) (fun k => k ≤ b.ex.length ∧ ∀ i (hi : i < k) (hl : i < b.ex.length), prE b.cm.length b.ex[i] = 0) (fun k => [(9, .int .i64 k), (1, .pointer (some ⟨b1, 0, none⟩))])
    (fun _ => [blk b1 (.cells #[.int .i64 b.n, .slice a b.sp.length cap, .slice a2 b.cm.length cap2, .slice a3 b.ex.length cap3] 83 (0, 0))]) (fun k => b.ex.length - k) ?_ ?_
  · apply tr_start (0 : Nat) ⟨Nat.zero_le _, fun i h => by omega⟩
    case hs1 => exact .cons rfl (.cons rfl .nil)
    case ht => (try simp only [List.take_zero, List.map_nil, List.nil_append]); exact .cons .here .nil
  rintro k ⟨hk, hfx⟩
  by_cases hlt : k < b.ex.length
  · have ha3' := ha3 (prsL_ne hlt)
    have hcell := (hc3 k _ (prsL_get hlt)).2
    unfold prV at hcell
    (refine tr_seq ?_; refine s_r ?_; refine m_v rfl rfl ?_; refine f_a rfl rfl norm0_ ?_; refine tr_val (rk_load1 (.of rfl) (At.lit .here rfl)) rfl ?_; refine tr_val (rk_len_slice (.of rfl)) rfl ?_; refine tr_val (rk_lss (.of rfl) (.of rfl)) rfl ?_; refine n_t ?_; refine c_d rfl (fun hcd => ?_) (fun _ => by omega); refine s_t ?_; refine tr_seq ?_; refine tr_block ?_; refine s_r ?_; refine f_a rfl rfl norm0_ ?_; refine tr_val (rk_load1 (.of rfl) (At.lit .here rfl)) rfl ?_; refine m_v rfl rfl ?_; refine tr_val (rk_indexAddr (.of rfl) (.of rfl) ha3' (by omega) hcd norm1_) rfl ?_; refine tr_val (rk_loadN (.of rfl) (Ats.base hcell rfl) rfl) rfl ?_; refine tr_new (rk_alloc rfl) rfl (fun _ _ => ?_); refine tr_store (.of rfl) (.of rfl) .here rfl rfl (okc_cons rfl (okc_cons rfl okc_nil)) (lenb rfl) norm_ ?_; refine n_t ?_; refine tr_seq ?_)
    with_reducible refine tr_draw 14 (by kernel_rfl) ?_
    (refine any_val (rk_loadB (.of rfl) (.there .here) norm_ (by rfl)) rfl ?_; refine any_val (rk_indexAddrA (.of rfl) (.of rfl) (by omega) (by omega) norm1_) rfl ?_; refine any_val (rk_load1 (.of rfl) (At.lit .here rfl)) rfl ?_; refine any_call (rk_call (.of rfl) (.cons (.of rfl) (.cons (.of rfl) .nil)) inferInstance normc_) rfl (fun w' hm' => (campQ_c _ hone1 (Rd.keeps h2' (Mem.keeps hm')) hone3)) ?_; refine any_val (rk_loadB (.of rfl) (.there .here) norm_ (by rfl)) rfl ?_; refine any_val (rk_indexAddrA (.of rfl) (.of rfl) (by omega) (by omega) norm1_) rfl ?_; refine any_val (rk_load1 (.of rfl) (At.lit .here rfl)) rfl ?_; refine any_call (rk_call (.of rfl) (.cons (.of rfl) (.cons (.of rfl) .nil)) inferInstance normc_) rfl (fun w' hm' => (campQ_c _ hone1 (Rd.keeps h2' (Mem.keeps hm')) hone3)) ?_; refine any_val (rk_indexAddrA (.of rfl) (.of rfl) (by omega) (by omega) norm1_) rfl ?_; refine any_val (rk_load1 (.of rfl) (At.lit .here rfl)) rfl ?_; refine any_val (rk_indexAddrA (.of rfl) (.of rfl) (by omega) (by omega) norm1_) rfl ?_; refine any_val (rk_load1 (.of rfl) (At.lit .here rfl)) rfl ?_; refine any_val (rk_eql (.of rfl) (.of rfl)) rfl ?_; refine any_call (rk_call (.of rfl) (.cons (.of rfl) (.cons (.of rfl) .nil)) inferInstance normc_) rfl (fun w' hm' => (when_q _ 24 w')) ?_)
    with_reducible refine any_end ?_
    (refine tr_new (rk_sliceLit (.cons (.of rfl) (.cons (.of rfl) (.cons (.of rfl) .nil))) rfl rfl rfl rfl) rfl (fun _ _ => ?_); refine tr_callV (rk_call (.of rfl) (.cons (.of rfl) .nil) inferInstance normc_) rfl (fun w' hm' => (first_qB (Mem.rdBlk hm' .here rfl rfl) (IntL.cons (IntL.cons (IntL.cons IntL.nil))))) ?_; refine a_s rfl rfl ?_; refine n_r ?_; refine m_v rfl rfl ?_; refine tr_val (rk_neq (.of rfl) (.of rfl)) rfl ?_; refine n_t ?_; refine c_d rfl (fun hcd => ?_) (fun hcd => ?_); refine s_r ?_; refine m_v rfl rfl ?_; refine a_s rfl rfl ?_; refine n_t ?_; refine tr_ret ?_; refine tr_blk_ret ?_; refine tr_then_ret ?_; refine tr_then_ret ?_; refine tr_blk_ret ?_; refine tr_then_ret ?_; refine tr_retE rfl (ends1 rfl rfl) ?_; rotate_left; refine tr_skip ?_; refine tr_blk_normal ?_; refine tr_then ?_; refine tr_region ?_; refine m_v rfl rfl ?_; refine tr_val (rk_add (.of rfl) (.of rfl) (ini (by omega))) rfl ?_; refine a_s rfl rfl ?_; refine n_t ?_; rotate_right)
    · have hne : prE b.cm.length b.ex[k] ≠ 0 := hcd
      rw [firstF_hit hlt (fun i hi => hfx i hi _) hne]; rfl
    · have hz : prE b.cm.length b.ex[k] = 0 := Decidable.not_not.1 hcd
      apply tr_next (k + 1) ⟨by omega, fun i hi hl => by
        by_cases e : i = k
        · subst e; exact hz
        · exact hfx i (by omega) hl⟩ (by omega)
      case hs1 => exact .cons rfl (.cons rfl .nil)
      case ht => (try simp only [List.take_zero, List.map_nil, List.nil_append]); exact .cons (.there (.there .here)) .nil
  obtain rfl : k = b.ex.length := by omega
  (refine tr_seq ?_; refine s_r ?_; refine m_v rfl rfl ?_; refine f_a rfl rfl norm0_ ?_; refine tr_val (rk_load1 (.of rfl) (At.lit .here rfl)) rfl ?_; refine tr_val (rk_len_slice (.of rfl)) rfl ?_; refine tr_val (rk_lss (.of rfl) (.of rfl)) rfl ?_; refine n_t ?_; refine c_d rfl (fun _ => by omega) (fun hcd => ?_); refine x_t ?_; refine tr_then_exit ?_; refine tr_blk_exit ?_; refine tr_then ?_; refine s_r ?_; refine a_s rfl rfl ?_; refine n_t ?_; refine tr_ret ?_; refine tr_retE rfl (ends1 rfl rfl) ?_)
  rw [firstF_nil' fun x hx => by
    obtain ⟨i, hi, rfl⟩ := List.getElem_of_mem hx
    exact hfx i hi hi]
end Go.Proofs.A1


/- R3 -/
namespace Go.Proofs.A1
open Go Go.SL

theorem ints_c {lv : Value} {l : List Int} {w : World} (h : Rd w lv 1 (ints l)) (hl : l.length ≤ 1000) :
    Gives Tryz.prog 53 [lv] w [] (fun _ : Value => True) id (fun v => [row 3 1 v l.length (ints l).flatten]) := by
  refine gives_of_tr Tryz.func53 rfl rfl ?_
  (refine s_r ?_; refine a_s rfl rfl ?_; refine n_r ?_; refine tr_new (rk_sliceLit .nil rfl rfl rfl rfl) rfl (fun _ _ => ?_); refine m_v rfl rfl ?_)
  rename_i bq hbq
  refine tr_rowLitE (g := bq) (E := 3) (ys := []) 0 1 (by exact .here) rfl rfl rfl ?_
  skip
  with_reducible apply tr_appendR
  case hx => exact Is.of rfl
  case hy => exact Is.of rfl
  case ht => exact .here
  case hsrc => exact fun w' hm' => h.keeps hm'.keeps
  case h1 => exact ints_one l
  case hz => exact rfl
  case hsz => exact rfl
  case hb0 => exact rfl
  case hb => rw [ints_length]; omega
  case hd => rfl
  intro v'
  rw [ints_length, Nat.zero_add, List.nil_append]
  (refine a_s rfl rfl ?_; refine n_t ?_; refine tr_ret ?_)
  first | with_reducible apply tr_retM | with_reducible apply tr_endM
  case he => exact ends1 rfl rfl
  case hR =>
    intro w' hm'
    exact gives_end v' trivial (show Takes _ [row 3 1 v' l.length (ints l).flatten] _ by exact .cons .here .nil) hm' rfl
end Go.Proofs.A1


/- R4 -/
namespace Go.Proofs.A1
open Go Go.SL

theorem rk_remT {P : Program} {c : Cx} {sl : Slots} {hs : List Asn} {dst : Option Tmp} {ty : TypeId} {pos : String} {af : Array Edge} {g : Option (Nat × Bool)} {t u : TypeId} {x y : Operand} {a b : Int} (hx : Is sl x (.int .i64 a)) (hy : Is sl y (.int .i64 b)) (hb : b ≠ 0) :
    RunV P c sl hs ⟨dst, .binOp .rem t x y u, ty, pos, af, g⟩ (.int .i64 (Int.tmod a b)) :=
  rk_bin hx hy fun w => by simp [eqGuard_int, binOp, Op.intDiv, hb]
theorem divQS_c (n d : Int) (w : World) (hn : -999999999 ≤ n ∧ n ≤ 999999999) (hd : 1 ≤ d ∧ d ≤ 999999999) : GivesV Tryz.prog 140 [.int .i64 n, .int .i64 d] w (.int .i64 (gcdF (max n (-n)) d)) := by
  refine givesV_of_tr Tryz.func140 rfl rfl ?_
  (refine s_r ?_; refine a_s rfl rfl ?_; refine n_t ?_; refine tr_seq ?_; refine tr_block ?_)
  refine tr_for (ι := Int × Int) (fun x => (-999999999 ≤ x.1 ∧ x.1 ≤ 999999999) ∧ (-999999999 ≤ x.2 ∧ x.2 ≤ 999999999) ∧ Nat.gcd x.1.natAbs x.2.natAbs = Nat.gcd n.natAbs d.natAbs) (fun x => [(0, .int .i64 x.1), (1, .int .i64 x.2)])
    (fun _ => []) (fun x => x.2.natAbs) ?_ ?_
  · apply tr_start (n, d) ⟨hn, by show -999999999 ≤ d ∧ d ≤ 999999999; omega, rfl⟩
    case hs1 => exact .cons rfl (.cons rfl .nil)
    case ht => (try simp only [List.take_zero, List.map_nil, List.nil_append]); exact .nil
  rintro ⟨x, y⟩ ⟨hx, hy, hg⟩
  dsimp only at hx hy hg ⊢
  by_cases h0 : y = 0
  · subst h0
    have hgx : gcdF (max n (-n)) d = (x.natAbs : Int) := by
      unfold gcdF
      rw [show (max n (-n)).toNat = n.natAbs by omega, show d.toNat = d.natAbs by omega, ← hg]; simp
    rw [hgx]
    (refine tr_seq ?_; refine s_r ?_; refine m_v rfl rfl ?_; refine tr_val (rk_neq (.of rfl) (.of rfl)) rfl ?_; refine n_t ?_; refine c_d rfl (fun _ => by omega) (fun hcd => ?_); refine x_t ?_; refine tr_then_exit ?_; refine tr_blk_exit ?_; refine tr_then ?_; refine tr_seq ?_; refine s_r ?_; refine m_v rfl rfl ?_; refine tr_val (rk_lss (.of rfl) (.of rfl)) rfl ?_; refine n_t ?_; refine c_d rfl (fun hcd => ?_) (fun hcd => ?_); refine s_r ?_; refine m_v rfl rfl ?_; refine tr_val (rk_sub (.of rfl) (.of rfl) (ini (by omega))) rfl ?_; refine a_s rfl rfl ?_; refine n_t ?_; refine r_t ?_; refine tr_retE rfl (ends1 rfl rfl) ?_; rotate_left; refine s_t ?_; refine s_r ?_; refine m_v rfl rfl ?_; refine a_s rfl rfl ?_; refine n_t ?_; refine tr_ret ?_; refine tr_retE rfl (ends1 rfl rfl) ?_; rotate_right)
    · rw [show (x.natAbs : Int) = 0 - x by omega]
    · rw [show (x.natAbs : Int) = x by omega]
  · have hm : (Int.tmod x y).natAbs = x.natAbs % y.natAbs := Int.natAbs_tmod x y
    have hl : x.natAbs % y.natAbs < y.natAbs := Nat.mod_lt _ (by omega)
    (refine tr_seq ?_; refine s_r ?_; refine m_v rfl rfl ?_; refine tr_val (rk_neq (.of rfl) (.of rfl)) rfl ?_; refine n_t ?_; refine c_d rfl (fun hcd => ?_) (fun _ => by omega); refine s_t ?_; refine tr_block ?_)
    with_reducible refine tr_draw 6 (by kernel_rfl) ?_
    (refine a_m rfl rfl ?_; refine a_m rfl rfl ?_; refine a_m rfl rfl ?_; refine any_val (rk_remT (.of rfl) (.of rfl) h0) rfl ?_; refine any_val (rk_assign (.of rfl)) rfl ?_; refine any_val (rk_assign (.of rfl)) rfl ?_)
    with_reducible refine any_end ?_
    (refine tr_nil ?_; refine tr_blk_normal ?_; refine tr_then ?_)
    apply tr_next (y, Int.tmod x y) ⟨hy, by show -999999999 ≤ Int.tmod x y ∧ Int.tmod x y ≤ 999999999; omega, by show Nat.gcd y.natAbs (Int.tmod x y).natAbs = _; rw [hm, Nat.gcd_comm, ← Nat.gcd_rec, Nat.gcd_comm, hg]⟩ (by show (Int.tmod x y).natAbs < y.natAbs; omega)
    case hs1 => exact .cons rfl (.cons rfl .nil)
    case ht => (try simp only [List.take_zero, List.map_nil, List.nil_append]); exact .nil
theorem ratioQ_c (p : Int × Int) (w : World) : GivesV Tryz.prog 131 [.agg (duoV p).toArray] w (.int .i64 (ratE p)) := by
  unfold duoV
  refine givesV_of_tr Tryz.func131 rfl rfl ?_
  (refine s_r ?_; refine tr_new (rk_box (.of rfl) rfl) rfl (fun _ _ => ?_); refine a_s rfl rfl ?_; refine n_t ?_; refine tr_seq ?_; refine tr_seq ?_)
  with_reducible refine tr_draw 6 (by kernel_rfl) ?_
  (refine a_f rfl rfl norm0_ ?_; refine any_val (rk_load1 (.of rfl) (At.lit .here rfl)) rfl ?_; refine any_call (rk_call (.of rfl) (.cons (.of rfl) (.cons (.of rfl) (.cons (.of rfl) .nil))) inferInstance normc_) rfl (fun w' hm' => (range_q _ _ 999999999 w')) ?_; refine a_f rfl rfl norm0_ ?_; refine any_val (rk_load1 (.of rfl) (At.lit .here rfl)) rfl ?_; refine any_call (rk_call (.of rfl) (.cons (.of rfl) (.cons (.of rfl) (.cons (.of rfl) .nil))) inferInstance normc_) rfl (fun w' hm' => (range_q _ 1 999999999 w')) ?_)
  with_reducible refine any_end ?_
  (refine tr_new (rk_sliceLit (.cons (.of rfl) (.cons (.of rfl) .nil)) rfl rfl rfl rfl) rfl (fun _ _ => ?_); refine tr_callV (rk_call (.of rfl) (.cons (.of rfl) .nil) inferInstance normc_) rfl (fun w' hm' => (first_qB (Mem.rdBlk hm' .here rfl rfl) (IntL.cons (IntL.cons IntL.nil)))) ?_; refine a_s rfl rfl ?_; refine n_r ?_; refine m_v rfl rfl ?_; refine tr_val (rk_neq (.of rfl) (.of rfl)) rfl ?_; refine n_t ?_; refine c_d rfl (fun hcd => ?_) (fun hcd => ?_); refine s_r ?_; refine m_v rfl rfl ?_; refine a_s rfl rfl ?_; refine n_t ?_; refine r_t ?_; refine tr_retE rfl (ends1 rfl rfl) ?_; rotate_left; refine s_t ?_; refine s_r ?_; refine f_a rfl rfl norm0_ ?_; refine tr_val (rk_load1 (.of rfl) (At.lit (.there .here) rfl)) rfl ?_; refine f_a rfl rfl norm0_ ?_; refine tr_val (rk_load1 (.of rfl) (At.lit (.there .here) rfl)) rfl ?_; rotate_right)
  · have hne : rat0 p ≠ 0 := hcd
    rw [ratE, if_pos hne]; rfl
  · have hz : rat0 p = 0 := Decidable.not_not.1 hcd
    obtain ⟨hn, hd⟩ := rat0_zero hz
    rw [ratE, if_neg (by rw [hz]; decide)]
    (refine tr_callV (rk_call (.of rfl) (.cons (.of rfl) (.cons (.of rfl) .nil)) inferInstance normc_) rfl (fun w' hm' => (divQS_c _ _ w' hn hd)) ?_; refine tr_val (rk_neq (.of rfl) (.of rfl)) rfl ?_; refine tr_callV (rk_call (.of rfl) (.cons (.of rfl) (.cons (.of rfl) .nil)) inferInstance normc_) rfl (fun w' hm' => (when_q _ 1 w')) ?_; refine a_s rfl rfl ?_; refine n_t ?_; refine tr_ret ?_; refine tr_retE rfl (ends1 rfl rfl) ?_)
    rfl
def prcE (p : Int × Int) : Int := firstF [ratE p, whenF (decide (p.1 < 0)) 3]
theorem prcQ_c (p : Int × Int) (w : World) : GivesV Tryz.prog 48 [.agg (duoV p).toArray] w (.int .i64 (prcE p)) := by
  unfold duoV
  refine givesV_of_tr Tryz.func48 rfl rfl ?_
  (refine s_r ?_; refine tr_new (rk_box (.of rfl) rfl) rfl (fun _ _ => ?_); refine a_s rfl rfl ?_; refine n_t ?_; refine tr_seq ?_)
  with_reducible refine tr_draw 6 (by kernel_rfl) ?_
  (refine any_val (rk_loadB (.of rfl) .here norm_ (by rfl)) rfl ?_; refine any_call (rk_call (.of rfl) (.cons (.of rfl) .nil) inferInstance normc_) rfl (fun w' hm' => (ratioQ_c p w')) ?_; refine a_f rfl rfl norm0_ ?_; refine any_val (rk_load1 (.of rfl) (At.lit .here rfl)) rfl ?_; refine any_val (rk_lss (.of rfl) (.of rfl)) rfl ?_; refine any_call (rk_call (.of rfl) (.cons (.of rfl) (.cons (.of rfl) .nil)) inferInstance normc_) rfl (fun w' hm' => (when_q _ 3 w')) ?_)
  with_reducible refine any_end ?_
  (refine tr_new (rk_sliceLit (.cons (.of rfl) (.cons (.of rfl) .nil)) rfl rfl rfl rfl) rfl (fun _ _ => ?_); refine tr_callV (rk_call (.of rfl) (.cons (.of rfl) .nil) inferInstance normc_) rfl (fun w' hm' => (first_qB (Mem.rdBlk hm' .here rfl rfl) (IntL.cons (IntL.cons IntL.nil)))) ?_; refine a_s rfl rfl ?_; refine n_t ?_; refine tr_ret ?_; refine tr_retE rfl (ends1 rfl rfl) ?_)
  rfl
end Go.Proofs.A1


/- R5 -/
namespace Go.Proofs.A1
open Go Go.SL

end Go.Proofs.A1

