/- Part of the proof: C9. -/
import Derived.Test.YtahcjhdepdhipaaC8
import Derived.Test.YtahcjhdepdhipaaGkAnyL
import Derived.Test.YtahcjhdepdhipaaGkFin
set_option linter.unusedSectionVars false
set_option linter.unusedVariables false
set_option linter.unusedSimpArgs false
namespace Go.Proofs.A1
open Go Go.SL

theorem setCells_app {vs : List Value} : ∀ {cs cur : List Value} {o : Nat}, o + vs.length ≤ cs.length → setCells (cs ++ cur) o vs = setCells cs o vs ++ cur := by
  induction vs with
  | nil => intro cs cur o _; rfl
  | cons v vs ih =>
    intro cs cur o h
    simp only [List.length_cons] at h
    rw [setCells, setCells, List.set_append_left _ _ (by omega), ih (by simp; omega)]
theorem setCells_full {cs vs : List Value} (h : vs.length = cs.length) : setCells cs 0 vs = vs := by
  apply List.ext_getElem?
  intro k
  rw [setCells_get _ _ _ _ (by omega)]
  by_cases hk : k < vs.length
  · rw [if_pos (by omega), Nat.sub_zero]
  · rw [if_neg (by omega), List.getElem?_eq_none (by omega), List.getElem?_eq_none (by omega)]
theorem tab_put {n sz i : Nat} {f : Nat → List Value} {vs : List Value} (hf : ∀ i, i < n → (f i).length = sz) (hi : i < n) (hv : vs.length = sz) : setCells (tab n f) (i * sz) vs = tab n (fun k => if k = i then vs else f k) := by
  have := tab_set (o := 0) hf hi (by omega : 0 + vs.length ≤ sz)
  rw [Nat.add_zero] at this
  rw [this]
  apply tab_congr
  intro k _
  show (if k = i then _ else _) = (if k = i then _ else _)
  split
  · exact setCells_full (by rw [hf i hi, hv])
  · rfl
theorem cellsAt_app {cs cur : List Value} {o n : Nat} (h : o + n ≤ cs.length) : cellsAt (cs ++ cur) o n = cellsAt cs o n := by
  rw [cellsAt_eq, cellsAt_eq, List.drop_append_of_le_length (by omega), List.take_append_of_le_length (by rw [List.length_drop]; omega)]

def swp (f : Nat → List Value) (m k : Nat) : Nat → List Value := fun x => if x < k ∨ m - k ≤ x then f (m - 1 - x) else f x
set_option maxHeartbeats 4000000 in
theorem reverse22 {w : World} {fp : List Nat} {v : Value} {m : Nat} {f : Nat → List Value} (hm : 0 < m) (hm64 : m ≤ 64) (hf : ∀ i, i < m → (f i).length = 3) (h1 : ∀ i, i < m → ∀ u ∈ f i, u.oneCell' = true) (hn : fp.Nodup) (hs : Sats (hp w) [row 59 3 v m (tab m f)] fp) :
    Gives Try.prog 22 [v] w fp (fun _ : Unit => True) (fun _ => .tuple #[]) (fun _ => [row 59 3 v m (tab m fun i => f (m - 1 - i))]) := by
  refine givesM_of_tr Try.func22 rfl rfl hn hs ?_
  refine tr_rowOpen (by exact Take.here) hm ?_
  rintro g cap cur rfl hcap hmx hsz hxl
  have hlen := tab_length hf
  (refine tr_seq ?_; refine tr_region ?_; refine tr_val (rk_move (Is.of rfl)) rfl ?_; refine tr_val (rk_len_slice (Is.of rfl)) rfl ?_; refine tr_val (rk_sub (Is.of rfl) (Is.of rfl) (ini (by omega))) rfl ?_; refine tr_val (rk_assign (Is.of rfl)) rfl ?_; refine tr_val (rk_assign (Is.of rfl)) rfl ?_; refine tr_nil ?_; refine tr_then ?_; refine tr_block ?_)
  refine tr_for (fun k : Nat => 2 * k ≤ m) (fun k => [(2, .int .i64 k), (3, .int .i64 ((m - 1 - k : Nat) : Int)), (0, .slice (some ⟨g, 0, none⟩) m cap)]) (fun k => [blk g (.cells (tab m (swp f m k) ++ cur).toArray 59 (0, 0))]) (fun k => m - 2 * k) ?_ ?_
  · apply tr_start 0 (by omega)
    case hs1 => exact Subs.cons rfl (Subs.consE rfl (by congr 1; omega) (Subs.cons rfl Subs.nil))
    case ht =>
      rw [show tab m (swp f m 0) = tab m f from tab_congr fun i hi => by unfold swp; rw [if_neg (by omega)]]
      exact Takes.cons Take.here Takes.nil
  intro k hk
  have hfk : ∀ i, i < m → (swp f m k i).length = 3 := fun i hi => by unfold swp; split <;> exact hf _ (by omega)
  have h1k : ∀ i, i < m → ∀ u ∈ swp f m k i, u.oneCell' = true := fun i hi => by unfold swp; split <;> exact h1 _ (by omega)
  have hlk := tab_length hfk
  by_cases hlt : k < m - 1 - k
  · have hj : m - 1 - k < m := by omega
    have hki : k < m := by omega
    have hc1 : cellsAt (tab m (swp f m k) ++ cur) (k * 3) 3 = swp f m k k := by rw [cellsAt_app (by rw [hlk]; omega)]; exact tab_cells hfk hki
    have hc2 : cellsAt (tab m (swp f m k) ++ cur) ((m - 1 - k) * 3) 3 = swp f m k (m - 1 - k) := by rw [cellsAt_app (by rw [hlk]; omega)]; exact tab_cells hfk hj
    have hl1 := hfk k hki
    have hl2 := hfk _ hj
    (refine tr_seq ?_; refine tr_seq ?_; refine tr_region ?_; refine tr_val (rk_move (Is.of rfl)) rfl ?_; refine tr_val (rk_move (Is.of rfl)) rfl ?_; refine tr_val (rk_lss (Is.of rfl) (Is.of rfl)) rfl ?_; refine tr_nil ?_; refine tr_then ?_; refine tr_cond_d (Is.of rfl) (fun hcd => ?_) (fun hcd => (by omega)); refine tr_skip ?_; refine tr_then ?_; refine tr_seq ?_; refine tr_block ?_)
    with_reducible refine tr_left 16 rfl ?_
    (refine left_take 0 rfl kr_ kr_ kr_ (fun w ρ => rfl) (fun w => (rk_move (Is.of rfl))) rfl ?_; refine left_take 1 rfl kr_ kr_ kr_ (fun w ρ => rfl) (fun w => (rk_move (Is.of rfl))) rfl ?_; refine left_take 2 rfl kr_ kr_ kr_ (fun w ρ => rfl) (fun w => (rk_move (Is.of rfl))) rfl ?_; refine left_take 3 rfl kr_ kr_ kr_ (fun w ρ => rfl) (fun w => (rk_move (Is.of rfl))) rfl ?_; refine left_take 4 rfl kr_ kr_ kr_ (fun w ρ => rfl) (fun w => (rk_move (Is.of rfl))) rfl ?_; refine left_take 5 rfl kr_ kr_ kr_ (fun w ρ => rfl) (fun w => (rk_move (Is.of rfl))) rfl ?_; refine left_take 6 rfl kr_ kr_ kr_ (fun w ρ => rfl) (fun w => (rk_indexAddr (Is.of rfl) (Is.of rfl) rfl (by omega) (by omega) norm1_)) rfl ?_; refine left_take 8 rfl kr_ kr_ kr_ (fun w ρ => rfl) (fun w => (rk_move (Is.of rfl))) rfl ?_; refine left_take 9 rfl kr_ kr_ kr_ (fun w ρ => rfl) (fun w => (rk_move (Is.of rfl))) rfl ?_; refine left_take 10 rfl kr_ kr_ kr_ (fun w ρ => rfl) (fun w => (rk_indexAddr (Is.of rfl) (Is.of rfl) rfl (by omega) (by omega) norm1_)) rfl ?_)
    have hF1 : ∀ i, i < m → (if i = k then swp f m k (m - 1 - k) else swp f m k i).length = 3 := fun i hi => by split <;> exact hfk _ (by omega)
    have hlF1 := tab_length hF1
    have he1 : setCells (tab m (swp f m k) ++ cur) (k * 3) (swp f m k (m - 1 - k)) = tab m (fun i => if i = k then swp f m k (m - 1 - k) else swp f m k i) ++ cur := by
      rw [setCells_app (by rw [hlk, hl2]; omega), tab_put hfk hki hl2]
    have he2 : setCells (tab m (fun i => if i = k then swp f m k (m - 1 - k) else swp f m k i) ++ cur) ((m - 1 - k) * 3) (swp f m k k) = tab m (swp f m (k + 1)) ++ cur := by
      rw [setCells_app (by rw [hlF1, hl1]; omega), tab_put hF1 hj hl1]
      congr 1
      apply tab_congr
      intro i hi
      unfold swp
      by_cases e1 : i = m - 1 - k
      · subst e1
        rw [if_pos rfl, if_neg (by omega), if_pos (by omega)]
        congr 1; omega
      · rw [if_neg e1]
        by_cases e2 : i = k
        · subst e2
          rw [if_pos rfl, if_neg (by omega), if_pos (by omega)]
        · rw [if_neg e2]
          by_cases e3 : i < k ∨ m - k ≤ i
          · rw [if_pos e3, if_pos (by omega)]
          · rw [if_neg e3, if_neg (by omega)]
    have hb1 : k * 3 + 3 ≤ (tab m (swp f m k) ++ cur).length := by rw [List.length_append, hlk]; omega
    have hb2 : (m - 1 - k) * 3 + 3 ≤ (tab m (fun i => if i = k then swp f m k (m - 1 - k) else swp f m k i) ++ cur).length := by rw [List.length_append, hlF1]; omega
    refine left_ready (rs := [7, 11]) (by kernel_rfl) (by simp) (List.forall_mem_cons.2 ⟨?_, List.forall_mem_cons.2 ⟨?_, fun _ h => absurd h List.not_mem_nil⟩⟩)
    · refine next_step rfl ?_
      (refine tr_val (rk_loadB (Is.of rfl) Take.here hc2 hl2) rfl ?_; refine tr_nil ?_; refine tr_then ?_)
      · refine left_ready (rs := [11]) (by kernel_rfl) (by simp) (List.forall_mem_cons.2 ⟨?_, fun _ h => absurd h List.not_mem_nil⟩)
        refine next_step rfl ?_
        (refine tr_val (rk_loadB (Is.of rfl) Take.here hc1 hl1) rfl ?_; refine tr_nil ?_; refine tr_then ?_)
        refine left_take 12 rfl kr_ kr_ kr_ (fun w ρ => rfl) (fun w => (rk_indexAddr (Is.of rfl) (Is.of rfl) rfl (by omega) (by omega) norm1_)) rfl ?_
        refine left_ready (rs := [13]) (by kernel_rfl) (by simp) (List.forall_mem_cons.2 ⟨?_, fun _ h => absurd h List.not_mem_nil⟩)
        refine next_step rfl ?_
        with_reducible apply tr_store
        case hx => exact Is.of rfl
        case hy => exact Is.of rfl
        case ht => exact Take.here
        case hv => exact rfl
        case hl => assumption
        case h1 => exact h1k _ (by omega)
        case h2 => exact hb1
        case he => exact he1
        (refine tr_nil ?_; refine tr_then ?_)
        refine left_take 14 rfl kr_ kr_ kr_ (fun w ρ => rfl) (fun w => (rk_indexAddr (Is.of rfl) (Is.of rfl) rfl (by omega) (by omega) norm1_)) rfl ?_
        refine left_ready (rs := [15]) (by kernel_rfl) (by simp) (List.forall_mem_cons.2 ⟨?_, fun _ h => absurd h List.not_mem_nil⟩)
        refine next_step rfl ?_
        with_reducible apply tr_store
        case hx => exact Is.of rfl
        case hy => exact Is.of rfl
        case ht => exact Take.here
        case hv => exact rfl
        case hl => assumption
        case h1 => exact h1k _ (by omega)
        case h2 => exact hb2
        case he => exact he2
        (refine tr_nil ?_; refine tr_then ?_)
        with_reducible refine left_done (by kernel_rfl) ?_
        (refine tr_blk_normal ?_; refine tr_then ?_; refine tr_region ?_; refine tr_val (rk_move (Is.of rfl)) rfl ?_; refine tr_val (rk_add (Is.of rfl) (Is.of rfl) (ini (by omega))) rfl ?_; refine tr_val (rk_move (Is.of rfl)) rfl ?_; refine tr_val (rk_sub (Is.of rfl) (Is.of rfl) (ini (by omega))) rfl ?_; refine tr_val (rk_assign (Is.of rfl)) rfl ?_; refine tr_val (rk_assign (Is.of rfl)) rfl ?_; refine tr_nil ?_; refine tr_then ?_)
        apply tr_next (k + 1) (by omega) (by omega)
        case hs1 => exact Subs.cons rfl (Subs.consE rfl (by congr 1; omega) (Subs.cons rfl Subs.nil))
        case ht => exact Takes.cons Take.here Takes.nil
    · refine next_step rfl ?_
      (refine tr_val (rk_loadB (Is.of rfl) Take.here hc1 hl1) rfl ?_; refine tr_nil ?_; refine tr_then ?_)
      · refine left_ready (rs := [7]) (by kernel_rfl) (by simp) (List.forall_mem_cons.2 ⟨?_, fun _ h => absurd h List.not_mem_nil⟩)
        refine next_step rfl ?_
        (refine tr_val (rk_loadB (Is.of rfl) Take.here hc2 hl2) rfl ?_; refine tr_nil ?_; refine tr_then ?_)
        refine left_take 12 rfl kr_ kr_ kr_ (fun w ρ => rfl) (fun w => (rk_indexAddr (Is.of rfl) (Is.of rfl) rfl (by omega) (by omega) norm1_)) rfl ?_
        refine left_ready (rs := [13]) (by kernel_rfl) (by simp) (List.forall_mem_cons.2 ⟨?_, fun _ h => absurd h List.not_mem_nil⟩)
        refine next_step rfl ?_
        with_reducible apply tr_store
        case hx => exact Is.of rfl
        case hy => exact Is.of rfl
        case ht => exact Take.here
        case hv => exact rfl
        case hl => assumption
        case h1 => exact h1k _ (by omega)
        case h2 => exact hb1
        case he => exact he1
        (refine tr_nil ?_; refine tr_then ?_)
        refine left_take 14 rfl kr_ kr_ kr_ (fun w ρ => rfl) (fun w => (rk_indexAddr (Is.of rfl) (Is.of rfl) rfl (by omega) (by omega) norm1_)) rfl ?_
        refine left_ready (rs := [15]) (by kernel_rfl) (by simp) (List.forall_mem_cons.2 ⟨?_, fun _ h => absurd h List.not_mem_nil⟩)
        refine next_step rfl ?_
        with_reducible apply tr_store
        case hx => exact Is.of rfl
        case hy => exact Is.of rfl
        case ht => exact Take.here
        case hv => exact rfl
        case hl => assumption
        case h1 => exact h1k _ (by omega)
        case h2 => exact hb2
        case he => exact he2
        (refine tr_nil ?_; refine tr_then ?_)
        with_reducible refine left_done (by kernel_rfl) ?_
        (refine tr_blk_normal ?_; refine tr_then ?_; refine tr_region ?_; refine tr_val (rk_move (Is.of rfl)) rfl ?_; refine tr_val (rk_add (Is.of rfl) (Is.of rfl) (ini (by omega))) rfl ?_; refine tr_val (rk_move (Is.of rfl)) rfl ?_; refine tr_val (rk_sub (Is.of rfl) (Is.of rfl) (ini (by omega))) rfl ?_; refine tr_val (rk_assign (Is.of rfl)) rfl ?_; refine tr_val (rk_assign (Is.of rfl)) rfl ?_; refine tr_nil ?_; refine tr_then ?_)
        apply tr_next (k + 1) (by omega) (by omega)
        case hs1 => exact Subs.cons rfl (Subs.consE rfl (by congr 1; omega) (Subs.cons rfl Subs.nil))
        case ht => exact Takes.cons Take.here Takes.nil
  · have hrev : tab m (swp f m k) = tab m fun i => f (m - 1 - i) := tab_congr fun i hi => by
      unfold swp
      by_cases e : i < k ∨ m - k ≤ i
      · rw [if_pos e]
      · rw [if_neg e]; congr 1; omega
    rw [hrev]
    have hl2 : (tab m fun i => f (m - 1 - i)).length = m * 3 := tab_length fun i hi => hf _ (by omega)
    refine tr_rowShut (n := m) (cap := cap) (sz := 3) (show Take _ (blk g (.cells ((tab m fun i => f (m - 1 - i)) ++ cur).toArray 59 (0, 0))) _ by exact Take.here) hcap hmx (by rw [List.length_append, hl2]; rw [List.length_append, hxl] at hsz; omega) hl2 ?_
    (refine tr_seq ?_; refine tr_seq ?_; refine tr_region ?_; refine tr_val (rk_move (Is.of rfl)) rfl ?_; refine tr_val (rk_move (Is.of rfl)) rfl ?_; refine tr_val (rk_lss (Is.of rfl) (Is.of rfl)) rfl ?_; refine tr_nil ?_; refine tr_then ?_; refine tr_cond_d (Is.of rfl) (fun hcd => (by omega)) (fun hcd => ?_); refine tr_exit ?_; refine tr_then_exit ?_; refine tr_then_exit ?_; refine tr_blk_exit ?_)
    first | with_reducible apply tr_retM | with_reducible apply tr_endM
    case he => exact ends0 rfl
    case hR =>
      intro w' hm'
      exact gives_end () trivial (show Takes _ [row 59 3 (.slice (some ⟨g, 0, none⟩) m cap) m (tab m fun i => f (m - 1 - i))] _ by exact Takes.cons Take.here Takes.nil) hm' rfl
end Go.Proofs.A1
