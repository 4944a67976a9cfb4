/- Parts of the proof: R9 R10 R11 Q2p R12 R13 R14 S67 S86. -/
import Derived.Test.YtfbgbipclgljaaaGreatDoorVM26
import Derived.Test.YtfbgbipclgljaaaGreatDoorVM06
import Derived.Test.YtfbgbipclgljaaaGreatDoorVM21
set_option linter.unusedSectionVars false
set_option linter.unusedVariables false
set_option linter.unusedSimpArgs false
/- R9 -/
namespace Go.Proofs.A1
open Go Go.SL

theorem ownQ_c {sv : Value} {es : List En} {w : World} (h1 : Rd w sv 6 (ensL es)) (hn : es.length ≤ 1000) :
    Gives Tryz.prog 138 [.agg #[sv]] w [] (fun _ : Value => True) (fun v => .agg #[v]) (fun v => [row 115 6 v es.length (ensL es).flatten]) := by
  have hone := Rd.one h1
  refine gives_of_tr Tryz.func138 rfl rfl ?_
  (refine s_r ?_; refine tr_new (rk_box (.of rfl) rfl) rfl (fun _ _ => ?_); refine tr_new (rk_alloc rfl) rfl (fun _ _ => ?_); refine n_r ?_)
  with_reducible apply tr_new
  case hr => exact rk_sliceLit0
  case hd => rfl
  intro bq hbq
  (refine f_a rfl rfl norm0_ ?_; refine tr_val (rk_load1 (.of rfl) (At.lit (.there (.there .here)) rfl)) rfl ?_)
  refine tr_rowLitE (g := bq) (E := 115) (ys := []) 0 6 (by exact .here) rfl rfl rfl ?_
  with_reducible apply tr_appendR
  case hx => exact Is.of rfl
  case hy => exact Is.of rfl
  case ht => exact .here
  case hsrc => exact fun w' hm' => h1.keeps hm'.keeps
  case h1 => exact ensL_one es
  case hz => exact rfl
  case hsz => exact rfl
  case hb0 => exact rfl
  case hb => rw [ensL_length]; omega
  case hd => rfl
  intro v'
  rw [ensL_length, Nat.zero_add, List.nil_append]
  refine tr_rowSl (E := 115) (sz := 6) (by exact .here) fun a' cap' e => ?_
  subst e
  (refine tr_val (rk_buildL (.cons (.of rfl) .nil) norm_) rfl ?_; refine tr_store (.of rfl) (.of rfl) (.there .here) rfl rfl (okc_cons rfl okc_nil) (lenb rfl) norm_ ?_; refine n_t ?_; refine tr_ret ?_)
  first | with_reducible apply tr_retM | with_reducible apply tr_endM
  case he => exact ends1cB rfl inferInstance rfl .here norm_ (by rfl)
  case hR =>
    intro w' hm'
    exact gives_end (.slice a' es.length cap') trivial (show Takes _ [row 115 6 (.slice a' es.length cap') es.length (ensL es).flatten] _ by exact .cons (.there .here) .nil) hm' rfl
instance decEn : DecidableEq En := fun a b => decidable_of_iff (a.nm = b.nm ∧ a.mt = b.mt ∧ a.kd = b.kd ∧ a.tm = b.tm ∧ a.ln = b.ln ∧ a.ov = b.ov) (by cases a; cases b; simp)
theorem sameQ_c {v1 v2 : Value} {l1 l2 : List En} {w : World} (h1 : Rd w v1 6 (ensL l1)) (h2 : Rd w v2 6 (ensL l2)) : GivesV Tryz.prog 85 [.agg #[v1], .agg #[v2]] w (.bool (decide (l1 = l2))) := by
  obtain ⟨a, cap, b, o, rfl, hcap, hmax, ha, hc⟩ := h1
  obtain ⟨a2, cap2, b2, o2, rfl, hcap2, hmax2, ha2, hc2⟩ := h2
  rw [ensL_length] at *
  rw [ensL_length] at *
  unfold maxLen at hmax hmax2
  refine givesV_of_tr Tryz.func85 rfl rfl ?_
  (refine s_r ?_; refine tr_new (rk_box (.of rfl) rfl) rfl (fun _ _ => ?_); refine tr_new (rk_box (.of rfl) rfl) rfl (fun _ _ => ?_); refine a_s rfl rfl ?_; refine n_t ?_; refine tr_seq ?_; refine s_r ?_; refine f_a rfl rfl norm0_ ?_; refine tr_val (rk_load1 (.of rfl) (At.lit (.there .here) rfl)) rfl ?_; refine tr_val (rk_len_slice (.of rfl)) rfl ?_; refine f_a rfl rfl norm0_ ?_; refine tr_val (rk_load1 (.of rfl) (At.lit .here rfl)) rfl ?_; refine tr_val (rk_len_slice (.of rfl)) rfl ?_; refine tr_val (rk_neq (.of rfl) (.of rfl)) rfl ?_; refine n_t ?_; refine c_d rfl (fun hcd => ?_) (fun hcd => ?_); refine s_r ?_; refine a_s rfl rfl ?_; refine n_t ?_; refine r_t ?_; refine tr_retE rfl (ends1 rfl rfl) ?_; rotate_left; refine s_t ?_; refine tr_seq ?_; refine s_r ?_; refine a_s rfl rfl ?_; refine n_t ?_; refine tr_block ?_; rotate_right)
  · rw [decide_eq_false (fun e => hcd (by rw [e]))]
  have hlen : l1.length = l2.length := by omega
  rename_i c1 hc1 c2 hc2'
  refine tr_for (fun k : Nat => k ≤ l1.length ∧ ∀ i, i < k → l1[i]? = l2[i]?) (fun k => [(5, .int .i64 k), (2, .pointer (some ⟨c1, 0, none⟩)), (3, .pointer (some ⟨c2, 0, none⟩))]) (fun _ => [blk c2 (.cells #[.slice a2 l2.length cap2] 24 (0, 0)), blk c1 (.cells #[.slice a l1.length cap] 24 (0, 0))]) (fun k => l1.length - k) ?_ ?_
  · apply tr_start 0 ⟨Nat.zero_le _, fun i h => by omega⟩
    case hs1 => exact .cons rfl (.cons rfl (.cons rfl .nil))
    case ht => (try simp only [List.take_zero, List.map_nil, List.nil_append]); exact .cons .here (.cons .here .nil)
  rintro k ⟨hk, hf⟩
  by_cases hlt : k < l1.length
  · have hlt2 : k < l2.length := by omega
    have ha' := ha (ensL_ne hlt)
    have ha2' := ha2 (ensL_ne hlt2)
    have hcell := (hc k _ (ensL_get hlt)).2
    have hcell2 := (hc2 k _ (ensL_get hlt2)).2
    have hx1 := nth_eq hlt
    have hy1 := nth_eq hlt2
    generalize hx : nth l1 k = x at hcell hx1
    generalize hy : nth l2 k = y at hcell2 hy1
    obtain ⟨x0, x1, x2, x3, x4, x5⟩ := x
    obtain ⟨y0, y1, y2, y3, y4, y5⟩ := y
    unfold En.cells at hcell hcell2
    dsimp only at hcell hcell2
    (refine tr_seq ?_; refine s_r ?_; refine m_v rfl rfl ?_; refine f_a rfl rfl norm0_ ?_; refine tr_val (rk_load1 (.of rfl) (At.lit (.there .here) rfl)) rfl ?_; refine tr_val (rk_len_slice (.of rfl)) rfl ?_; refine tr_val (rk_lss (.of rfl) (.of rfl)) rfl ?_; refine n_t ?_; refine c_d rfl (fun hcd => ?_) (fun _ => by omega); refine s_t ?_; refine tr_seq ?_; refine tr_block ?_; refine tr_seq ?_)
    with_reducible refine tr_draw 11 (by kernel_rfl) ?_
    (refine a_f rfl rfl norm0_ ?_; refine any_val (rk_load1 (.of rfl) (At.lit (.there .here) rfl)) rfl ?_; refine a_m rfl rfl ?_; refine any_val (rk_indexAddr (.of rfl) (.of rfl) ha' (by omega) hcd norm1_) rfl ?_; refine any_val (rk_loadN (.of rfl) (Ats.base hcell rfl) rfl) rfl ?_; refine a_f rfl rfl norm0_ ?_; refine any_val (rk_load1 (.of rfl) (At.lit .here rfl)) rfl ?_; refine a_m rfl rfl ?_; refine any_val (rk_indexAddr (.of rfl) (.of rfl) ha2' (by omega) (by omega) norm1_) rfl ?_; refine any_val (rk_loadN (.of rfl) (Ats.base hcell2 rfl) rfl) rfl ?_; refine any_val (rk_neqA (.of rfl) (.of rfl) (okL_string (okL_string (okL_string (okL_int (okL_int (okL_int okL_nil)))))) rfl) rfl ?_)
    with_reducible refine any_end ?_
    (refine n_t ?_; refine c_b rfl (fun hcd => ?_) (fun hcd => ?_); refine s_r ?_; refine a_s rfl rfl ?_; refine n_t ?_; refine tr_ret ?_; refine tr_blk_ret ?_; refine tr_then_ret ?_; refine tr_then_ret ?_; refine tr_blk_ret ?_; refine tr_then_ret ?_; refine tr_retE rfl (ends1 rfl rfl) ?_; rotate_left; refine tr_skip ?_; refine tr_blk_normal ?_; refine tr_then ?_; refine tr_region ?_; refine m_v rfl rfl ?_; refine tr_val (rk_add (.of rfl) (.of rfl) (ini (by omega))) rfl ?_; refine a_s rfl rfl ?_; refine n_t ?_; rotate_right)
    · have hne : ¬ l1 = l2 := by
        intro e
        subst e
        rw [← hx1] at hy1
        cases hy1
        simp at hcd
      rw [decide_eq_false hne]
    · have heq : l1[k]? = l2[k]? := by
        rw [List.getElem?_eq_getElem hlt, List.getElem?_eq_getElem hlt2, ← hx1, ← hy1]
        simp at hcd
        simp [hcd]
      apply tr_next (k + 1) ⟨by omega, fun i hi => by
        by_cases e : i = k
        · rw [e]; exact heq
        · exact hf i (by omega)⟩ (by omega)
      case hs1 => exact .cons rfl (.cons rfl (.cons rfl .nil))
      case ht => (try simp only [List.take_zero, List.map_nil, List.nil_append]); exact .cons .here (.cons .here .nil)
  · obtain rfl : k = l1.length := by omega
    (refine tr_seq ?_; refine s_r ?_; refine m_v rfl rfl ?_; refine f_a rfl rfl norm0_ ?_; refine tr_val (rk_load1 (.of rfl) (At.lit (.there .here) rfl)) rfl ?_; refine tr_val (rk_len_slice (.of rfl)) rfl ?_; refine tr_val (rk_lss (.of rfl) (.of rfl)) rfl ?_; refine n_t ?_; refine c_d rfl (fun _ => by omega) (fun hcd => ?_); refine x_t ?_; refine tr_then_exit ?_; refine tr_blk_exit ?_; refine tr_then ?_; refine s_r ?_; refine a_s rfl rfl ?_; refine n_t ?_; refine tr_ret ?_; refine tr_retE rfl (ends1 rfl rfl) ?_)
    have : l1 = l2 := List.ext_getElem? fun i => by
      by_cases hi : i < l1.length
      · exact hf i hi
      · rw [List.getElem?_eq_none (by omega), List.getElem?_eq_none (by omega)]
    rw [decide_eq_true this]
end Go.Proofs.A1


/- R10 -/
namespace Go.Proofs.A1
open Go Go.SL

end Go.Proofs.A1


/- R11 -/
namespace Go.Proofs.A1
open Go Go.SL

set_option maxHeartbeats 1000000 in
theorem changed_t {v u : Value} {es ws : List En} {e : Int} {w : World} (h1 : Rd w v 6 (ensL es)) (h2 : Rd w u 6 (ensL ws)) (hl : es.length ≤ 1000) (h0 : e ≠ 0 → es = []) (hz : e = 0 → es = ws) :
    GivesV Tryz.prog 58 [.agg #[v], .int .i64 e, .int .i64 e, .agg #[u]] w (.bool true) := by
  have h1' := h1
  have hone2 := Rd.one h2
  obtain ⟨a, cap, b, o, rfl, hcap, hmax, ha, hc⟩ := h1'
  rw [ensL_length] at *
  unfold maxLen at hmax
  refine givesV_of_tr Tryz.func58 rfl rfl ?_
  (refine s_r ?_; refine tr_new (rk_box (.of rfl) rfl) rfl (fun _ _ => ?_); refine tr_new (rk_box (.of rfl) rfl) rfl (fun _ _ => ?_); refine a_s rfl rfl ?_; refine n_t ?_; refine tr_seq ?_)
  rename_i b4 hb4 b7 hb7
  with_reducible refine tr_drawM 24 (by kernel_rfl) ?_
  (refine am_val (fun β => (rk_move (.of rfl))) ind0 rfl ?_; refine am_val (fun β => (rk_move (.of rfl))) ind0 rfl ?_; refine am_val (fun β => (rk_eql (.of rfl) (.of rfl))) ind0 rfl ?_; refine am_val (fun β => (rk_move (.of rfl))) ind0 rfl ?_)
  rw [show decide (e = e) = true from decide_eq_true rfl]
  (refine am_gOn rfl (fun _ => rfl) ?_; refine am_val (fun β => (rk_move (.of rfl))) ind0 rfl ?_; refine am_gOn rfl (fun _ => rfl) ?_; refine am_val (fun β => (rk_neq (.of rfl) (.of rfl))) ind0 rfl ?_; refine am_gOn rfl (fun _ => rfl) ?_; refine am_val (fun β => (rk_move (.of rfl))) ind0 rfl ?_)
  by_cases he : e = 0
  · rw [show decide (e ≠ 0) = false from decide_eq_false (fun h => h he)]
    (refine am_gOff rfl (fun _ => rfl) (Or.inr rfl) rfl ?_; refine am_gOff rfl (fun _ => rfl) (Or.inr rfl) rfl ?_; refine am_gOff rfl (fun _ => rfl) (Or.inr rfl) rfl ?_; refine am_gOff rfl (fun _ => rfl) (Or.inr rfl) rfl ?_; refine am_gOn rfl (fun _ => rfl) ?_; refine am_val (fun β => (rk_pickB (.of rfl) (.of rfl) (.of rfl) rfl)) ind0 rfl ?_; refine am_gOn rfl (fun _ => rfl) ?_; refine am_val (fun β => (rk_move (.of rfl))) ind0 rfl ?_; refine am_gOn rfl (fun _ => rfl) ?_; refine am_val (fun β => (rk_move (.of rfl))) ind0 rfl ?_; refine am_gOn rfl (fun _ => rfl) ?_; refine am_val (fun β => (rk_eql (.of rfl) (.of rfl))) ind0 rfl ?_; refine am_gOn rfl (fun _ => rfl) ?_; refine am_val (fun β => (rk_move (.of rfl))) ind0 rfl ?_)
    rw [show decide (e = 0) = true from decide_eq_true he]
    (refine am_gOn rfl (fun _ => rfl) ?_; refine am_val (fun β => (rk_loadB (.of rfl) (.there .here) norm_ (by rfl))) ind0 rfl ?_)
    have hsame : ∀ (v' : Value) w', Keeps [] w w' → Rd w' v' 6 (ensL es) → GivesV Tryz.prog 85 [.agg #[v'], .agg #[u]] w' (.bool true) := fun v' w' hk hr => by
      have := sameQ_c hr (h2.keeps hk)
      rwa [decide_eq_true (hz he)] at this
    dsimp only [Nat.zero_add, Nat.reduceAdd]
    refine am_gOn rfl (fun _ => rfl) ?_
    with_reducible apply am_call (ι := Value) (Φ := fun _ => True) (val := fun v => .agg #[v]) (own := fun v => [row 115 6 v es.length (enR es es.length)]) (g := id) (B := []) (args := fun _ => [.agg #[.slice a es.length cap]])
    case hg => exact fun x => ⟨x, rfl⟩
    case hB => rfl
    case hr => exact fun β => rk_call (.of rfl) (.cons (.of rfl) .nil) inferInstance rfl
    case hd => rfl
    case hc => exact fun β w' hb => told_c (h1.keeps hb.mem.keeps) hl
    dsimp only [id_eq, Nat.reduceAdd]
    (refine am_gOn rfl (fun _ => rfl) ?_; refine am_val (fun β => (rk_loadB (.of rfl) .here norm_ (by rfl))) ind0 rfl ?_)
    dsimp only [Nat.reduceAdd]
    refine am_gOn rfl (fun _ => rfl) ?_
    with_reducible apply am_callV (B := [17]) (F := fun _ => .bool true) (args := fun β => [.agg #[β 17], .agg #[u]])
    case hB => kernel_rfl
    case hr => exact fun β => rk_call (.of rfl) (.cons (.of rfl) (.cons (.of rfl) .nil)) inferInstance rfl
    case hi => exact ind0
    case hd => rfl
    case hc =>
      intro β w' hb
      have hm' := hb.at 17 List.mem_cons_self (s := ⟨fun β => .agg #[β 17], fun β => [row 115 6 (β 17) es.length (enR es es.length)]⟩) (by kernel_rfl)
      dsimp only [List.cons_append, List.nil_append] at hm'
      exact hsame _ w' hb.mem.keeps (rdEn hm' (by exact .here))
    (refine am_gOn rfl (fun _ => rfl) ?_; refine am_val (fun β => (rk_pickB (.of rfl) (.of rfl) (.of rfl) rfl)) ind0 rfl ?_; refine am_gOn rfl (fun _ => rfl) ?_; refine am_val (fun β => (rk_pickB (.of rfl) (.of rfl) (.of rfl) rfl)) ind0 rfl ?_; refine am_val (fun β => (rk_pickB (.of rfl) (.of rfl) (.of rfl) rfl)) ind0 rfl ?_; refine am_val (fun β => (rk_assign (.of rfl))) ind0 rfl ?_)
    refine am_end fun β => ?_
    dsimp only [resAll, List.nil_append, List.cons_append, List.append_eq, Nat.reduceAdd]
    with_reducible refine left_done (by kernel_rfl) ?_
    (refine tr_then ?_; refine tr_ret ?_; refine tr_retE rfl (ends1 rfl rfl) ?_)
    rfl
  · have hes := h0 he
    subst hes
    rw [show decide (e ≠ 0) = true from decide_eq_true he]
    (refine am_gOn rfl (fun _ => rfl) ?_; refine am_val (fun β => (rk_fieldAddr (.of rfl) norm0_)) ind0 rfl ?_; refine am_gOn rfl (fun _ => rfl) ?_; refine am_val (fun β => (rk_load1 (.of rfl) (At.lit (.there .here) rfl))) ind0 rfl ?_; refine am_gOn rfl (fun _ => rfl) ?_; refine am_val (fun β => (rk_len_slice (.of rfl))) ind0 rfl ?_; refine am_gOn rfl (fun _ => rfl) ?_; refine am_val (fun β => (rk_eql (.of rfl) (.of rfl))) ind0 rfl ?_; refine am_gOn rfl (fun _ => rfl) ?_; refine am_val (fun β => (rk_pickB (.of rfl) (.of rfl) (.of rfl) rfl)) ind0 rfl ?_; refine am_gOn rfl (fun _ => rfl) ?_; refine am_val (fun β => (rk_move (.of rfl))) ind0 rfl ?_; refine am_gOff rfl (fun _ => rfl) (Or.inr rfl) rfl ?_; refine am_gOff rfl (fun _ => rfl) (Or.inr rfl) rfl ?_; refine am_gOff rfl (fun _ => rfl) (Or.inr rfl) rfl ?_; refine am_gOff rfl (fun _ => rfl) (Or.inl rfl) rfl ?_; refine am_gOff rfl (fun _ => rfl) (Or.inl rfl) rfl ?_; refine am_gOff rfl (fun _ => rfl) (Or.inl rfl) rfl ?_; refine am_gOff rfl (fun _ => rfl) (Or.inl rfl) rfl ?_; refine am_gOff rfl (fun _ => rfl) (Or.inr rfl) rfl ?_; refine am_gOn rfl (fun _ => rfl) ?_; refine am_val (fun β => (rk_pickB (.of rfl) (.of rfl) (.of rfl) rfl)) ind0 rfl ?_; refine am_val (fun β => (rk_pickB (.of rfl) (.of rfl) (.of rfl) rfl)) ind0 rfl ?_; refine am_val (fun β => (rk_assign (.of rfl))) ind0 rfl ?_)
    rw [show decide ((([] : List En).length : Int) = 0) = true from rfl]
    skip
    refine am_end fun β => ?_
    dsimp only [resAll, List.nil_append, List.cons_append, List.append_eq, Nat.reduceAdd]
    with_reducible refine left_done (by kernel_rfl) ?_
    (refine tr_then ?_; refine tr_ret ?_; refine tr_retE rfl (ends1 rfl rfl) ?_)
    rfl
end Go.Proofs.A1


/- Q2p -/
/- Placing: the errors of the program and those of the reference are the same. Plain Lean. -/
namespace Go.Proofs.A1
open Go Go.SL
section
variable {es : List En} {b : Br} {gap : Int} {ol : List Int}
end
end Go.Proofs.A1


/- R12 -/
namespace Go.Proofs.A1
open Go Go.SL

end Go.Proofs.A1


/- R13 -/
namespace Go.Proofs.A1
open Go Go.SL

end Go.Proofs.A1


/- R14 -/
namespace Go.Proofs.A1
open Go Go.SL

theorem setCells_skip : ∀ (vs : List Value) (A B : List Value) (o : Nat), setCells (A ++ B) (A.length + o) vs = A ++ setCells B o vs
  | [], _, _, _ => rfl
  | v :: vs, A, B, o => by
    rw [setCells, setCells, List.set_append_right _ _ (by omega), Nat.add_sub_cancel_left, Nat.add_assoc, setCells_skip vs]
theorem setCells_fore : ∀ (vs : List Value) (A B : List Value) (o : Nat), o + vs.length ≤ A.length → setCells (A ++ B) o vs = setCells A o vs ++ B
  | [], _, _, _, _ => rfl
  | v :: vs, A, B, o, h => by
    simp only [List.length_cons] at h
    rw [setCells, setCells, List.set_append_left _ _ (by omega), setCells_fore vs _ _ _ (by simp; omega)]
theorem chg_flat1 (es : List En) (k : Nat) (l : List En) : (ensL (chg es k (k + 1) l)).flatten = (ensL (es.take k)).flatten ++ ((ensL l).flatten ++ (ensL (es.drop (k + 1))).flatten) := by
  simp [chg, ensL]
theorem es_flat1 {es : List En} {k : Nat} (h : k < es.length) : (ensL es).flatten = (ensL (es.take k)).flatten ++ ((nth es k).cells ++ (ensL (es.drop (k + 1))).flatten) := by
  conv => lhs; rw [← List.take_append_drop k es, List.drop_eq_getElem_cons h]
  rw [nth_eq h, ← List.drop_eq_getElem_cons h, ensL, List.map_append, List.flatten_append, List.drop_eq_getElem_cons h]
  rfl
end Go.Proofs.A1


/- S67 -/
namespace Go.Proofs.A1
open Go Go.SL

end Go.Proofs.A1


/- S86 -/
namespace Go.Proofs.A1
open Go Go.SL

theorem rk_nilCheck {P : Program} {c : Cx} {sl : Slots} {hs : List Asn} {dst : Option Tmp} {ty : TypeId} {pos : String} {af : Array Edge} {g : Option (Nat × Bool)} {x : Operand} {p : Addr} (hx : Is sl x (.pointer (some p))) : RunV P c sl hs ⟨dst, .nilCheck x, ty, pos, af, g⟩ (.pointer (some p)) :=
  ⟨by simp, fun a w ha _ => by simp [execOp, hx a ha]⟩
/-! schedules that are moved -/
def stm (x : En) (t : Int) : En := { x with tm := t }
def shx (by' : Int) (x : En) : En := if x.kd = sFol then x else stm x (x.tm + by')
def shK (es : List En) (by' : Int) (k : Nat) : List En := (es.take k).map (shx by') ++ es.drop k
theorem shK_len (es : List En) (by' : Int) (k : Nat) : (shK es by' k).length = es.length := by
  unfold shK
  rw [List.length_append, List.length_map, List.length_take, List.length_drop]; omega
theorem shK_nth {es : List En} {by' : Int} {k : Nat} (h : k < es.length) : nth (shK es by' k) k = nth es k := by
  have hl : ((es.take k).map (shx by')).length = k := by rw [List.length_map, List.length_take]; omega
  unfold nth shK
  rw [List.getD_eq_getElem?_getD, List.getD_eq_getElem?_getD, List.getElem?_append_right (by omega), hl, Nat.sub_self, List.getElem?_drop, Nat.add_zero]
theorem shK_succ {es : List En} {by' : Int} {k : Nat} (h : k < es.length) : shK es by' (k + 1) = chg (shK es by' k) k (k + 1) [shx by' (nth es k)] := by
  have hl : ((es.take k).map (shx by')).length = k := by rw [List.length_map, List.length_take]; omega
  have h1 : (shK es by' k).take k = (es.take k).map (shx by') := by unfold shK; rw [List.take_append_of_le_length (by omega), List.take_of_length_le (by omega)]
  have h2 : (shK es by' k).drop (k + 1) = es.drop (k + 1) := by
    unfold shK
    rw [List.drop_append, List.drop_of_length_le (by omega), List.nil_append, hl, List.drop_drop]
    congr 1; omega
  unfold chg
  rw [h1, h2]
  unfold shK
  rw [List.take_succ_eq_append_getElem h, List.map_append, nth_eq h]
  simp
theorem shK_fol {es : List En} {by' : Int} {k : Nat} (h : k < es.length) (hf : (nth es k).kd = sFol) : shK es by' (k + 1) = shK es by' k := by
  unfold shK
  rw [List.take_succ_eq_append_getElem h, List.map_append, List.drop_eq_getElem_cons h, nth_eq h] at *
  simp [shx, hf]
theorem shK_set {es : List En} {by' : Int} {k : Nat} (h : k < es.length) (hf : ¬ (nth es k).kd = sFol) : shK es by' (k + 1) = chg (shK es by' k) k (k + 1) [stm (nth (shK es by' k) k) ((nth es k).tm + by')] := by
  rw [shK_succ h, shK_nth h, shx, if_neg hf]
theorem shK_nth1 {es : List En} {by' : Int} {k : Nat} (h : k < es.length) : nth (shK es by' (k + 1)) k = shx by' (nth es k) := by
  have hl : ((es.take k).map (shx by')).length = k := by rw [List.length_map, List.length_take]; omega
  unfold shK
  rw [List.take_succ_eq_append_getElem h, List.map_append, nth_eq h]
  unfold nth
  rw [List.getD_eq_getElem?_getD, List.append_assoc, List.getElem?_append_right (by omega), hl, Nat.sub_self]; rfl
/-- is a start out of its range? -/
def shB (es : List En) (by' : Int) (k : Nat) : Bool := !decide ((nth es k).kd = sFol) && (decide ((nth es k).tm + by' < 0) || decide (10000000 < (nth es k).tm + by'))
def sfQ (es : List En) (by' : Int) : Int := if (List.range es.length).any (shB es by') then 3 else chkF (shK es by' es.length)
def sfQL (es : List En) (by' : Int) : List En := if sfQ es by' = 0 then shK es by' es.length else []
def sf0 (es : List En) (by' : Int) : Int := firstF [chkF es, withinF by' (-10000000) 10000000]
def sfE (es : List En) (by' : Int) : Int := if sf0 es by' ≠ 0 then sf0 es by' else sfQ es by'
def sfL (es : List En) (by' : Int) : List En := if sfE es by' = 0 then shK es by' es.length else []
theorem sfQ_bad {es : List En} {by' : Int} {k : Nat} (h : k < es.length) (hb : shB es by' k = true) : sfQ es by' = 3 := by
  rw [sfQ, if_pos (List.any_eq_true.2 ⟨k, List.mem_range.2 h, hb⟩)]
theorem sfQ_ok {es : List En} {by' : Int} (h : ∀ i, i < es.length → shB es by' i = false) : sfQ es by' = chkF (shK es by' es.length) := by
  rw [sfQ, if_neg]
  rw [Bool.not_eq_true, List.any_eq_false]
  intro i hi
  rw [h i (List.mem_range.1 hi)]; decide
theorem stm_set {es : List En} {k : Nat} {cur : List Value} (t : Int) (h : k < es.length) : setCells ((ensL es).flatten ++ cur) (k * 6 + 3) [.int .i64 t] = (ensL (chg es k (k + 1) [stm (nth es k) t])).flatten ++ cur := by
  have hl : (ensL (es.take k)).flatten.length = k * 6 := by rw [ensL_flatlen, List.length_take]; congr 1; omega
  rw [setCells_fore _ _ _ _ (by rw [ensL_flatlen]; simp; omega), es_flat1 h, ← hl, setCells_skip, setCells_fore _ _ _ _ (by show 3 + 1 ≤ 6; omega), chg_flat1]
  rfl
theorem chg_none (es : List En) (n : Nat) : chg es n n [] = es := by unfold chg; simp
theorem ens_at {es : List En} {k j : Nat} {cur : List Value} {u : Value} (h : k < es.length) (hu : (nth es k).cells[j]? = some u) : ((ensL es).flatten ++ cur)[k * 6 + j]? = some u := by
  have hj : j < 6 := (List.getElem?_eq_some_iff.1 hu).1
  rw [List.getElem?_append_left (by rw [ensL_flatlen]; omega)]
  exact flatten_get _ k (fun r hr => ensL_sz es r hr) (ensL_get h) hu
theorem duo_at2 {l : List Value} {i : Nat} {u v : Value} (h0 : l[i]? = some u) (h1 : l[i + 1]? = some v) : cellsAt l i 2 = [u, v] := by
  rw [cellsAt_eq]
  obtain ⟨l0, g0⟩ := List.getElem?_eq_some_iff.1 h0
  obtain ⟨l1, g1⟩ := List.getElem?_eq_some_iff.1 h1
  rw [List.drop_eq_getElem_cons l0, List.drop_eq_getElem_cons l1]
  simp only [List.take_succ_cons, List.take_zero]
  rw [g0, g1]
set_option maxHeartbeats 2000000 in
theorem shiftedX_c {sv : Value} {es : List En} {by' : Int} {w : World} (h1 : Rd w sv 6 (ensL es)) (hG : Glob w) :
    Gives Tryz.prog 88 [.agg #[sv], .int .i64 by'] w [] (fun _ : Value => True) (fun v => .tuple #[.agg #[v], .int .i64 (sfE es by')]) (fun v => [row 138 6 v (sfL es by').length (ensL (sfL es by')).flatten]) := by
  have hone := Rd.one h1
  have h1' := h1
  obtain ⟨a, cap, bb, o, rfl, hcap, hmax, ha, hc⟩ := h1'
  rw [ensL_length] at *
  unfold maxLen at hmax
  refine gives_of_tr Tryz.func88 rfl rfl ?_
  (refine s_r ?_; refine tr_new (rk_box (.of rfl) rfl) rfl (fun _ _ => ?_); refine tr_new (rk_alloc rfl) rfl (fun _ _ => ?_); refine a_s rfl rfl ?_; refine n_t ?_; refine tr_seq ?_; refine s_r ?_; refine tr_val (rk_loadB (.of rfl) (.there .here) norm_ (by rfl)) rfl ?_; refine tr_callV (rk_call (.of rfl) (.cons (.of rfl) .nil) inferInstance normc_) rfl (fun w' hm' => (chk_c (Rd.keeps h1 (Mem.keeps hm')) (Glob.keeps hG (Mem.keeps hm')))) ?_; refine m_v rfl rfl ?_; refine tr_callV (rk_call (.of rfl) (.cons (.of rfl) (.cons (.of rfl) (.cons (.of rfl) .nil))) inferInstance normc_) rfl (fun w' hm' => (within_c by' _ 10000000 w')) ?_; refine tr_new (rk_sliceLit (.cons (.of rfl) (.cons (.of rfl) .nil)) rfl rfl rfl rfl) rfl (fun _ _ => ?_); refine tr_callV (rk_call (.of rfl) (.cons (.of rfl) .nil) inferInstance normc_) rfl (fun w' hm' => (first_pB (Mem.rdBlk hm' .here rfl rfl) (IntL.cons (IntL.cons IntL.nil)))) ?_; refine a_s rfl rfl ?_; refine n_r ?_; refine m_v rfl rfl ?_; refine tr_val (rk_neq (.of rfl) (.of rfl)) rfl ?_; refine n_t ?_; refine c_d rfl (fun hcd => ?_) (fun hcd => ?_); refine s_r ?_; refine tr_val (rk_buildL .nil norm_) rfl ?_; refine m_v rfl rfl ?_; refine tr_store (.of rfl) (.of rfl) (.there .here) rfl rfl (okc_cons rfl okc_nil) (lenb rfl) norm_ ?_; refine a_s rfl rfl ?_; refine n_t ?_; refine r_t ?_; rotate_left; refine s_t ?_; refine s_r ?_; refine tr_val (rk_loadB (.of rfl) (.there (.there .here)) norm_ (by rfl)) rfl ?_; refine f_a rfl rfl norm0_ ?_; refine tr_val (rk_load1 (.of rfl) (At.lit (.there (.there .here)) rfl)) rfl ?_; refine tr_val (rk_len_slice (.of rfl)) rfl ?_; refine f_a rfl rfl norm0_ ?_; refine tr_val (rk_load1 (.of rfl) (At.lit (.there (.there .here)) rfl)) rfl ?_; refine tr_val (rk_len_slice (.of rfl)) rfl ?_; rotate_right)
  · have hne : sf0 es by' ≠ 0 := hcd
    have hE : sfE es by' = sf0 es by' := by rw [sfE, if_pos hne]
    have hL : sfL es by' = [] := by rw [sfL, if_neg (by rw [hE]; exact hne)]
    rw [hE, hL]
    refine tr_rowNil 138 6 ?_
    first | with_reducible apply tr_retM | with_reducible apply tr_endM
    case he => exact endsCT rfl inferInstance rfl (.there .here) norm_ (by rfl) (by rfl)
    case hR =>
      intro w' hm'
      exact gives_end (.slice none 0 0) trivial (show Takes _ [row 138 6 (.slice none 0 0) 0 []] _ by exact .cons .here .nil) hm' rfl
  have hz0 : sf0 es by' = 0 := Decidable.not_not.1 hcd
  clear hcd
  have hz1 := hz0
  unfold sf0 at hz1
  rw [firstF_zero] at hz1
  simp only [List.mem_cons, List.not_mem_nil, or_false, forall_eq_or_imp, forall_eq, withinF_zero] at hz1
  obtain ⟨hzc, hby⟩ := hz1
  have hs := Sound.of hzc
  have hEQ : sfE es by' = sfQ es by' := by rw [sfE, if_neg (by rw [hz0]; decide)]
  have hLQ : sfL es by' = if sfQ es by' = 0 then shK es by' es.length else [] := by rw [sfL, hEQ]
  rw [hEQ, hLQ]
  rename_i b2 hb2 b4 hb4 bq hbq
  have hfew := hs.all.few
  with_reducible apply tr_call
  case hr => exact rk_call (.of rfl) (.cons (.of rfl) (.cons (.of rfl) (.cons (.of rfl) (.cons (.of rfl) .nil)))) inferInstance normc_
  case hd => rfl
  case ht => exact Takes.nil
  case hc =>
    intro w1 fp hm1 _ hs1
    obtain rfl : fp = [] := hs1
    have := changed_c (l := []) (lv := .slice none 0 0) (f := es.length) (t := es.length) (h1.keeps hm1.keeps) (Rd.nil w1 6) (Nat.le_refl _) (Nat.le_refl _) (by simp; omega)
    rw [chg_none] at this
    exact this
  intro v _
  dsimp only [id_eq, List.cons_append, List.nil_append]
  refine tr_rowSl (E := 138) (sz := 6) (v := v) (by exact .here) fun va vc e => ?_
  subst e
  (refine tr_new (rk_alloc rfl) rfl (fun _ _ => ?_); refine tr_store (.of rfl) (.of rfl) .here rfl rfl (okc_cons rfl okc_nil) (lenb rfl) norm_ ?_; refine n_t ?_; refine tr_seq ?_; refine s_r ?_; refine f_a rfl rfl norm0_ ?_; refine tr_val (rk_load1 (.of rfl) (At.lit .here rfl)) rfl ?_; refine tr_val (rk_len_slice (.of rfl)) rfl ?_; refine m_v rfl rfl ?_; refine n_t ?_; refine tr_block ?_)
  rename_i b7 hb7
  by_cases hn0 : 0 < es.length
  · refine tr_rowOpen (E := 138) (sz := 6) (by exact Take.there .here) hn0 fun g cap2 cur e hk2 hx2 hz2 hl2 => ?_
    obtain ⟨rfl, -, rfl⟩ := Value.slice.inj e
    refine tr_for (ι := Nat) (fun k => k ≤ es.length ∧ ∀ i, i < k → shB es by' i = false) (fun k => [(33, .int .i64 (k : Int)), (32, .int .i64 es.length), (7, .pointer (some ⟨b7, 0, none⟩)), (1, .int .i64 by'), (4, .pointer (some ⟨b4, 0, none⟩)), (5, .int .i64 0)]) (fun k => [blk g (.cells ((ensL (shK es by' k)).flatten ++ cur).toArray 138), blk b7 (.cells #[.slice (some ⟨g, 0, none⟩) es.length vc] 33), blk b4 (.cells #[.slice none 0 0] 33)]) (fun k => es.length - k) ?_ ?_
    · apply tr_start (0 : Nat) ⟨Nat.zero_le _, fun i h => absurd h (Nat.not_lt_zero _)⟩
      case hs1 => exact .cons rfl (.cons rfl (.cons rfl (.cons rfl (.cons rfl (.cons rfl .nil)))))
      case ht =>
        show Takes _ [blk g (.cells ((ensL es).flatten ++ cur).toArray 138), blk b7 (.cells #[.slice (some ⟨g, 0, none⟩) es.length vc] 33), blk b4 (.cells #[.slice none 0 0] 33)] _
        exact .cons .here (.cons .here (.cons (.there .here) .nil))
    rintro k ⟨hk, hf⟩
    by_cases hlt : k < es.length
    · have hkl : k < (shK es by' k).length := by rw [shK_len]; exact hlt
      have hok := hs.all.ok k hlt
      have htm := hok.tm
      have hfo := hok.fol
      have c2 : ((ensL (shK es by' k)).flatten ++ cur)[k * 6 + 2]? = some (.string (nth es k).kd) := ens_at hkl (by rw [shK_nth hlt]; rfl)
      have c3 : ((ensL (shK es by' k)).flatten ++ cur)[k * 6 + 3]? = some (.int .i64 (nth es k).tm) := ens_at hkl (by rw [shK_nth hlt]; rfl)
      have c23 := duo_at2 c2 c3
      have hflat : (ensL (shK es by' k)).flatten.length = es.length * 6 := by rw [ensL_flatlen, shK_len]
      by_cases hfl : (nth es k).kd = sFol
      · have ht0 := hfo hfl
        have hsb : shB es by' k = false := by unfold shB; rw [decide_eq_true hfl]; rfl
        have hse := shK_fol (by' := by') hlt hfl
        have hfw : ∀ w', Keeps [] w w' → GivesV Tryz.prog 110 [.agg #[.string (nth es k).kd, .int .i64 (nth es k).tm]] w' (.bool true) := fun w' hk => by
          have := follows_c (nth es k).kd (nth es k).tm w' (hG.keeps hk)
          rwa [decide_eq_true hfl, decide_eq_true ht0] at this
        (refine s_r ?_; refine tr_val (rk_lss (.of rfl) (.of rfl)) rfl ?_; refine n_t ?_; refine tr_seq ?_; refine c_d rfl (fun hcd => ?_) (fun _ => by omega); refine s_t ?_; refine tr_seq ?_; refine tr_block ?_; refine s_r ?_; refine m_v rfl rfl ?_; refine a_s rfl rfl ?_; refine n_r ?_; refine f_a rfl rfl norm0_ ?_; refine tr_val (rk_load1 (.of rfl) (At.lit (.there .here) rfl)) rfl ?_; refine m_v rfl rfl ?_; refine tr_val (rk_indexAddr (.of rfl) (.of rfl) rfl (by omega) hcd norm1_) rfl ?_; refine a_s rfl rfl ?_; refine n_t ?_; refine tr_seq ?_; refine s_r ?_; refine m_v rfl rfl ?_; refine tr_val (rk_nilCheck (.of rfl)) rfl ?_; refine f_a rfl rfl norm0_ ?_; refine tr_val (rk_loadB (.of rfl) .here c23 rfl) rfl ?_; refine tr_callV (rk_call (.of rfl) (.cons (.of rfl) .nil) inferInstance normc_) rfl (fun w' hm' => (hfw w' (Mem.keeps hm'))) ?_; refine n_t ?_; refine tr_cond_t (.of rfl) ?_; refine x_t ?_; refine tr_blk_exit ?_; refine tr_then ?_; refine tr_region ?_; refine tr_val (rk_add (.of rfl) (.of rfl) (ini (by omega))) rfl ?_; refine m_v rfl rfl ?_; refine n_t ?_)
        rw [← hse]
        apply tr_next (k + 1) ⟨(show k + 1 ≤ es.length from hlt), fun i hi => by
          by_cases e : i = k
          · rw [e]; exact hsb
          · exact hf i (by omega)⟩ (show es.length - (k + 1) < es.length - k by omega)
        case hs1 => exact .cons rfl (.cons rfl (.cons rfl (.cons rfl (.cons rfl (.cons rfl .nil)))))
        case ht => exact .cons .here (.cons .here (.cons .here .nil))
      have hsE := shK_set (by' := by') hlt hfl
      rw [shK_nth hlt] at hsE
      have hst := stm_set (es := shK es by' k) (cur := cur) ((nth es k).tm + by') hkl
      rw [shK_nth hlt, ← hsE] at hst
      have d3 : ((ensL (shK es by' (k + 1))).flatten ++ cur)[k * 6 + 3]? = some (.int .i64 ((nth es k).tm + by')) := ens_at (by rw [shK_len]; exact hlt) (by rw [shK_nth1 hlt, shx, if_neg hfl]; rfl)
      have hsl : k * 6 + 3 + 1 ≤ ((ensL (shK es by' k)).flatten ++ cur).length := by rw [List.length_append, hflat]; omega
      have hfw : ∀ w', Keeps [] w w' → GivesV Tryz.prog 110 [.agg #[.string (nth es k).kd, .int .i64 (nth es k).tm]] w' (.bool false) := fun w' hk => by
        have := follows_c (nth es k).kd (nth es k).tm w' (hG.keeps hk)
        rwa [decide_eq_false hfl] at this
      (refine s_r ?_; refine tr_val (rk_lss (.of rfl) (.of rfl)) rfl ?_; refine n_t ?_; refine tr_seq ?_; refine c_d rfl (fun hcd => ?_) (fun _ => by omega); refine s_t ?_; refine tr_seq ?_; refine tr_block ?_; refine s_r ?_; refine m_v rfl rfl ?_; refine a_s rfl rfl ?_; refine n_r ?_; refine f_a rfl rfl norm0_ ?_; refine tr_val (rk_load1 (.of rfl) (At.lit (.there .here) rfl)) rfl ?_; refine m_v rfl rfl ?_; refine tr_val (rk_indexAddr (.of rfl) (.of rfl) rfl (by omega) hcd norm1_) rfl ?_; refine a_s rfl rfl ?_; refine n_t ?_; refine tr_seq ?_; refine s_r ?_; refine m_v rfl rfl ?_; refine tr_val (rk_nilCheck (.of rfl)) rfl ?_; refine f_a rfl rfl norm0_ ?_; refine tr_val (rk_loadB (.of rfl) .here c23 rfl) rfl ?_; refine tr_callV (rk_call (.of rfl) (.cons (.of rfl) .nil) inferInstance normc_) rfl (fun w' hm' => (hfw w' (Mem.keeps hm'))) ?_; refine n_t ?_; refine tr_cond_f (.of rfl) ?_; refine s_t ?_; refine s_r ?_; refine m_v rfl rfl ?_; refine tr_val (rk_nilCheck (.of rfl)) rfl ?_; refine f_a rfl rfl norm0_ ?_; refine f_a rfl rfl norm0_ ?_; refine tr_val (rk_load1 (.of rfl) (At.blkL .here c3)) rfl ?_; refine m_v rfl rfl ?_; refine tr_val (rk_add (.of rfl) (.of rfl) (ini (by omega))) rfl ?_; refine tr_val (rk_nilCheck (.of rfl)) rfl ?_; refine f_a rfl rfl norm0_ ?_; refine f_a rfl rfl norm0_ ?_; refine tr_store (.of rfl) (.of rfl) .here rfl rfl (okc_cons rfl okc_nil) hsl hst ?_; refine n_r ?_; refine m_v rfl rfl ?_; refine tr_val (rk_nilCheck (.of rfl)) rfl ?_; refine f_a rfl rfl norm0_ ?_; refine f_a rfl rfl norm0_ ?_; refine tr_val (rk_load1 (.of rfl) (At.blkL .here d3)) rfl ?_; refine tr_callV (rk_call (.of rfl) (.cons (.of rfl) .nil) inferInstance normc_) rfl (fun w' hm' => (frame_c _ w')) ?_; refine a_s rfl rfl ?_; refine n_r ?_; refine m_v rfl rfl ?_; refine tr_val (rk_neq (.of rfl) (.of rfl)) rfl ?_; refine n_t ?_; refine c_d rfl (fun hcd => ?_) (fun hcd => ?_); refine s_r ?_; refine tr_val (rk_buildL .nil norm_) rfl ?_; refine m_v rfl rfl ?_; refine tr_store (.of rfl) (.of rfl) (.there (.there .here)) rfl rfl (okc_cons rfl okc_nil) (lenb rfl) norm_ ?_; refine a_s rfl rfl ?_; refine n_t ?_; refine tr_ret ?_; refine tr_blk_ret ?_; refine tr_then_ret ?_; refine tr_then_ret ?_; refine tr_blk_ret ?_; refine tr_then_ret ?_; rotate_left; refine tr_skip ?_; refine tr_blk_normal ?_; refine tr_then ?_; refine tr_region ?_; refine tr_val (rk_add (.of rfl) (.of rfl) (ini (by omega))) rfl ?_; refine m_v rfl rfl ?_; refine n_t ?_; rotate_right)
      · have h3 : sfQ es by' = withinF ((nth es k).tm + by') 0 10000000 := by
          have hr : ¬ (0 ≤ (nth es k).tm + by' ∧ (nth es k).tm + by' ≤ 10000000) := fun h => hcd (withinF_zero.2 h)
          have hbad : (decide ((nth es k).tm + by' < 0) || decide (10000000 < (nth es k).tm + by')) = true := by
            rw [Bool.or_eq_true, decide_eq_true_eq, decide_eq_true_eq]; omega
          rw [sfQ_bad hlt (by unfold shB; rw [decide_eq_false hfl, hbad]; rfl), withinF, hbad]; rfl
        rw [h3, if_neg hcd]
        refine tr_rowNil 138 6 ?_
        first | with_reducible apply tr_retM | with_reducible apply tr_endM
        case he => exact endsCT rfl inferInstance rfl (.there .here) norm_ (by rfl) (by rfl)
        case hR =>
          intro w' hm'
          exact gives_end (.slice none 0 0) trivial (show Takes _ [row 138 6 (.slice none 0 0) 0 []] _ by exact .cons .here .nil) hm' rfl
      have hz : withinF ((nth es k).tm + by') 0 10000000 = 0 := Decidable.not_not.1 hcd
      have hzi := withinF_zero.1 hz
      have hsb : shB es by' k = false := by
        unfold shB
        rw [decide_eq_false (p := (nth es k).tm + by' < 0) (by omega), decide_eq_false (p := 10000000 < (nth es k).tm + by') (by omega)]; simp
      clear hcd
      apply tr_next (k + 1) ⟨(show k + 1 ≤ es.length from hlt), fun i hi => by
        by_cases e : i = k
        · rw [e]; exact hsb
        · exact hf i (by omega)⟩ (show es.length - (k + 1) < es.length - k by omega)
      case hs1 => exact .cons rfl (.cons rfl (.cons rfl (.cons rfl (.cons rfl (.cons rfl .nil)))))
      case ht => exact .cons .here (.cons .here (.cons .here .nil))
    obtain rfl : k = es.length := by omega
    have hQ := sfQ_ok hf
    refine tr_rowShut (E := 138) (sz := 6) (g := g) (n := es.length) (cap := vc) (xs := (ensL (shK es by' es.length)).flatten) (cur := cur) (by exact .here) hk2 hx2 (by rw [List.length_append, ensL_flatlen, shK_len, ← ensL_flatlen, ← List.length_append]; exact hz2) (by rw [ensL_flatlen, shK_len]) ?_
    (refine s_r ?_; refine tr_val (rk_lss (.of rfl) (.of rfl)) rfl ?_; refine n_t ?_; refine tr_seq ?_; refine c_d rfl (fun _ => by omega) (fun hcd => ?_); refine x_t ?_; refine tr_then_exit ?_; refine tr_blk_exit ?_; refine tr_then ?_; refine tr_seq ?_; refine s_r ?_; refine tr_val (rk_loadB (.of rfl) (.there .here) norm_ (by rfl)) rfl ?_)
    with_reducible apply tr_callV
    case hr => exact rk_call (.of rfl) (.cons (.of rfl) .nil) inferInstance normc_
    case hd => rfl
    case hc =>
      intro w' hm'
      exact chk_c (es := shK es by' es.length) (rdEnF (v := .slice (some ⟨g, 0, none⟩) es.length vc) hm' (by exact .here) (shK_len es by' es.length)) (hG.keeps hm'.keeps)
    rw [← hQ]
    by_cases hzz : sfQ es by' = 0
    · rw [if_pos hzz, hzz, shK_len]
      (refine a_s rfl rfl ?_; refine n_r ?_; refine m_v rfl rfl ?_; refine tr_val (rk_neq (.of rfl) (.of rfl)) rfl ?_; refine n_t ?_; refine c_d rfl (fun _ => by omega) (fun hcd => ?_); refine s_t ?_; refine s_r ?_; refine tr_val (rk_loadB (.of rfl) (.there .here) norm_ (by rfl)) rfl ?_; refine tr_store (.of rfl) (.of rfl) (.there (.there .here)) rfl rfl (okc_cons rfl okc_nil) (lenb rfl) norm_ ?_; refine a_s rfl rfl ?_; refine n_t ?_; refine tr_ret ?_)
      first | with_reducible apply tr_retM | with_reducible apply tr_endM
      case he => exact endsCT rfl inferInstance rfl .here norm_ (by rfl) (by rfl)
      case hR =>
        intro w' hm'
        exact gives_end (.slice (some ⟨g, 0, none⟩) es.length vc) trivial (show Takes _ [row 138 6 (.slice (some ⟨g, 0, none⟩) es.length vc) es.length (ensL (shK es by' es.length)).flatten] _ by exact .cons (.there .here) .nil) hm' rfl

    rw [if_neg hzz]
    (refine a_s rfl rfl ?_; refine n_r ?_; refine m_v rfl rfl ?_; refine tr_val (rk_neq (.of rfl) (.of rfl)) rfl ?_; refine n_t ?_; refine c_d rfl (fun hcd => ?_) (fun _ => by omega); refine s_r ?_; refine tr_val (rk_buildL .nil norm_) rfl ?_; refine m_v rfl rfl ?_; refine tr_store (.of rfl) (.of rfl) (.there (.there .here)) rfl rfl (okc_cons rfl okc_nil) (lenb rfl) norm_ ?_; refine a_s rfl rfl ?_; refine n_t ?_; refine r_t ?_)
    refine tr_rowNil 138 6 ?_
    first | with_reducible apply tr_retM | with_reducible apply tr_endM
    case he => exact endsCT rfl inferInstance rfl (.there .here) norm_ (by rfl) (by rfl)
    case hR =>
      intro w' hm'
      exact gives_end (.slice none 0 0) trivial (show Takes _ [row 138 6 (.slice none 0 0) 0 []] _ by exact .cons .here .nil) hm' rfl
  have e0 : es.length = 0 := by omega
  have hnil : es = [] := List.eq_nil_of_length_eq_zero e0
  have hQ := sfQ_ok (es := es) (by' := by') fun i hi => by omega
  have hsk : shK es by' es.length = es := by rw [hnil]; rfl
  rw [hsk] at hQ ⊢
  refine tr_for (ι := Unit) (fun _ => True) (fun _ => [(33, .int .i64 0), (32, .int .i64 es.length), (7, .pointer (some ⟨b7, 0, none⟩)), (1, .int .i64 by'), (4, .pointer (some ⟨b4, 0, none⟩)), (5, .int .i64 0)]) (fun _ => [blk b7 (.cells #[.slice va es.length vc] 33), blk b4 (.cells #[.slice none 0 0] 33), row 138 6 (.slice va es.length vc) es.length (ensL es).flatten]) (fun _ => 0) ?_ ?_
  · apply tr_start () trivial
    case hs1 => exact .cons rfl (.cons rfl (.cons rfl (.cons rfl (.cons rfl (.cons rfl .nil)))))
    case ht => exact .cons .here (.cons (.there (.there .here)) (.cons .here .nil))
  rintro ⟨⟩ _
  (refine s_r ?_; refine tr_val (rk_lss (.of rfl) (.of rfl)) rfl ?_; refine n_t ?_; refine tr_seq ?_; refine c_d rfl (fun _ => by omega) (fun hcd => ?_); refine x_t ?_; refine tr_then_exit ?_; refine tr_blk_exit ?_; refine tr_then ?_; refine tr_seq ?_; refine s_r ?_; refine tr_val (rk_loadB (.of rfl) .here norm_ (by rfl)) rfl ?_)
  with_reducible apply tr_callV
  case hr => exact rk_call (.of rfl) (.cons (.of rfl) .nil) inferInstance normc_
  case hd => rfl
  case hc =>
    intro w' hm'
    exact chk_c (es := es) (rdEnF (v := .slice va es.length vc) hm' (by exact Take.there (.there .here)) rfl) (hG.keeps hm'.keeps)
  rw [← hQ]
  by_cases hzz : sfQ es by' = 0
  · rw [if_pos hzz, hzz]
    (refine a_s rfl rfl ?_; refine n_r ?_; refine m_v rfl rfl ?_; refine tr_val (rk_neq (.of rfl) (.of rfl)) rfl ?_; refine n_t ?_; refine c_d rfl (fun _ => by omega) (fun hcd => ?_); refine s_t ?_; refine s_r ?_; refine tr_val (rk_loadB (.of rfl) .here norm_ (by rfl)) rfl ?_; refine tr_store (.of rfl) (.of rfl) (.there .here) rfl rfl (okc_cons rfl okc_nil) (lenb rfl) norm_ ?_; refine a_s rfl rfl ?_; refine n_t ?_; refine tr_ret ?_)
    first | with_reducible apply tr_retM | with_reducible apply tr_endM
    case he => exact endsCT rfl inferInstance rfl .here norm_ (by rfl) (by rfl)
    case hR =>
      intro w' hm'
      exact gives_end (.slice va es.length vc) trivial (show Takes _ [row 138 6 (.slice va es.length vc) es.length (ensL (es)).flatten] _ by exact .cons (.there (.there .here)) .nil) hm' rfl

  exact absurd (hQ.trans hzc) hzz
set_option maxHeartbeats 2000000 in
theorem shiftedQ_c {sv : Value} {es : List En} {by' : Int} {w : World} (h1 : Rd w sv 6 (ensL es)) (hs : Sound es) (hby : -10000000 ≤ by' ∧ by' ≤ 10000000) :
    Gives Tryz.prog 94 [.agg #[sv], .int .i64 by'] w [] (fun _ : Value => True) (fun v => .tuple #[.agg #[v], .int .i64 (sfQ es by')]) (fun v => [row 115 6 v (sfQL es by').length (ensL (sfQL es by')).flatten]) := by
  have hone := Rd.one h1
  have h1' := h1
  obtain ⟨a, cap, bb, o, rfl, hcap, hmax, ha, hc⟩ := h1'
  rw [ensL_length] at *
  unfold maxLen at hmax
  refine gives_of_tr Tryz.func94 rfl rfl ?_
  (refine s_r ?_; refine tr_new (rk_box (.of rfl) rfl) rfl (fun _ _ => ?_); refine tr_new (rk_alloc rfl) rfl (fun _ _ => ?_); refine a_s rfl rfl ?_; refine n_r ?_; refine tr_val (rk_loadB (.of rfl) (.there .here) norm_ (by rfl)) rfl ?_)
  have hLQ : sfQL es by' = if sfQ es by' = 0 then shK es by' es.length else [] := rfl
  rw [hLQ]
  rename_i b2 hb2 b4 hb4
  have hfew := hs.all.few
  with_reducible apply tr_call
  case hr => exact rk_call (.of rfl) (.cons (.of rfl) .nil) inferInstance normc_
  case hd => rfl
  case ht => exact Takes.nil
  case hc =>
    intro w1 fp hm1 _ hs1
    obtain rfl : fp = [] := hs1
    exact ownQ_c (h1.keeps hm1.keeps) (by omega)
  intro v _
  dsimp only [id_eq, List.cons_append, List.nil_append]
  refine tr_rowSl (E := 115) (sz := 6) (v := v) (by exact .here) fun va vc e => ?_
  subst e
  (refine tr_new (rk_alloc rfl) rfl (fun _ _ => ?_); refine tr_store (.of rfl) (.of rfl) .here rfl rfl (okc_cons rfl okc_nil) (lenb rfl) norm_ ?_; refine n_t ?_; refine tr_seq ?_; refine s_r ?_; refine a_s rfl rfl ?_; refine n_t ?_; refine tr_block ?_)
  rename_i b6 hb6
  by_cases hn0 : 0 < es.length
  · refine tr_rowOpen (E := 115) (sz := 6) (by exact Take.there .here) hn0 fun g cap2 cur e hk2 hx2 hz2 hl2 => ?_
    obtain ⟨rfl, -, rfl⟩ := Value.slice.inj e
    refine tr_for (ι := Nat) (fun k => k ≤ es.length ∧ ∀ i, i < k → shB es by' i = false) (fun k => [(7, .int .i64 (k : Int)), (6, .pointer (some ⟨b6, 0, none⟩)), (1, .int .i64 by'), (4, .pointer (some ⟨b4, 0, none⟩)), (5, .int .i64 0)]) (fun k => [blk g (.cells ((ensL (shK es by' k)).flatten ++ cur).toArray 115), blk b6 (.cells #[.slice (some ⟨g, 0, none⟩) es.length vc] 24), blk b4 (.cells #[.slice none 0 0] 24)]) (fun k => es.length - k) ?_ ?_
    · apply tr_start (0 : Nat) ⟨Nat.zero_le _, fun i h => absurd h (Nat.not_lt_zero _)⟩
      case hs1 => exact .cons rfl (.cons rfl (.cons rfl (.cons rfl (.cons rfl .nil))))
      case ht =>
        show Takes _ [blk g (.cells ((ensL es).flatten ++ cur).toArray 115), blk b6 (.cells #[.slice (some ⟨g, 0, none⟩) es.length vc] 24), blk b4 (.cells #[.slice none 0 0] 24)] _
        exact .cons .here (.cons .here (.cons .here .nil))
    rintro k ⟨hk, hf⟩
    by_cases hlt : k < es.length
    · have hkl : k < (shK es by' k).length := by rw [shK_len]; exact hlt
      have hok := hs.all.ok k hlt
      have htm := hok.tm
      have hfo := hok.fol
      have c2 : ((ensL (shK es by' k)).flatten ++ cur)[k * 6 + 2]? = some (.string (nth es k).kd) := ens_at hkl (by rw [shK_nth hlt]; rfl)
      have c3 : ((ensL (shK es by' k)).flatten ++ cur)[k * 6 + 3]? = some (.int .i64 (nth es k).tm) := ens_at hkl (by rw [shK_nth hlt]; rfl)
      have c23 := duo_at2 c2 c3
      have hflat : (ensL (shK es by' k)).flatten.length = es.length * 6 := by rw [ensL_flatlen, shK_len]
      by_cases hfl : (nth es k).kd = sFol
      · have ht0 := hfo hfl
        have hsb : shB es by' k = false := by unfold shB; rw [decide_eq_true hfl]; rfl
        have hse := shK_fol (by' := by') hlt hfl
        (refine tr_seq ?_; refine s_r ?_; refine m_v rfl rfl ?_; refine f_a rfl rfl norm0_ ?_; refine tr_val (rk_load1 (.of rfl) (At.lit (.there .here) rfl)) rfl ?_; refine tr_val (rk_len_slice (.of rfl)) rfl ?_; refine tr_val (rk_lss (.of rfl) (.of rfl)) rfl ?_; refine n_t ?_; refine c_d rfl (fun hcd => ?_) (fun _ => by omega); refine s_t ?_; refine tr_seq ?_; refine tr_block ?_; refine tr_seq ?_; refine s_r ?_; refine f_a rfl rfl norm0_ ?_; refine tr_val (rk_load1 (.of rfl) (At.lit (.there .here) rfl)) rfl ?_; refine m_v rfl rfl ?_; refine tr_val (rk_indexAddr (.of rfl) (.of rfl) rfl (by omega) hcd norm1_) rfl ?_; refine f_a rfl rfl norm0_ ?_; refine f_a rfl rfl norm0_ ?_; refine tr_val (rk_load1 (.of rfl) (At.blkL .here c2)) rfl ?_; refine tr_val (rk_eqls (.of rfl) (.of rfl)) rfl ?_; refine n_t ?_; refine c_d rfl (fun hcd => ?_) (fun hcd => ?_); refine x_t ?_; refine tr_blk_exit ?_; refine tr_then ?_; refine tr_region ?_; refine m_v rfl rfl ?_; refine tr_val (rk_add (.of rfl) (.of rfl) (ini (by omega))) rfl ?_; refine a_s rfl rfl ?_; refine n_t ?_; rotate_left; refine s_t ?_; refine tr_seq ?_; rotate_right)
        · rw [← hse]
          apply tr_next (k + 1) ⟨(show k + 1 ≤ es.length from hlt), fun i hi => by
            by_cases e : i = k
            · rw [e]; exact hsb
            · exact hf i (by omega)⟩ (show es.length - (k + 1) < es.length - k by omega)
          case hs1 => exact .cons rfl (.cons rfl (.cons rfl (.cons rfl (.cons rfl .nil))))
          case ht => exact .cons .here (.cons .here (.cons .here .nil))
        · exact absurd hfl hcd
      have hsE := shK_set (by' := by') hlt hfl
      rw [shK_nth hlt] at hsE
      have hst := stm_set (es := shK es by' k) (cur := cur) ((nth es k).tm + by') hkl
      rw [shK_nth hlt, ← hsE] at hst
      have d3 : ((ensL (shK es by' (k + 1))).flatten ++ cur)[k * 6 + 3]? = some (.int .i64 ((nth es k).tm + by')) := ens_at (by rw [shK_len]; exact hlt) (by rw [shK_nth1 hlt, shx, if_neg hfl]; rfl)
      have hsl : k * 6 + 3 + 1 ≤ ((ensL (shK es by' k)).flatten ++ cur).length := by rw [List.length_append, hflat]; omega
      (refine tr_seq ?_; refine s_r ?_; refine m_v rfl rfl ?_; refine f_a rfl rfl norm0_ ?_; refine tr_val (rk_load1 (.of rfl) (At.lit (.there .here) rfl)) rfl ?_; refine tr_val (rk_len_slice (.of rfl)) rfl ?_; refine tr_val (rk_lss (.of rfl) (.of rfl)) rfl ?_; refine n_t ?_; refine c_d rfl (fun hcd => ?_) (fun _ => by omega); refine s_t ?_; refine tr_seq ?_; refine tr_block ?_; refine tr_seq ?_; refine s_r ?_; refine f_a rfl rfl norm0_ ?_; refine tr_val (rk_load1 (.of rfl) (At.lit (.there .here) rfl)) rfl ?_; refine m_v rfl rfl ?_; refine tr_val (rk_indexAddr (.of rfl) (.of rfl) rfl (by omega) hcd norm1_) rfl ?_; refine f_a rfl rfl norm0_ ?_; refine f_a rfl rfl norm0_ ?_; refine tr_val (rk_load1 (.of rfl) (At.blkL .here c2)) rfl ?_; refine tr_val (rk_eqls (.of rfl) (.of rfl)) rfl ?_; refine n_t ?_; refine c_d rfl (fun hcd => ?_) (fun hcd => ?_); refine x_t ?_; refine tr_blk_exit ?_; refine tr_then ?_; refine tr_region ?_; refine m_v rfl rfl ?_; refine tr_val (rk_add (.of rfl) (.of rfl) (ini (by omega))) rfl ?_; refine a_s rfl rfl ?_; refine n_t ?_; rotate_left; refine s_t ?_; refine tr_seq ?_; rotate_right)
      · exact absurd hcd hfl
      with_reducible refine tr_draw 15 (by kernel_rfl) ?_
      (refine a_f rfl rfl norm0_ ?_; refine any_val (rk_load1 (.of rfl) (At.lit (.there .here) rfl)) rfl ?_; refine a_m rfl rfl ?_; refine a_f rfl rfl norm0_ ?_; refine any_val (rk_load1 (.of rfl) (At.lit (.there .here) rfl)) rfl ?_; refine a_m rfl rfl ?_; refine any_val (rk_indexAddr (.of rfl) (.of rfl) rfl (by omega) (by assumption) norm1_) rfl ?_; refine a_f rfl rfl norm0_ ?_; refine a_f rfl rfl norm0_ ?_; refine any_val (rk_load1 (.of rfl) (At.blkL .here c3)) rfl ?_; refine a_m rfl rfl ?_; refine any_val (rk_add (.of rfl) (.of rfl) (ini (by omega))) rfl ?_; refine any_val (rk_indexAddr (.of rfl) (.of rfl) rfl (by omega) (by assumption) norm1_) rfl ?_; refine a_f rfl rfl norm0_ ?_; refine a_f rfl rfl norm0_ ?_)
      with_reducible refine any_end ?_
      (refine tr_store (.of rfl) (.of rfl) .here rfl rfl (okc_cons rfl okc_nil) hsl hst ?_; refine n_r ?_; refine f_a rfl rfl norm0_ ?_; refine tr_val (rk_load1 (.of rfl) (At.lit (.there .here) rfl)) rfl ?_; refine m_v rfl rfl ?_; refine tr_val (rk_indexAddr (.of rfl) (.of rfl) rfl (by omega) (by assumption) norm1_) rfl ?_; refine f_a rfl rfl norm0_ ?_; refine f_a rfl rfl norm0_ ?_; refine tr_val (rk_load1 (.of rfl) (At.blkL .here d3)) rfl ?_; refine tr_callV (rk_call (.of rfl) (.cons (.of rfl) .nil) inferInstance normc_) rfl (fun w' hm' => (frameQ_c _ w')) ?_; refine a_s rfl rfl ?_; refine n_r ?_; refine m_v rfl rfl ?_; refine tr_val (rk_neq (.of rfl) (.of rfl)) rfl ?_; refine n_t ?_; refine c_d rfl (fun hcd => ?_) (fun hcd => ?_); refine s_r ?_; refine tr_val (rk_buildL .nil norm_) rfl ?_; refine m_v rfl rfl ?_; refine tr_store (.of rfl) (.of rfl) (.there (.there .here)) rfl rfl (okc_cons rfl okc_nil) (lenb rfl) norm_ ?_; refine a_s rfl rfl ?_; refine n_t ?_; refine tr_ret ?_; refine tr_blk_ret ?_; refine tr_then_ret ?_; refine tr_then_ret ?_; refine tr_blk_ret ?_; refine tr_then_ret ?_; rotate_left; refine tr_skip ?_; refine tr_blk_normal ?_; refine tr_then ?_; refine tr_region ?_; refine m_v rfl rfl ?_; refine tr_val (rk_add (.of rfl) (.of rfl) (ini (by omega))) rfl ?_; refine a_s rfl rfl ?_; refine n_t ?_; rotate_right)
      · have h3 : sfQ es by' = withinF ((nth es k).tm + by') 0 10000000 := by
          have hr : ¬ (0 ≤ (nth es k).tm + by' ∧ (nth es k).tm + by' ≤ 10000000) := fun h => hcd (withinF_zero.2 h)
          have hbad : (decide ((nth es k).tm + by' < 0) || decide (10000000 < (nth es k).tm + by')) = true := by
            rw [Bool.or_eq_true, decide_eq_true_eq, decide_eq_true_eq]; omega
          rw [sfQ_bad hlt (by unfold shB; rw [decide_eq_false hfl, hbad]; rfl), withinF, hbad]; rfl
        rw [h3, if_neg hcd]
        refine tr_rowNil 115 6 ?_
        first | with_reducible apply tr_retM | with_reducible apply tr_endM
        case he => exact endsCT rfl inferInstance rfl (.there .here) norm_ (by rfl) (by rfl)
        case hR =>
          intro w' hm'
          exact gives_end (.slice none 0 0) trivial (show Takes _ [row 115 6 (.slice none 0 0) 0 []] _ by exact .cons .here .nil) hm' rfl
      have hz : withinF ((nth es k).tm + by') 0 10000000 = 0 := Decidable.not_not.1 hcd
      have hzi := withinF_zero.1 hz
      have hsb : shB es by' k = false := by
        unfold shB
        rw [decide_eq_false (p := (nth es k).tm + by' < 0) (by omega), decide_eq_false (p := 10000000 < (nth es k).tm + by') (by omega)]; simp
      clear hcd
      apply tr_next (k + 1) ⟨(show k + 1 ≤ es.length from hlt), fun i hi => by
        by_cases e : i = k
        · rw [e]; exact hsb
        · exact hf i (by omega)⟩ (show es.length - (k + 1) < es.length - k by omega)
      case hs1 => exact .cons rfl (.cons rfl (.cons rfl (.cons rfl (.cons rfl .nil))))
      case ht => exact .cons .here (.cons .here (.cons .here .nil))
    obtain rfl : k = es.length := by omega
    have hQ := sfQ_ok hf
    refine tr_rowShut (E := 115) (sz := 6) (g := g) (n := es.length) (cap := vc) (xs := (ensL (shK es by' es.length)).flatten) (cur := cur) (by exact .here) hk2 hx2 (by rw [List.length_append, ensL_flatlen, shK_len, ← ensL_flatlen, ← List.length_append]; exact hz2) (by rw [ensL_flatlen, shK_len]) ?_
    (refine tr_seq ?_; refine s_r ?_; refine m_v rfl rfl ?_; refine f_a rfl rfl norm0_ ?_; refine tr_val (rk_load1 (.of rfl) (At.lit (.there .here) rfl)) rfl ?_; refine tr_val (rk_len_slice (.of rfl)) rfl ?_; refine tr_val (rk_lss (.of rfl) (.of rfl)) rfl ?_; refine n_t ?_; refine c_d rfl (fun _ => by omega) (fun hcd => ?_); refine x_t ?_; refine tr_then_exit ?_; refine tr_blk_exit ?_; refine tr_then ?_; refine tr_seq ?_; refine s_r ?_; refine tr_val (rk_loadB (.of rfl) (.there .here) norm_ (by rfl)) rfl ?_)
    with_reducible apply tr_callV
    case hr => exact rk_call (.of rfl) (.cons (.of rfl) .nil) inferInstance normc_
    case hd => rfl
    case hc =>
      intro w' hm'
      exact chkQ_c (es := shK es by' es.length) (rdEnF (v := .slice (some ⟨g, 0, none⟩) es.length vc) hm' (by exact .here) (shK_len es by' es.length))
    rw [← hQ]
    by_cases hzz : sfQ es by' = 0
    · rw [if_pos hzz, hzz, shK_len]
      (refine a_s rfl rfl ?_; refine n_r ?_; refine m_v rfl rfl ?_; refine tr_val (rk_neq (.of rfl) (.of rfl)) rfl ?_; refine n_t ?_; refine c_d rfl (fun _ => by omega) (fun hcd => ?_); refine s_t ?_; refine s_r ?_; refine tr_val (rk_loadB (.of rfl) (.there .here) norm_ (by rfl)) rfl ?_; refine tr_store (.of rfl) (.of rfl) (.there (.there .here)) rfl rfl (okc_cons rfl okc_nil) (lenb rfl) norm_ ?_; refine a_s rfl rfl ?_; refine n_t ?_; refine tr_ret ?_)
      first | with_reducible apply tr_retM | with_reducible apply tr_endM
      case he => exact endsCT rfl inferInstance rfl .here norm_ (by rfl) (by rfl)
      case hR =>
        intro w' hm'
        exact gives_end (.slice (some ⟨g, 0, none⟩) es.length vc) trivial (show Takes _ [row 115 6 (.slice (some ⟨g, 0, none⟩) es.length vc) es.length (ensL (shK es by' es.length)).flatten] _ by exact .cons (.there .here) .nil) hm' rfl

    rw [if_neg hzz]
    (refine a_s rfl rfl ?_; refine n_r ?_; refine m_v rfl rfl ?_; refine tr_val (rk_neq (.of rfl) (.of rfl)) rfl ?_; refine n_t ?_; refine c_d rfl (fun hcd => ?_) (fun _ => by omega); refine s_r ?_; refine tr_val (rk_buildL .nil norm_) rfl ?_; refine m_v rfl rfl ?_; refine tr_store (.of rfl) (.of rfl) (.there (.there .here)) rfl rfl (okc_cons rfl okc_nil) (lenb rfl) norm_ ?_; refine a_s rfl rfl ?_; refine n_t ?_; refine r_t ?_)
    refine tr_rowNil 115 6 ?_
    first | with_reducible apply tr_retM | with_reducible apply tr_endM
    case he => exact endsCT rfl inferInstance rfl (.there .here) norm_ (by rfl) (by rfl)
    case hR =>
      intro w' hm'
      exact gives_end (.slice none 0 0) trivial (show Takes _ [row 115 6 (.slice none 0 0) 0 []] _ by exact .cons .here .nil) hm' rfl
  have e0 : es.length = 0 := by omega
  have hnil : es = [] := List.eq_nil_of_length_eq_zero e0
  have hQ := sfQ_ok (es := es) (by' := by') fun i hi => by omega
  have hsk : shK es by' es.length = es := by rw [hnil]; rfl
  rw [hsk] at hQ ⊢
  refine tr_for (ι := Unit) (fun _ => True) (fun _ => [(7, .int .i64 0), (6, .pointer (some ⟨b6, 0, none⟩)), (1, .int .i64 by'), (4, .pointer (some ⟨b4, 0, none⟩)), (5, .int .i64 0)]) (fun _ => [blk b6 (.cells #[.slice va es.length vc] 24), blk b4 (.cells #[.slice none 0 0] 24), row 115 6 (.slice va es.length vc) es.length (ensL es).flatten]) (fun _ => 0) ?_ ?_
  · apply tr_start () trivial
    case hs1 => exact .cons rfl (.cons rfl (.cons rfl (.cons rfl (.cons rfl .nil))))
    case ht => exact .cons .here (.cons (.there .here) (.cons .here .nil))
  rintro ⟨⟩ _
  (refine tr_seq ?_; refine s_r ?_; refine m_v rfl rfl ?_; refine f_a rfl rfl norm0_ ?_; refine tr_val (rk_load1 (.of rfl) (At.lit .here rfl)) rfl ?_; refine tr_val (rk_len_slice (.of rfl)) rfl ?_; refine tr_val (rk_lss (.of rfl) (.of rfl)) rfl ?_; refine n_t ?_; refine c_d rfl (fun _ => by omega) (fun hcd => ?_); refine x_t ?_; refine tr_then_exit ?_; refine tr_blk_exit ?_; refine tr_then ?_; refine tr_seq ?_; refine s_r ?_; refine tr_val (rk_loadB (.of rfl) .here norm_ (by rfl)) rfl ?_)
  with_reducible apply tr_callV
  case hr => exact rk_call (.of rfl) (.cons (.of rfl) .nil) inferInstance normc_
  case hd => rfl
  case hc =>
    intro w' hm'
    exact chkQ_c (es := es) (rdEnF (v := .slice va es.length vc) hm' (by exact Take.there (.there .here)) rfl)
  rw [← hQ]
  by_cases hzz : sfQ es by' = 0
  · rw [if_pos hzz, hzz]
    (refine a_s rfl rfl ?_; refine n_r ?_; refine m_v rfl rfl ?_; refine tr_val (rk_neq (.of rfl) (.of rfl)) rfl ?_; refine n_t ?_; refine c_d rfl (fun _ => by omega) (fun hcd => ?_); refine s_t ?_; refine s_r ?_; refine tr_val (rk_loadB (.of rfl) .here norm_ (by rfl)) rfl ?_; refine tr_store (.of rfl) (.of rfl) (.there .here) rfl rfl (okc_cons rfl okc_nil) (lenb rfl) norm_ ?_; refine a_s rfl rfl ?_; refine n_t ?_; refine tr_ret ?_)
    first | with_reducible apply tr_retM | with_reducible apply tr_endM
    case he => exact endsCT rfl inferInstance rfl .here norm_ (by rfl) (by rfl)
    case hR =>
      intro w' hm'
      exact gives_end (.slice va es.length vc) trivial (show Takes _ [row 115 6 (.slice va es.length vc) es.length (ensL (es)).flatten] _ by exact .cons (.there (.there .here)) .nil) hm' rfl

  rw [if_neg hzz]
  (refine a_s rfl rfl ?_; refine n_r ?_; refine m_v rfl rfl ?_; refine tr_val (rk_neq (.of rfl) (.of rfl)) rfl ?_; refine n_t ?_; refine c_d rfl (fun hcd => ?_) (fun _ => by omega); refine s_r ?_; refine tr_val (rk_buildL .nil norm_) rfl ?_; refine m_v rfl rfl ?_; refine tr_store (.of rfl) (.of rfl) (.there .here) rfl rfl (okc_cons rfl okc_nil) (lenb rfl) norm_ ?_; refine a_s rfl rfl ?_; refine n_t ?_; refine r_t ?_)
  refine tr_rowNil 115 6 ?_
  first | with_reducible apply tr_retM | with_reducible apply tr_endM
  case he => exact endsCT rfl inferInstance rfl (.there .here) norm_ (by rfl) (by rfl)
  case hR =>
    intro w' hm'
    exact gives_end (.slice none 0 0) trivial (show Takes _ [row 115 6 (.slice none 0 0) 0 []] _ by exact .cons .here .nil) hm' rfl
end Go.Proofs.A1

