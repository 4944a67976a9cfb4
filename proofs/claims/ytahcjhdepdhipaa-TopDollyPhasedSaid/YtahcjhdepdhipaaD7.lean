/- Part of the proof: D7. -/
import Derived.Test.YtahcjhdepdhipaaD4
import Derived.Test.YtahcjhdepdhipaaGkFin
set_option linter.unusedSectionVars false
set_option linter.unusedVariables false
set_option linter.unusedSimpArgs false
namespace Go.Proofs.A1
open Go Go.SL

theorem NetM.q {w : World} {nv ev : Value} {ns : List ByteArray} {es : List Ed} (h : NetM w nv ev ns es) (w' : World) (k : Keeps [] w w') : GivesV Try.prog 5 [.agg #[nv, ev]] w' (.int .i64 (netF ns es)) := checkNet_q nv ev ns es w' (h.n.keeps k) (h.e.keeps k)
theorem NetM.s {w : World} {nv ev : Value} {ns : List ByteArray} {es : List Ed} (h : NetM w nv ev ns es) (w' : World) (k : Keeps [] w w') : GivesV Try.prog 4 [.agg #[nv, ev]] w' (.bool (shortF ns es)) := short_q nv ev ns es w' (h.n.keeps k) (h.e.keeps k)
theorem inI_pow {k : Nat} (hk : k ≤ 3) : InI (((13 ^ k : Nat) : Int) * 13) := by
  obtain rfl | rfl | rfl | rfl : k = 0 ∨ k = 1 ∨ k = 2 ∨ k = 3 := by omega
  all_goals exact ⟨by decide, by decide⟩
/-- the rows of the least and the greatest times so far, if there are any -/
def ints1 (f : Nat → Int) (i : Nat) : List Value := [.int .i64 (f i)]
def accA (es : List Ed) (V c : Nat) (vl vm : Value) : Asn := exA (fun _ : Unit => True) (fun _ => match acc es c with | none => [] | some y => [row 3 1 vl V (tab V (ints1 y.1)), row 3 1 vm V (tab V (ints1 y.2))])
theorem dg_step {c i : Nat} (hi : 1 ≤ i) : dg c i = ((c / 13 ^ (i - 1) : Nat) : Int) % 13 := by
  unfold dg; rw [if_neg (by omega)]; exact Int.natCast_emod _ _
theorem div_step {c i : Nat} (hi : 1 ≤ i) : ((c / 13 ^ (i - 1) : Nat) : Int) / 13 = ((c / 13 ^ (i + 1 - 1) : Nat) : Int) := by
  rw [show (13 : Int) = ((13 : Nat) : Int) from rfl, ← Int.natCast_ediv, Nat.div_div_eq_div_mul, ← Nat.pow_succ]
  congr 3; omega
theorem all_take {es : List Ed} {t : Nat → Int} {k : Nat} (h : k < es.length) : (es.take (k + 1)).all (okE t) = ((es.take k).all (okE t) && okE t es[k]) := by
  rw [List.take_add_one, List.getElem?_eq_getElem h, List.all_append]; simp
def upto (c i j : Nat) : Int := if j < i then dg c j else 0
theorem upto_zero (V c : Nat) : (List.replicate V (Value.int .i64 0).cells.toList).flatten = tab V (ints1 (upto c 1)) :=
  (rep_tab V [.int .i64 0]).trans (tab_congr fun j _ => by
    simp only [ints1, upto]
    by_cases e : j < 1
    · obtain rfl : j = 0 := by omega
      rfl
    · rw [if_neg e])
theorem upto_set {V c i : Nat} (h : i < V) : setCells (tab V (ints1 (upto c i))) (i * 1) [Value.int .i64 (dg c i)] = tab V (ints1 (upto c (i + 1))) := by
  rw [tab_put (sz := 1) (fun _ _ => rfl) h rfl]
  apply tab_congr
  intro j hj
  simp only [ints1, upto]
  by_cases e : j = i
  · subst e; rw [if_pos rfl, if_pos (by omega)]
  · rw [if_neg e]
    by_cases e2 : j < i
    · rw [if_pos e2, if_pos (by omega)]
    · rw [if_neg e2, if_neg (by omega)]
theorem upto_all (V c : Nat) : tab V (ints1 (upto c V)) = tab V (ints1 (dg c)) := tab_congr fun j hj => by simp only [ints1, upto]; rw [if_pos hj]
def mixF (op : Int → Int → Int) (l0 d : Nat → Int) (i j : Nat) : Int := if j < i then op (l0 j) (d j) else l0 j
theorem mix_get {op : Int → Int → Int} {l0 d : Nat → Int} {V i : Nat} {cur : List Value} (h : i < V) : (tab V (ints1 (mixF op l0 d i)) ++ cur)[i * 1]? = some (.int .i64 (l0 i)) := by
  rw [List.getElem?_append_left (by rw [tab_length (sz := 1) (fun _ _ => rfl)]; omega)]
  have := tab_get (n := V) (sz := 1) (f := ints1 (mixF op l0 d i)) (i := i) (j := 0) (fun _ _ => rfl) h (by omega)
  rw [Nat.add_zero] at this
  rw [this]
  simp [ints1, mixF]
theorem mix_set {op : Int → Int → Int} {l0 d : Nat → Int} {V i : Nat} {cur : List Value} (h : i < V) : setCells (tab V (ints1 (mixF op l0 d i)) ++ cur) (i * 1) [.int .i64 (op (l0 i) (d i))] = tab V (ints1 (mixF op l0 d (i + 1))) ++ cur := by
  rw [setCells_app (by rw [tab_length (sz := 1) (fun _ _ => rfl)]; simp; omega), tab_put (sz := 1) (fun _ _ => rfl) h rfl]
  congr 1
  apply tab_congr
  intro j hj
  simp only [ints1, mixF]
  by_cases e : j = i
  · subst e; rw [if_pos rfl, if_pos (by omega)]
  · rw [if_neg e]
    by_cases e2 : j < i
    · rw [if_pos e2, if_pos (by omega)]
    · rw [if_neg e2, if_neg (by omega)]
theorem mix_len {op : Int → Int → Int} {l0 d : Nat → Int} {V i : Nat} {cur : List Value} (h : i < V) : i * 1 + 1 ≤ (tab V (ints1 (mixF op l0 d i)) ++ cur).length := by
  rw [List.length_append, tab_length (sz := 1) (fun _ _ => rfl)]; omega
theorem mix_all (op : Int → Int → Int) (l0 d : Nat → Int) (V : Nat) : tab V (ints1 (mixF op l0 d V)) = tab V (ints1 fun j => op (l0 j) (d j)) := tab_congr fun j hj => by simp only [ints1, mixF]; rw [if_pos hj]
theorem mix_zero (op : Int → Int → Int) (l0 d : Nat → Int) (V : Nat) : tab V (ints1 (mixF op l0 d 0)) = tab V (ints1 l0) := tab_congr fun j hj => by simp only [ints1, mixF]; rw [if_neg (by omega)]
theorem netM_rows {c : Cx} {hs hs1 hs2 : List Asn} {w' : World} {vn ve : Value} {ns : List ByteArray} {es : List Ed} (hm : Mem c hs w') (t1 : Take hs (row 9 1 vn ns.length (ns.map .string)) hs1) (t2 : Take hs (row 52 4 ve es.length (edgesL es).flatten) hs2) : NetM w' vn ve ns es :=
  ⟨by have := Mem.rdRow1 hm t1 (by simp); rw [List.map_map] at this; exact this, Mem.rdRow hm t2 rfl (fun r hr => by obtain ⟨e, _, rfl⟩ := List.mem_map.1 hr; rfl) (by simp [edgesL])⟩
set_option maxRecDepth 100000 in
set_option maxHeartbeats 16000000 in
theorem law_c {nv ev : Value} {ns : List ByteArray} {es : List Ed} {w : World} (h : NetM w nv ev ns es) : GivesV Try.prog 3 [.agg #[nv, ev]] w (.bool true) := by
  have hh := h
  obtain ⟨⟨a, cap, b, o, rfl, hcap, hmax, ha, hc⟩, ⟨a2, cap2, b2, o2, rfl, hcap2, hmax2, ha2, hc2⟩⟩ := hh
  rw [strs_length] at *
  rw [edgesL_length] at *
  unfold maxLen at hmax hmax2
  refine givesV_of_tr Try.func3 rfl rfl ?_
  (refine tr_seq ?_; refine tr_region ?_; refine tr_new (rk_box (Is.of rfl) rfl) rfl (fun _ _ => ?_); refine tr_val (rk_assign (Is.of rfl)) rfl ?_; refine tr_nil ?_; refine tr_then ?_; refine tr_seq ?_; refine tr_seq ?_; refine tr_region ?_; refine tr_val (rk_loadB (Is.of rfl) Take.here norm_ (by rfl)) rfl ?_; refine tr_callV (rk_call (Is.of rfl) (Iss.cons (Is.of rfl) Iss.nil) inferInstance normc_) rfl (fun w' hm' => (NetM.s h w' (Mem.keeps hm'))) ?_; refine tr_val (rk_not (Is.of rfl)) rfl ?_; refine tr_val (rk_move (Is.of rfl)) rfl ?_; refine tr_vG1 rfl rfl inferInstance (fun hg hgp => (rk_loadB (Is.of rfl) Take.here norm_ (by rfl))) rfl ?_; refine tr_callVG1 rfl rfl (fun hg => (rk_call (Is.of rfl) (Iss.cons (Is.ofg hg rfl) Iss.nil) inferInstance normc_)) rfl (fun hg w' hm' => (NetM.q h w' (Mem.keeps hm'))) ?_; refine tr_vG1 rfl rfl inferInstance (fun hg hgp => (rk_neq (Is.ofg hg rfl) (Is.of rfl))) rfl ?_; refine tr_val (rk_pick_or (Is.of rfl) rfl) rfl ?_; refine tr_val (rk_move (Is.of rfl)) rfl ?_; refine tr_vG1 rfl rfl inferInstance (fun hg hgp => (rk_fieldAddr (Is.of rfl) norm0_)) rfl ?_; refine tr_vG1 rfl rfl inferInstance (fun hg hgp => (rk_load1 (Is.ofg hg rfl) (At.lit Take.here rfl))) rfl ?_; refine tr_vG1 rfl rfl inferInstance (fun hg hgp => (rk_len_slice (Is.ofg hg rfl))) rfl ?_; refine tr_vG1 rfl rfl inferInstance (fun hg hgp => (rk_gtr (Is.ofg hg rfl) (Is.of rfl))) rfl ?_; refine tr_val (rk_pick_or (Is.of rfl) rfl) rfl ?_; refine tr_val (rk_move (Is.of rfl)) rfl ?_; refine tr_vG1 rfl rfl inferInstance (fun hg hgp => (rk_fieldAddr (Is.of rfl) norm0_)) rfl ?_; refine tr_vG1 rfl rfl inferInstance (fun hg hgp => (rk_load1 (Is.ofg hg rfl) (At.lit Take.here rfl))) rfl ?_; refine tr_vG1 rfl rfl inferInstance (fun hg hgp => (rk_len_slice (Is.ofg hg rfl))) rfl ?_; refine tr_vG1 rfl rfl inferInstance (fun hg hgp => (rk_gtr (Is.ofg hg rfl) (Is.of rfl))) rfl ?_; refine tr_val (rk_pick_or (Is.of rfl) rfl) rfl ?_; refine tr_nil ?_; refine tr_then ?_; refine tr_condB (Is.of rfl) inferInstance (fun hcd => ?_) (fun hcd => ?_); refine tr_seq ?_; refine tr_region ?_; refine tr_callV (rk_call (Is.of rfl) Iss.nil inferInstance normc_) rfl (fun w' hm' => (phase_c w')) ?_; refine tr_val (rk_assign (Is.of rfl)) rfl ?_; refine tr_nil ?_; refine tr_then ?_; refine tr_ret ?_; refine tr_then_ret ?_; refine tr_retE rfl (ends1 rfl rfl) ?_; rotate_left; refine tr_skip ?_; refine tr_then ?_; refine tr_seq ?_; refine tr_seq ?_; refine tr_region ?_; refine tr_val (rk_fieldAddr (Is.of rfl) norm0_) rfl ?_; refine tr_val (rk_load1 (Is.of rfl) (At.lit Take.here rfl)) rfl ?_; refine tr_val (rk_len_slice (Is.of rfl)) rfl ?_; refine tr_val (rk_move (Is.of rfl)) rfl ?_; refine tr_nil ?_; refine tr_then ?_; refine tr_block ?_; rotate_right)
  · rfl
  rename_i b1 hb1
  obtain ⟨⟨⟨_, hnet⟩, hV4⟩, hE6⟩ := hcd
  have h0 : netF ns es = 0 := Decidable.not_not.1 hnet
  generalize hV : ns.length = V at *
  refine tr_for (fun k : Nat => k ≤ es.length ∧ ∀ e ∈ es.take k, e.hi ≤ 4) (fun k => [(50, .int .i64 k), (49, .int .i64 es.length), (48, .slice a2 es.length cap2), (1, .pointer (some ⟨b1, 0, none⟩))]) (fun _ => [blk b1 (.cells #[.slice a V cap, .slice a2 es.length cap2] 25 (0, 0))]) (fun k => es.length - k) ?_ ?_
  · apply tr_start 0 ⟨by omega, by simp⟩
    case hs1 => exact Subs.cons rfl (Subs.cons rfl (Subs.cons rfl (Subs.cons rfl Subs.nil)))
    case ht => exact Takes.cons Take.here Takes.nil
  intro k ⟨hk, hk4⟩
  by_cases hlt : k < es.length
  · have ha' := ha2 (edgesL_ne hlt)
    have hcell : ∀ (j : Nat) (u : Value), [Value.int .i64 es[k].f, .int .i64 es[k].t, .int .i64 es[k].lo, .int .i64 es[k].hi][j]? = some u → w.cell? ⟨b2, o2 + k * 4 + j, none⟩ = some u := (hc2 k _ (edgesL_get hlt)).2
    (refine tr_seq ?_; refine tr_region ?_; refine tr_val (rk_lss (Is.of rfl) (Is.of rfl)) rfl ?_; refine tr_nil ?_; refine tr_then ?_; refine tr_seq ?_; refine tr_cond_d (Is.of rfl) (fun hcd => ?_) (fun hcd => (by omega)); refine tr_skip ?_; refine tr_then ?_; refine tr_seq ?_; refine tr_block ?_; refine tr_seq ?_; refine tr_region ?_; refine tr_val (rk_indexAddr (Is.of rfl) (Is.of rfl) ha' (by omega) hcd norm1_) rfl ?_; refine tr_val (rk_loadN (Is.of rfl) (Ats.base hcell rfl) rfl) rfl ?_; refine tr_new (rk_alloc rfl) rfl (fun _ _ => ?_); refine tr_store (Is.of rfl) (Is.of rfl) Take.here rfl rfl (okc_cons rfl (okc_cons rfl (okc_cons rfl (okc_cons rfl okc_nil)))) (lenb rfl) norm_ ?_; refine tr_nil ?_; refine tr_then ?_; refine tr_seq ?_; refine tr_region ?_; refine tr_val (rk_fieldAddr (Is.of rfl) norm0_) rfl ?_; refine tr_val (rk_load1 (Is.of rfl) (At.lit Take.here rfl)) rfl ?_; refine tr_val (rk_gtr (Is.of rfl) (Is.of rfl)) rfl ?_; refine tr_nil ?_; refine tr_then ?_; refine tr_cond_d (Is.of rfl) (fun hcd => ?_) (fun hcd => ?_); refine tr_seq ?_; refine tr_region ?_; refine tr_callV (rk_call (Is.of rfl) Iss.nil inferInstance normc_) rfl (fun w' hm' => (phase_c w')) ?_; refine tr_val (rk_assign (Is.of rfl)) rfl ?_; refine tr_nil ?_; refine tr_then ?_; refine tr_ret ?_; refine tr_blk_ret ?_; refine tr_then_ret ?_; refine tr_then_ret ?_; refine tr_blk_ret ?_; refine tr_then_ret ?_; refine tr_retE rfl (ends1 rfl rfl) ?_; rotate_left; refine tr_skip ?_; refine tr_blk_normal ?_; refine tr_then ?_; refine tr_region ?_; refine tr_val (rk_add (Is.of rfl) (Is.of rfl) (ini (by omega))) rfl ?_; refine tr_val (rk_move (Is.of rfl)) rfl ?_; refine tr_nil ?_; refine tr_then ?_; rotate_right)
    · rfl
    · apply tr_next (k + 1) ⟨by omega, fun e he => by
        rw [List.take_add_one, List.getElem?_eq_getElem hlt] at he
        rcases List.mem_append.1 he with he | he
        · exact hk4 e he
        · simp only [Option.toList, List.mem_singleton] at he; subst he; omega⟩ (by omega)
      case hs1 => exact Subs.cons rfl (Subs.cons rfl (Subs.cons rfl (Subs.cons rfl Subs.nil)))
      case ht => exact Takes.cons (Take.there Take.here) Takes.nil
  obtain rfl : k = es.length := by omega
  rw [List.take_of_length_le (Nat.le_refl _)] at hk4
  have g := good_of_net h0 hV (by omega) hk4
  have g1 := g.pos
  have g2 := g.most
  (refine tr_seq ?_; refine tr_region ?_; refine tr_val (rk_lss (Is.of rfl) (Is.of rfl)) rfl ?_; refine tr_nil ?_; refine tr_then ?_; refine tr_seq ?_; refine tr_cond_d (Is.of rfl) (fun hcd => (by omega)) (fun hcd => ?_); refine tr_exit ?_; refine tr_then_exit ?_; refine tr_then_exit ?_; refine tr_blk_exit ?_; refine tr_then ?_; refine tr_seq ?_; refine tr_region ?_; refine tr_val (rk_assign (Is.of rfl)) rfl ?_; refine tr_nil ?_; refine tr_then ?_; refine tr_seq ?_; refine tr_seq ?_; refine tr_region ?_; refine tr_val (rk_fieldAddr (Is.of rfl) norm0_) rfl ?_; refine tr_val (rk_load1 (Is.of rfl) (At.lit Take.here rfl)) rfl ?_; refine tr_val (rk_len_slice (Is.of rfl)) rfl ?_; refine tr_val (rk_sub (Is.of rfl) (Is.of rfl) (ini (by omega))) rfl ?_; refine tr_val (rk_move (Is.of rfl)) rfl ?_; refine tr_nil ?_; refine tr_then ?_; refine tr_block ?_)
  have hpow : ∀ k, k ≤ 3 → ((13 ^ k : Nat) : Int) * 13 = ((13 ^ (k + 1) : Nat) : Int) ∧ 13 ^ k ≤ 2197 := fun k hk => by
    obtain rfl | rfl | rfl | rfl : k = 0 ∨ k = 1 ∨ k = 2 ∨ k = 3 := by omega
    all_goals exact ⟨rfl, by decide⟩
  refine tr_for (fun k : Nat => k ≤ V - 1) (fun k => [(63, .int .i64 k), (62, .int .i64 ((V : Int) - 1)), (5, .int .i64 ((13 ^ k : Nat) : Int)), (1, .pointer (some ⟨b1, 0, none⟩))]) (fun _ => [blk b1 (.cells #[.slice a V cap, .slice a2 es.length cap2] 25 (0, 0))]) (fun k => V - 1 - k) ?_ ?_
  · apply tr_start 0 (by omega)
    case hs1 => exact Subs.cons rfl (Subs.cons rfl (Subs.cons rfl (Subs.cons rfl Subs.nil)))
    case ht => exact Takes.cons Take.here Takes.nil
  intro k hk
  by_cases hlt : k < V - 1
  · obtain ⟨hp1, hp2⟩ := hpow k (by omega)
    have hmul := inI_pow (k := k) (by omega)
    (refine tr_seq ?_; refine tr_region ?_; refine tr_val (rk_lss (Is.of rfl) (Is.of rfl)) rfl ?_; refine tr_nil ?_; refine tr_then ?_; refine tr_seq ?_; refine tr_cond_d (Is.of rfl) (fun hcd => ?_) (fun hcd => (by omega)); refine tr_skip ?_; refine tr_then ?_; refine tr_seq ?_; refine tr_block ?_; refine tr_region ?_; refine tr_val (rk_move (Is.of rfl)) rfl ?_; refine tr_val (rk_mul (Is.of rfl) (Is.of rfl) hmul) rfl ?_; refine tr_val (rk_assign (Is.of rfl)) rfl ?_; refine tr_nil ?_; refine tr_blk_normal ?_; refine tr_then ?_; refine tr_region ?_; refine tr_val (rk_add (Is.of rfl) (Is.of rfl) (ini (by omega))) rfl ?_; refine tr_val (rk_move (Is.of rfl)) rfl ?_; refine tr_nil ?_; refine tr_then ?_)
    rw [hp1]
    apply tr_next (k + 1) (by omega) (by omega)
    case hs1 => exact Subs.cons rfl (Subs.cons rfl (Subs.cons rfl (Subs.cons rfl Subs.nil)))
    case ht => exact Takes.cons Take.here Takes.nil
  obtain rfl : k = V - 1 := by omega
  generalize hN : 13 ^ (V - 1) = N
  have hN1 : N ≤ 2197 := by rw [← hN]; exact (hpow (V - 1) (by omega)).2
  (refine tr_seq ?_; refine tr_region ?_; refine tr_val (rk_lss (Is.of rfl) (Is.of rfl)) rfl ?_; refine tr_nil ?_; refine tr_then ?_; refine tr_seq ?_; refine tr_cond_d (Is.of rfl) (fun hcd => (by omega)) (fun hcd => ?_); refine tr_exit ?_; refine tr_then_exit ?_; refine tr_then_exit ?_; refine tr_blk_exit ?_; refine tr_then ?_; refine tr_seq ?_; refine tr_region ?_; refine tr_val (rk_assign (Is.of rfl)) rfl ?_; refine tr_val (rk_assign (Is.of rfl)) rfl ?_; refine tr_nil ?_; refine tr_then ?_; refine tr_seq ?_; refine tr_seq ?_; refine tr_region ?_; refine tr_val (rk_move (Is.of rfl)) rfl ?_; refine tr_val (rk_move (Is.of rfl)) rfl ?_; refine tr_nil ?_; refine tr_then ?_; refine tr_block ?_)
  refine tr_shutEx (Φ := fun _ : Unit => True) (A := fun _ => match acc es 0 with | none => [] | some y => [row 3 1 (.slice none 0 0) V (tab V (ints1 y.1)), row 3 1 (.slice none 0 0) V (tab V (ints1 y.2))]) () trivial (show Takes _ [] _ from Takes.nil) ?_
  refine tr_for (ι := Nat × Value × Value) (fun x => x.1 ≤ N ∧ (acc es x.1 = none → x.2 = (.slice none 0 0, .slice none 0 0))) (fun x => [(69, .int .i64 x.1), (68, .int .i64 N), (6, x.2.1), (7, x.2.2), (1, .pointer (some ⟨b1, 0, none⟩))])
    (fun x => [accA es V x.1 x.2.1 x.2.2, blk b1 (.cells #[.slice a V cap, .slice a2 es.length cap2] 25 (0, 0))]) (fun x => N - x.1) ?_ ?_
  · apply tr_start (0, .slice none 0 0, .slice none 0 0) ⟨Nat.zero_le _, fun _ => rfl⟩
    case hs1 => exact Subs.cons rfl (Subs.cons rfl (Subs.cons rfl (Subs.cons rfl (Subs.cons rfl Subs.nil))))
    case ht => exact Takes.cons .here (Takes.cons .here .nil)
  rintro ⟨c, vl, vm⟩ ⟨hcN, hnil⟩
  dsimp only at hcN hnil ⊢
  by_cases hlc : c < N
  · (refine tr_seq ?_; refine tr_region ?_; refine tr_val (rk_lss (Is.of rfl) (Is.of rfl)) rfl ?_; refine tr_nil ?_; refine tr_then ?_; refine tr_seq ?_; refine tr_cond_d (Is.of rfl) (fun hcd => ?_) (fun hcd => (by omega)); refine tr_skip ?_; refine tr_then ?_; refine tr_seq ?_; refine tr_block ?_; refine tr_seq ?_; refine tr_region ?_; refine tr_val (rk_move (Is.of rfl)) rfl ?_; refine tr_val (rk_assign (Is.of rfl)) rfl ?_; refine tr_nil ?_; refine tr_then ?_; refine tr_seq ?_; refine tr_region ?_; refine tr_val (rk_fieldAddr (Is.of rfl) norm0_) rfl ?_; refine tr_val (rk_load1 (Is.of rfl) (At.lit (Take.there Take.here) rfl)) rfl ?_; refine tr_val (rk_len_slice (Is.of rfl)) rfl ?_)
    with_reducible apply tr_new
    case hr =>
      with_reducible apply rk_make
      case hx => exact Is.of rfl
      case hy => exact Is.of rfl
      case hl => omega
      case hb => omega
      case hz => rfl
      case hsz => rfl
      case h63 => omega
    case hd => rfl
    intro bt hbt
    rw [upto_zero V c]
    (refine tr_val (rk_assign (Is.of rfl)) rfl ?_; refine tr_nil ?_; refine tr_then ?_; refine tr_seq ?_; refine tr_region ?_; refine tr_val (rk_move (Is.of rfl)) rfl ?_; refine tr_val (rk_assign (Is.of rfl)) rfl ?_; refine tr_nil ?_; refine tr_then ?_; refine tr_seq ?_; refine tr_seq ?_; refine tr_region ?_; refine tr_val (rk_assign (Is.of rfl)) rfl ?_; refine tr_nil ?_; refine tr_then ?_; refine tr_block ?_)
    refine tr_for (fun i : Nat => 1 ≤ i ∧ i ≤ V) (fun i => [(10, .int .i64 ((c / 13 ^ (i - 1) : Nat) : Int)), (11, .int .i64 i), (9, .slice (some ⟨bt, 0, none⟩) V V), (69, .int .i64 c), (68, .int .i64 N), (6, vl), (7, vm), (1, .pointer (some ⟨b1, 0, none⟩))])
      (fun i => [blk bt (.cells (tab V (ints1 (upto c i))).toArray 3 (0, 0)), accA es V c vl vm, blk b1 (.cells #[.slice a V cap, .slice a2 es.length cap2] 25 (0, 0))]) (fun i => V - i) ?_ ?_
    · apply tr_start 1 ⟨by omega, by omega⟩
      case hs1 =>
        rw [show c / 13 ^ (1 - 1) = c by simp]
        exact Subs.cons rfl (Subs.cons rfl (Subs.cons rfl (Subs.cons rfl (Subs.cons rfl (Subs.cons rfl (Subs.cons rfl (Subs.cons rfl Subs.nil)))))))
      case ht => exact Takes.cons Take.here (Takes.cons Take.here (Takes.cons Take.here Takes.nil))
    intro i ⟨hi1, hiV⟩
    by_cases hli : i < V
    · have hset := upto_set (c := c) hli
      rw [dg_step hi1] at hset
      have hsl : i * 1 + 1 ≤ (tab V (ints1 (upto c i))).length := by rw [tab_length (sz := 1) (fun _ _ => rfl)]; omega
      have hdiv := div_step (c := c) hi1
      have hle : c / 13 ^ (i - 1) ≤ c := Nat.div_le_self _ _
      generalize hr : c / 13 ^ (i - 1) = r at *
      (refine tr_seq ?_; refine tr_seq ?_; refine tr_region ?_; refine tr_val (rk_move (Is.of rfl)) rfl ?_; refine tr_val (rk_move (Is.of rfl)) rfl ?_; refine tr_val (rk_len_slice (Is.of rfl)) rfl ?_; refine tr_val (rk_lss (Is.of rfl) (Is.of rfl)) rfl ?_; refine tr_nil ?_; refine tr_then ?_; refine tr_cond_d (Is.of rfl) (fun hcd => ?_) (fun hcd => (by omega)); refine tr_skip ?_; refine tr_then ?_; refine tr_seq ?_; refine tr_block ?_; refine tr_seq ?_; refine tr_region ?_; refine tr_val (rk_move (Is.of rfl)) rfl ?_; refine tr_val (rk_move (Is.of rfl)) rfl ?_; refine tr_val (rk_move (Is.of rfl)) rfl ?_; refine tr_val (rk_rem (Is.of rfl) (Is.of rfl) (by omega) (by omega)) rfl ?_; refine tr_val (rk_indexAddr (Is.of rfl) (Is.of rfl) rfl (by omega) hcd norm1_) rfl ?_; refine tr_store (Is.of rfl) (Is.of rfl) Take.here rfl rfl (okc_cons rfl okc_nil) hsl hset ?_; refine tr_nil ?_; refine tr_then ?_; refine tr_region ?_; refine tr_val (rk_move (Is.of rfl)) rfl ?_; refine tr_val (rk_quo (Is.of rfl) (Is.of rfl) (by omega) (by omega) (by omega)) rfl ?_; refine tr_val (rk_assign (Is.of rfl)) rfl ?_; refine tr_nil ?_; refine tr_blk_normal ?_; refine tr_then ?_; refine tr_region ?_; refine tr_val (rk_move (Is.of rfl)) rfl ?_; refine tr_val (rk_add (Is.of rfl) (Is.of rfl) (ini (by omega))) rfl ?_; refine tr_val (rk_assign (Is.of rfl)) rfl ?_; refine tr_nil ?_; refine tr_then ?_)
      rw [hdiv]
      apply tr_next (i + 1) ⟨by omega, by omega⟩ (by omega)
      case hs1 => exact Subs.cons rfl (Subs.cons rfl (Subs.cons rfl (Subs.cons rfl (Subs.cons rfl (Subs.cons rfl (Subs.cons rfl (Subs.cons rfl Subs.nil)))))))
      case ht => exact Takes.cons Take.here (Takes.cons Take.here (Takes.cons Take.here Takes.nil))
    obtain rfl : V = i := by omega
    rw [upto_all]
    (refine tr_seq ?_; refine tr_seq ?_; refine tr_region ?_; refine tr_val (rk_move (Is.of rfl)) rfl ?_; refine tr_val (rk_move (Is.of rfl)) rfl ?_; refine tr_val (rk_len_slice (Is.of rfl)) rfl ?_; refine tr_val (rk_lss (Is.of rfl) (Is.of rfl)) rfl ?_; refine tr_nil ?_; refine tr_then ?_; refine tr_cond_d (Is.of rfl) (fun hcd => (by omega)) (fun hcd => ?_); refine tr_exit ?_; refine tr_then_exit ?_; refine tr_then_exit ?_; refine tr_blk_exit ?_; refine tr_then ?_; refine tr_seq ?_; refine tr_region ?_; refine tr_val (rk_assign (Is.of rfl)) rfl ?_; refine tr_nil ?_; refine tr_then ?_; refine tr_seq ?_; refine tr_seq ?_; refine tr_region ?_; refine tr_val (rk_fieldAddr (Is.of rfl) norm0_) rfl ?_; refine tr_val (rk_load1 (Is.of rfl) (At.lit (Take.there (Take.there Take.here)) rfl)) rfl ?_; refine tr_val (rk_len_slice (Is.of rfl)) rfl ?_; refine tr_val (rk_move (Is.of rfl)) rfl ?_; refine tr_nil ?_; refine tr_then ?_; refine tr_block ?_)
    refine tr_for (fun k : Nat => k ≤ es.length) (fun k => [(93, .int .i64 k), (92, .int .i64 es.length), (91, .slice a2 es.length cap2), (12, .bool ((es.take k).all (okE (dg c)))), (9, .slice (some ⟨bt, 0, none⟩) V V), (69, .int .i64 c), (68, .int .i64 N), (6, vl), (7, vm), (1, .pointer (some ⟨b1, 0, none⟩))])
      (fun _ => [blk bt (.cells (tab V (ints1 (dg c))).toArray 3 (0, 0)), accA es V c vl vm, blk b1 (.cells #[.slice a V cap, .slice a2 es.length cap2] 25 (0, 0))]) (fun k => es.length - k) ?_ ?_
    · apply tr_start 0 (by omega)
      case hs1 => exact Subs.cons rfl (Subs.cons rfl (Subs.cons rfl (Subs.cons rfl (Subs.cons rfl (Subs.cons rfl (Subs.cons rfl (Subs.cons rfl (Subs.cons rfl (Subs.cons rfl Subs.nil)))))))))
      case ht => exact Takes.cons Take.here (Takes.cons Take.here (Takes.cons Take.here Takes.nil))
    intro k hk'
    by_cases hle : k < es.length
    · have ha' := ha2 (edgesL_ne hle)
      have hcell : ∀ (j : Nat) (u : Value), [Value.int .i64 es[k].f, .int .i64 es[k].t, .int .i64 es[k].lo, .int .i64 es[k].hi][j]? = some u → w.cell? ⟨b2, o2 + k * 4 + j, none⟩ = some u := (hc2 k _ (edgesL_get hle)).2
      obtain ⟨q1, q2, q3, q4, q5, q6, q7, q8⟩ := g.ed _ (List.getElem_mem hle)
      have hat := all_take (t := dg c) hle
      have hct : (tab V (ints1 (dg c)))[es[k].t.toNat * 1]? = some (.int .i64 (dg c es[k].t.toNat)) := by
        have := tab_get (n := V) (f := ints1 (dg c)) (i := es[k].t.toNat) (sz := 1) (j := 0) (fun _ _ => rfl) (by omega) (by omega)
        simpa [ints1] using this
      have hcf : (tab V (ints1 (dg c)))[es[k].f.toNat * 1]? = some (.int .i64 (dg c es[k].f.toNat)) := by
        have := tab_get (n := V) (f := ints1 (dg c)) (i := es[k].f.toNat) (sz := 1) (j := 0) (fun _ _ => rfl) (by omega) (by omega)
        simpa [ints1] using this
      have d1 := dg_bd c es[k].t.toNat
      have d2 := dg_bd c es[k].f.toNat
      (refine tr_seq ?_; refine tr_region ?_; refine tr_val (rk_lss (Is.of rfl) (Is.of rfl)) rfl ?_; refine tr_nil ?_; refine tr_then ?_; refine tr_seq ?_; refine tr_cond_d (Is.of rfl) (fun hcd => ?_) (fun hcd => (by omega)); refine tr_skip ?_; refine tr_then ?_; refine tr_seq ?_; refine tr_block ?_; refine tr_seq ?_; refine tr_region ?_; refine tr_val (rk_indexAddr (Is.of rfl) (Is.of rfl) ha' (by omega) hcd norm1_) rfl ?_; refine tr_val (rk_loadN (Is.of rfl) (Ats.base hcell rfl) rfl) rfl ?_; refine tr_new (rk_alloc rfl) rfl (fun _ _ => ?_); refine tr_store (Is.of rfl) (Is.of rfl) Take.here rfl rfl (okc_cons rfl (okc_cons rfl (okc_cons rfl (okc_cons rfl okc_nil)))) (lenb rfl) norm_ ?_; refine tr_nil ?_; refine tr_then ?_; refine tr_seq ?_)
      with_reducible refine tr_draw 11 (by kernel_rfl) ?_
      (refine any_val (rk_move (Is.of rfl)) rfl ?_; refine any_val (rk_fieldAddr (Is.of rfl) norm0_) rfl ?_; refine any_val (rk_load1 (Is.of rfl) (At.lit Take.here rfl)) rfl ?_; refine any_val (rk_indexAddr (Is.of rfl) (Is.of rfl) rfl q3 q4 norm1_) rfl ?_; refine any_val (rk_load1 (Is.of rfl) (At.blkL (Take.there Take.here) hct)) rfl ?_; refine any_val (rk_move (Is.of rfl)) rfl ?_; refine any_val (rk_fieldAddr (Is.of rfl) norm0_) rfl ?_; refine any_val (rk_load1 (Is.of rfl) (At.lit Take.here rfl)) rfl ?_; refine any_val (rk_indexAddr (Is.of rfl) (Is.of rfl) rfl q1 q2 norm1_) rfl ?_; refine any_val (rk_load1 (Is.of rfl) (At.blkL (Take.there Take.here) hcf)) rfl ?_; refine any_val (rk_sub (Is.of rfl) (Is.of rfl) (ini (by omega))) rfl ?_)
      with_reducible refine any_end ?_
      (refine tr_val (rk_assign (Is.of rfl)) rfl ?_; refine tr_nil ?_; refine tr_then ?_; refine tr_region ?_; refine tr_val (rk_move (Is.of rfl)) rfl ?_; refine tr_val (rk_move (Is.of rfl)) rfl ?_; refine tr_vG1 rfl rfl inferInstance (fun hg hgp => (rk_move (Is.of rfl))) rfl ?_; refine tr_vG1 rfl rfl inferInstance (fun hg hgp => (rk_fieldAddr (Is.of rfl) norm0_)) rfl ?_; refine tr_vG1 rfl rfl inferInstance (fun hg hgp => (rk_load1 (Is.ofg hg rfl) (At.lit Take.here rfl))) rfl ?_; refine tr_vG1 rfl rfl inferInstance (fun hg hgp => (rk_geq (Is.ofg hg rfl) (Is.ofg hg rfl))) rfl ?_; refine tr_val (rk_pick_and (Is.of rfl) rfl) rfl ?_; refine tr_val (rk_move (Is.of rfl)) rfl ?_; refine tr_vG1 rfl rfl inferInstance (fun hg hgp => (rk_move (Is.of rfl))) rfl ?_; refine tr_vG1 rfl rfl inferInstance (fun hg hgp => (rk_fieldAddr (Is.of rfl) norm0_)) rfl ?_; refine tr_vG1 rfl rfl inferInstance (fun hg hgp => (rk_load1 (Is.ofg hg rfl) (At.lit Take.here rfl))) rfl ?_; refine tr_vG1 rfl rfl inferInstance (fun hg hgp => (rk_leq (Is.ofg hg rfl) (Is.ofg hg rfl))) rfl ?_; refine tr_val (rk_pick_and (Is.of rfl) rfl) rfl ?_; refine tr_val (rk_assign (Is.of rfl)) rfl ?_; refine tr_nil ?_; refine tr_blk_normal ?_; refine tr_then ?_; refine tr_region ?_; refine tr_val (rk_add (Is.of rfl) (Is.of rfl) (ini (by omega))) rfl ?_; refine tr_val (rk_move (Is.of rfl)) rfl ?_; refine tr_nil ?_; refine tr_then ?_)
      have hat' : (es.take (k + 1)).all (okE (dg c)) = ((es.take k).all (okE (dg c)) && decide (es[k].lo ≤ dg c es[k].t.toNat - dg c es[k].f.toNat) && decide (dg c es[k].t.toNat - dg c es[k].f.toNat ≤ es[k].hi)) := by rw [hat, okE, Bool.and_assoc]
      rw [← hat']
      apply tr_next (k + 1) (by omega) (by omega)
      case hs1 => exact Subs.cons rfl (Subs.cons rfl (Subs.cons rfl (Subs.cons rfl (Subs.cons rfl (Subs.cons rfl (Subs.cons rfl (Subs.cons rfl (Subs.cons rfl (Subs.cons rfl Subs.nil)))))))))
      case ht => exact Takes.cons (Take.there Take.here) (Takes.cons (Take.there Take.here) (Takes.cons (Take.there Take.here) Takes.nil))
    obtain rfl : k = es.length := by omega
    rw [List.take_of_length_le (Nat.le_refl _)]
    have hone : ∀ u ∈ tab V (ints1 (dg c)), u.oneCell' = true := by
      intro u hu
      obtain ⟨r, hr, hu⟩ := List.mem_flatten.1 hu
      obtain ⟨j, _, rfl⟩ := List.mem_map.1 hr
      simp only [ints1, List.mem_singleton] at hu; subst hu; rfl
    have hbyt : V * 8 ≤ 140737488355328 := by omega
    cases hf : es.all (okE (dg c)) with
    | false =>
      have hacc : acc es (c + 1) = acc es c := by simp only [acc, fitsB, hf]; rfl
      have haA : accA es V (c + 1) vl vm = accA es V c vl vm := by unfold accA; rw [hacc]
      (refine tr_seq ?_; refine tr_region ?_; refine tr_val (rk_lss (Is.of rfl) (Is.of rfl)) rfl ?_; refine tr_nil ?_; refine tr_then ?_; refine tr_seq ?_; refine tr_cond_d (Is.of rfl) (fun hcd => (by omega)) (fun hcd => ?_); refine tr_exit ?_; refine tr_then_exit ?_; refine tr_then_exit ?_; refine tr_blk_exit ?_; refine tr_then ?_; refine tr_seq ?_; refine tr_seq ?_; refine tr_region ?_; refine tr_val (rk_move (Is.of rfl)) rfl ?_; refine tr_val (rk_not (Is.of rfl)) rfl ?_; refine tr_nil ?_; refine tr_then ?_; refine tr_cond_t (Is.of rfl) ?_; refine tr_exit ?_; refine tr_then_exit ?_; refine tr_blk_exit ?_; refine tr_then ?_; refine tr_region ?_; refine tr_val (rk_add (Is.of rfl) (Is.of rfl) (ini (by omega))) rfl ?_; refine tr_val (rk_move (Is.of rfl)) rfl ?_; refine tr_nil ?_; refine tr_then ?_)
      apply tr_next (c + 1, vl, vm) ⟨by show c + 1 ≤ N; omega, fun hn => hnil (by rw [← hacc]; exact hn)⟩ (by show N - (c + 1) < N - c; omega)
      case hs1 => exact Subs.cons rfl (Subs.cons rfl (Subs.cons rfl (Subs.cons rfl (Subs.cons rfl Subs.nil))))
      case ht =>
        show Takes _ [accA es V (c + 1) vl vm, _] _
        rw [haA]
        exact Takes.cons (Take.there Take.here) (Takes.cons (Take.there Take.here) Takes.nil)
    | true =>
    cases hac : acc es c with
    | none =>
      have hacc : acc es (c + 1) = some (dg c, dg c) := by simp only [acc, fitsB, hf, hac]; rfl
      obtain ⟨rfl, rfl⟩ := Prod.mk.inj (hnil hac)
      refine tr_openEx (show Take _ (accA es V c (.slice none 0 0) (.slice none 0 0)) _ by exact Take.there Take.here) ?_
      intro _ _
      rw [hac]
      dsimp only [List.nil_append]
      (refine tr_seq ?_; refine tr_region ?_; refine tr_val (rk_lss (Is.of rfl) (Is.of rfl)) rfl ?_; refine tr_nil ?_; refine tr_then ?_; refine tr_seq ?_; refine tr_cond_d (Is.of rfl) (fun hcd => (by omega)) (fun hcd => ?_); refine tr_exit ?_; refine tr_then_exit ?_; refine tr_then_exit ?_; refine tr_blk_exit ?_; refine tr_then ?_; refine tr_seq ?_; refine tr_seq ?_; refine tr_region ?_; refine tr_val (rk_move (Is.of rfl)) rfl ?_; refine tr_val (rk_not (Is.of rfl)) rfl ?_; refine tr_nil ?_; refine tr_then ?_; refine tr_cond_f (Is.of rfl) ?_; refine tr_skip ?_; refine tr_then ?_; refine tr_seq ?_; refine tr_seq ?_; refine tr_region ?_; refine tr_val (rk_move (Is.of rfl)) rfl ?_; refine tr_val (rk_eqNil (Is.of rfl) (Is.of rfl)) rfl ?_; refine tr_nil ?_; refine tr_then ?_; refine tr_cond_t (Is.of rfl) ?_; refine tr_region ?_; refine tr_new (rk_sliceLit PartsS.nil rfl rfl rfl rfl) rfl (fun _ _ => ?_); refine tr_val (rk_move (Is.of rfl)) rfl ?_)
      rename_i bz0 hbz0
      refine tr_rowShut (E := 3) (sz := 1) (g := bz0) (n := 0) (cap := 0) (xs := []) (cur := []) (show Take _ (blk bz0 (.cells #[] 3 (0, 0))) _ by exact Take.here) (Nat.le_refl _) (by unfold maxLen; omega) rfl rfl ?_
      with_reducible apply tr_append (news := tab V (ints1 (dg c)))
      case hx => exact Is.of rfl
      case hy => exact Is.of rfl
      case ht => exact Take.here
      case hn =>
        apply Ats.blk
        case ht =>
          show Take _ (blk bt (.cells (tab V (ints1 (dg c))).toArray 3 (0, 0))) _
          exact Take.there Take.here
        case hv => rw [cellsAt_eq, List.drop_zero, List.take_of_length_le (by rw [tab_length (sz := 1) (fun _ _ => rfl)]; exact Nat.le_refl _)]
      case hl => exact tab_length (sz := 1) (fun _ _ => rfl)
      case h1 => exact hone
      case hz => rfl
      case hsz => rfl
      case hb0 => rfl
      case hb => omega
      case hd => rfl
      intro v0
      rw [Nat.zero_add, List.nil_append]
      (refine tr_new (rk_sliceLit PartsS.nil rfl rfl rfl rfl) rfl (fun _ _ => ?_); refine tr_val (rk_move (Is.of rfl)) rfl ?_)
      rename_i bz1 hbz1
      refine tr_rowShut (E := 3) (sz := 1) (g := bz1) (n := 0) (cap := 0) (xs := []) (cur := []) (show Take _ (blk bz1 (.cells #[] 3 (0, 0))) _ by exact Take.here) (Nat.le_refl _) (by unfold maxLen; omega) rfl rfl ?_
      with_reducible apply tr_append (news := tab V (ints1 (dg c)))
      case hx => exact Is.of rfl
      case hy => exact Is.of rfl
      case ht => exact Take.here
      case hn =>
        apply Ats.blk
        case ht =>
          show Take _ (blk bt (.cells (tab V (ints1 (dg c))).toArray 3 (0, 0))) _
          exact Take.there (Take.there Take.here)
        case hv => rw [cellsAt_eq, List.drop_zero, List.take_of_length_le (by rw [tab_length (sz := 1) (fun _ _ => rfl)]; exact Nat.le_refl _)]
      case hl => exact tab_length (sz := 1) (fun _ _ => rfl)
      case h1 => exact hone
      case hz => rfl
      case hsz => rfl
      case hb0 => rfl
      case hb => omega
      case hd => rfl
      intro v1
      rw [Nat.zero_add, List.nil_append]
      refine tr_rowOpen (show Take _ (row 3 1 v1 V (tab V (ints1 (dg c)))) _ by exact Take.here) g1 ?_
      rintro gm cpm curm rfl hm1 hm2 hm3 hm4
      refine tr_rowOpen (show Take _ (row 3 1 v0 V (tab V (ints1 (dg c)))) _ by exact Take.there Take.here) g1 ?_
      rintro gl cpl curl rfl hl1 hl2 hl3 hl4
      (refine tr_val (rk_assign (Is.of rfl)) rfl ?_; refine tr_val (rk_assign (Is.of rfl)) rfl ?_; refine tr_nil ?_; refine tr_then ?_; refine tr_seq ?_; refine tr_region ?_; refine tr_val (rk_move (Is.of rfl)) rfl ?_; refine tr_val (rk_len_slice (Is.of rfl)) rfl ?_; refine tr_val (rk_move (Is.of rfl)) rfl ?_; refine tr_nil ?_; refine tr_then ?_; refine tr_block ?_)
      refine tr_for (fun i : Nat => i ≤ V) (fun i => [(134, .int .i64 i), (133, .int .i64 V), (132, .slice (some ⟨bt, 0, none⟩) V V), (6, .slice (some ⟨gl, 0, none⟩) V cpl), (7, .slice (some ⟨gm, 0, none⟩) V cpm), (69, .int .i64 c), (68, .int .i64 N), (1, .pointer (some ⟨b1, 0, none⟩))])
        (fun i => [blk gl (.cells (tab V (ints1 (mixF min (dg c) (dg c) i)) ++ curl).toArray 3 (0, 0)), blk gm (.cells (tab V (ints1 (mixF max (dg c) (dg c) i)) ++ curm).toArray 3 (0, 0)), blk bt (.cells (tab V (ints1 (dg c))).toArray 3 (0, 0)), blk b1 (.cells #[.slice a V cap, .slice a2 es.length cap2] 25 (0, 0))]) (fun i => V - i) ?_ ?_
      · apply tr_start 0 (by omega)
        case hs1 => exact Subs.cons rfl (Subs.cons rfl (Subs.cons rfl (Subs.cons rfl (Subs.cons rfl (Subs.cons rfl (Subs.cons rfl (Subs.cons rfl Subs.nil)))))))
        case ht =>
          rw [mix_zero, mix_zero]
          exact Takes.cons Take.here (Takes.cons Take.here (Takes.cons Take.here (Takes.cons Take.here Takes.nil)))
      intro i hi
      by_cases hlt6 : i < V
      · have hci := tab_get (n := V) (sz := 1) (f := ints1 (dg c)) (i := i) (j := 0) (fun _ _ => rfl) hlt6 (by omega)
        rw [Nat.add_zero] at hci
        have hci' : (tab V (ints1 (dg c)))[i * 1]? = some (.int .i64 (dg c i)) := hci
        have hgl := mix_get (op := min) (l0 := (dg c)) (d := dg c) (cur := curl) hlt6
        have hgm := mix_get (op := max) (l0 := (dg c)) (d := dg c) (cur := curm) hlt6
        have hsl := mix_set (op := min) (l0 := (dg c)) (d := dg c) (cur := curl) hlt6
        have hsm := mix_set (op := max) (l0 := (dg c)) (d := dg c) (cur := curm) hlt6
        have hll := mix_len (op := min) (l0 := (dg c)) (d := dg c) (cur := curl) hlt6
        have hlm := mix_len (op := max) (l0 := (dg c)) (d := dg c) (cur := curm) hlt6
        (refine tr_seq ?_; refine tr_region ?_; refine tr_val (rk_lss (Is.of rfl) (Is.of rfl)) rfl ?_; refine tr_nil ?_; refine tr_then ?_; refine tr_seq ?_; refine tr_cond_d (Is.of rfl) (fun hcd => ?_) (fun hcd => (by omega)); refine tr_skip ?_; refine tr_then ?_; refine tr_seq ?_; refine tr_block ?_; refine tr_seq ?_; refine tr_region ?_; refine tr_val (rk_move (Is.of rfl)) rfl ?_; refine tr_val (rk_indexAddr (Is.of rfl) (Is.of rfl) rfl (by omega) hcd norm1_) rfl ?_; refine tr_val (rk_load1 (Is.of rfl) (At.blkL (Take.there (Take.there Take.here)) hci')) rfl ?_; refine tr_val (rk_assign (Is.of rfl)) rfl ?_; refine tr_val (rk_assign (Is.of rfl)) rfl ?_; refine tr_nil ?_; refine tr_then ?_)
        with_reducible refine tr_left 20 rfl ?_
        (refine left_take 0 rfl kr_ kr_ kr_ (fun w ρ => rfl) (fun w => (rk_move (Is.of rfl))) rfl ?_; refine left_take 1 rfl kr_ kr_ kr_ (fun w ρ => rfl) (fun w => (rk_move (Is.of rfl))) rfl ?_; refine left_take 2 rfl kr_ kr_ kr_ (fun w ρ => rfl) (fun w => (rk_move (Is.of rfl))) rfl ?_; refine left_take 3 rfl kr_ kr_ kr_ (fun w ρ => rfl) (fun w => (rk_move (Is.of rfl))) rfl ?_; refine left_take 4 rfl kr_ kr_ kr_ (fun w ρ => rfl) (fun w => (rk_move (Is.of rfl))) rfl ?_; refine left_take 5 rfl kr_ kr_ kr_ (fun w ρ => rfl) (fun w => (rk_move (Is.of rfl))) rfl ?_; refine left_take 6 rfl kr_ kr_ kr_ (fun w ρ => rfl) (fun w => (rk_indexAddr (Is.of rfl) (Is.of rfl) rfl (by omega) hcd norm1_)) rfl ?_; refine left_take 8 rfl kr_ kr_ kr_ (fun w ρ => rfl) (fun w => (rk_move (Is.of rfl))) rfl ?_; refine left_take 10 rfl kr_ kr_ kr_ (fun w ρ => rfl) (fun w => (rk_move (Is.of rfl))) rfl ?_; refine left_take 11 rfl kr_ kr_ kr_ (fun w ρ => rfl) (fun w => (rk_move (Is.of rfl))) rfl ?_; refine left_take 12 rfl kr_ kr_ kr_ (fun w ρ => rfl) (fun w => (rk_indexAddr (Is.of rfl) (Is.of rfl) rfl (by omega) hcd norm1_)) rfl ?_; refine left_take 14 rfl kr_ kr_ kr_ (fun w ρ => rfl) (fun w => (rk_move (Is.of rfl))) rfl ?_)
        refine left_ready (rs := [7, 13]) (by kernel_rfl) (by simp) (List.forall_mem_cons.2 ⟨?_, List.forall_mem_cons.2 ⟨?_, fun _ h => absurd h List.not_mem_nil⟩⟩)
        · refine next_step rfl ?_
          (refine tr_val (rk_load1 (Is.of rfl) (At.blkL Take.here hgl)) rfl ?_; refine tr_nil ?_; refine tr_then ?_)
          refine left_take 9 rfl kr_ kr_ kr_ (fun w ρ => rfl) (fun w => (rk_min2 (Is.of rfl) (Is.of rfl))) rfl ?_
          refine left_ready (rs := [13]) (by kernel_rfl) (by simp) (List.forall_mem_cons.2 ⟨?_, fun _ h => absurd h List.not_mem_nil⟩)
          refine next_step rfl ?_
          (refine tr_val (rk_load1 (Is.of rfl) (At.blkL (Take.there Take.here) hgm)) rfl ?_; refine tr_nil ?_; refine tr_then ?_)
          refine left_take 15 rfl kr_ kr_ kr_ (fun w ρ => rfl) (fun w => (rk_max2 (Is.of rfl) (Is.of rfl))) rfl ?_
          refine left_take 16 rfl kr_ kr_ kr_ (fun w ρ => rfl) (fun w => (rk_indexAddr (Is.of rfl) (Is.of rfl) rfl (by omega) hcd norm1_)) rfl ?_
          refine left_ready (rs := [17]) (by kernel_rfl) (by simp) (List.forall_mem_cons.2 ⟨?_, fun _ h => absurd h List.not_mem_nil⟩)
          refine next_step rfl ?_
          (refine tr_store (Is.of rfl) (Is.of rfl) Take.here rfl rfl (okc_cons rfl okc_nil) hll hsl ?_; refine tr_nil ?_; refine tr_then ?_)
          refine left_take 18 rfl kr_ kr_ kr_ (fun w ρ => rfl) (fun w => (rk_indexAddr (Is.of rfl) (Is.of rfl) rfl (by omega) hcd norm1_)) rfl ?_
          refine left_ready (rs := [19]) (by kernel_rfl) (by simp) (List.forall_mem_cons.2 ⟨?_, fun _ h => absurd h List.not_mem_nil⟩)
          refine next_step rfl ?_
          (refine tr_store (Is.of rfl) (Is.of rfl) (Take.there Take.here) rfl rfl (okc_cons rfl okc_nil) hlm hsm ?_; refine tr_nil ?_; refine tr_then ?_)
          with_reducible refine left_done (by kernel_rfl) ?_
          (refine tr_blk_normal ?_; refine tr_then ?_; refine tr_region ?_; refine tr_val (rk_add (Is.of rfl) (Is.of rfl) (ini (by omega))) rfl ?_; refine tr_val (rk_move (Is.of rfl)) rfl ?_; refine tr_nil ?_; refine tr_then ?_)
          apply tr_next (i + 1) (by omega) (by omega)
          case hs1 => exact Subs.cons rfl (Subs.cons rfl (Subs.cons rfl (Subs.cons rfl (Subs.cons rfl (Subs.cons rfl (Subs.cons rfl (Subs.cons rfl Subs.nil)))))))
          case ht => exact Takes.cons (Take.there Take.here) (Takes.cons Take.here (Takes.cons Take.here (Takes.cons Take.here Takes.nil)))
        · refine next_step rfl ?_
          (refine tr_val (rk_load1 (Is.of rfl) (At.blkL (Take.there Take.here) hgm)) rfl ?_; refine tr_nil ?_; refine tr_then ?_)
          refine left_take 15 rfl kr_ kr_ kr_ (fun w ρ => rfl) (fun w => (rk_max2 (Is.of rfl) (Is.of rfl))) rfl ?_
          refine left_ready (rs := [7]) (by kernel_rfl) (by simp) (List.forall_mem_cons.2 ⟨?_, fun _ h => absurd h List.not_mem_nil⟩)
          refine next_step rfl ?_
          (refine tr_val (rk_load1 (Is.of rfl) (At.blkL Take.here hgl)) rfl ?_; refine tr_nil ?_; refine tr_then ?_)
          refine left_take 9 rfl kr_ kr_ kr_ (fun w ρ => rfl) (fun w => (rk_min2 (Is.of rfl) (Is.of rfl))) rfl ?_
          refine left_take 16 rfl kr_ kr_ kr_ (fun w ρ => rfl) (fun w => (rk_indexAddr (Is.of rfl) (Is.of rfl) rfl (by omega) hcd norm1_)) rfl ?_
          refine left_ready (rs := [17]) (by kernel_rfl) (by simp) (List.forall_mem_cons.2 ⟨?_, fun _ h => absurd h List.not_mem_nil⟩)
          refine next_step rfl ?_
          (refine tr_store (Is.of rfl) (Is.of rfl) Take.here rfl rfl (okc_cons rfl okc_nil) hll hsl ?_; refine tr_nil ?_; refine tr_then ?_)
          refine left_take 18 rfl kr_ kr_ kr_ (fun w ρ => rfl) (fun w => (rk_indexAddr (Is.of rfl) (Is.of rfl) rfl (by omega) hcd norm1_)) rfl ?_
          refine left_ready (rs := [19]) (by kernel_rfl) (by simp) (List.forall_mem_cons.2 ⟨?_, fun _ h => absurd h List.not_mem_nil⟩)
          refine next_step rfl ?_
          (refine tr_store (Is.of rfl) (Is.of rfl) (Take.there Take.here) rfl rfl (okc_cons rfl okc_nil) hlm hsm ?_; refine tr_nil ?_; refine tr_then ?_)
          with_reducible refine left_done (by kernel_rfl) ?_
          (refine tr_blk_normal ?_; refine tr_then ?_; refine tr_region ?_; refine tr_val (rk_add (Is.of rfl) (Is.of rfl) (ini (by omega))) rfl ?_; refine tr_val (rk_move (Is.of rfl)) rfl ?_; refine tr_nil ?_; refine tr_then ?_)
          apply tr_next (i + 1) (by omega) (by omega)
          case hs1 => exact Subs.cons rfl (Subs.cons rfl (Subs.cons rfl (Subs.cons rfl (Subs.cons rfl (Subs.cons rfl (Subs.cons rfl (Subs.cons rfl Subs.nil)))))))
          case ht => exact Takes.cons (Take.there Take.here) (Takes.cons Take.here (Takes.cons Take.here (Takes.cons Take.here Takes.nil)))
      · obtain rfl : V = i := by omega
        rw [mix_all, mix_all]
        rw [show (fun j => min (dg c j) (dg c j)) = dg c from funext fun j => Int.min_self _, show (fun j => max (dg c j) (dg c j)) = dg c from funext fun j => Int.max_self _]
        refine tr_rowShut (n := V) (cap := cpl) (sz := 1) (show Take _ (blk gl (.cells (tab V (ints1 (dg c)) ++ curl).toArray 3 (0, 0))) _ by exact Take.here) hl1 hl2 (by rw [List.length_append, tab_length (sz := 1) (fun _ _ => rfl)]; rw [List.length_append, tab_length (sz := 1) (fun _ _ => rfl)] at hl3; exact hl3) (tab_length (sz := 1) (fun _ _ => rfl)) ?_
        refine tr_rowShut (n := V) (cap := cpm) (sz := 1) (show Take _ (blk gm (.cells (tab V (ints1 (dg c)) ++ curm).toArray 3 (0, 0))) _ by exact Take.there Take.here) hm1 hm2 (by rw [List.length_append, tab_length (sz := 1) (fun _ _ => rfl)]; rw [List.length_append, tab_length (sz := 1) (fun _ _ => rfl)] at hm3; exact hm3) (tab_length (sz := 1) (fun _ _ => rfl)) ?_
        refine tr_shutEx (Φ := fun _ : Unit => True) (A := fun _ => match acc es (c + 1) with | none => [] | some y => [row 3 1 (.slice (some ⟨gl, 0, none⟩) V cpl) V (tab V (ints1 y.1)), row 3 1 (.slice (some ⟨gm, 0, none⟩) V cpm) V (tab V (ints1 y.2))]) () trivial (show Takes _ (match acc es (c + 1) with | none => [] | some y => [row 3 1 (.slice (some ⟨gl, 0, none⟩) V cpl) V (tab V (ints1 y.1)), row 3 1 (.slice (some ⟨gm, 0, none⟩) V cpm) V (tab V (ints1 y.2))]) _ by
          (rw [hacc])
          (show Takes _ [row 3 1 (.slice (some ⟨gl, 0, none⟩) V cpl) V (tab V (ints1 (dg c))), row 3 1 (.slice (some ⟨gm, 0, none⟩) V cpm) V (tab V (ints1 (dg c)))] _)
          exact Takes.cons (Take.there Take.here) (Takes.cons Take.here Takes.nil)) ?_
        (refine tr_seq ?_; refine tr_region ?_; refine tr_val (rk_lss (Is.of rfl) (Is.of rfl)) rfl ?_; refine tr_nil ?_; refine tr_then ?_; refine tr_seq ?_; refine tr_cond_d (Is.of rfl) (fun hcd => (by omega)) (fun hcd => ?_); refine tr_exit ?_; refine tr_then_exit ?_; refine tr_then_exit ?_; refine tr_blk_exit ?_; refine tr_blk_normal ?_; refine tr_then ?_; refine tr_region ?_; refine tr_val (rk_add (Is.of rfl) (Is.of rfl) (ini (by omega))) rfl ?_; refine tr_val (rk_move (Is.of rfl)) rfl ?_; refine tr_nil ?_; refine tr_then ?_)
        apply tr_next (c + 1, .slice (some ⟨gl, 0, none⟩) V cpl, .slice (some ⟨gm, 0, none⟩) V cpm) ⟨by show c + 1 ≤ N; omega, fun hn => by rw [show acc es (c + 1) = none from hn] at hacc; cases hacc⟩ (by show N - (c + 1) < N - c; omega)
        case hs1 => exact Subs.cons rfl (Subs.cons rfl (Subs.cons rfl (Subs.cons rfl (Subs.cons rfl Subs.nil))))
        case ht =>
          show Takes _ [exA (fun _ : Unit => True) (fun _ => match acc es (c + 1) with | none => [] | some y => [row 3 1 (.slice (some ⟨gl, 0, none⟩) V cpl) V (tab V (ints1 y.1)), row 3 1 (.slice (some ⟨gm, 0, none⟩) V cpm) V (tab V (ints1 y.2))]), _] _
          exact Takes.cons Take.here (Takes.cons (Take.there Take.here) Takes.nil)
    | some y =>
      have hacc : acc es (c + 1) = some (fun i => min (y.1 i) (dg c i), fun i => max (y.2 i) (dg c i)) := by simp only [acc, fitsB, hf, hac]; rfl
      refine tr_openEx (show Take _ (accA es V c vl vm) _ by exact Take.there Take.here) ?_
      intro _ _
      rw [hac]
      dsimp only [List.cons_append, List.nil_append]
      refine tr_rowOpen (show Take _ (row 3 1 vm V (tab V (ints1 y.2))) _ by exact Take.there Take.here) g1 ?_
      rintro gm cpm curm rfl hm1 hm2 hm3 hm4
      refine tr_rowOpen (show Take _ (row 3 1 vl V (tab V (ints1 y.1))) _ by exact Take.there Take.here) g1 ?_
      rintro gl cpl curl rfl hl1 hl2 hl3 hl4
      (refine tr_seq ?_; refine tr_region ?_; refine tr_val (rk_lss (Is.of rfl) (Is.of rfl)) rfl ?_; refine tr_nil ?_; refine tr_then ?_; refine tr_seq ?_; refine tr_cond_d (Is.of rfl) (fun hcd => (by omega)) (fun hcd => ?_); refine tr_exit ?_; refine tr_then_exit ?_; refine tr_then_exit ?_; refine tr_blk_exit ?_; refine tr_then ?_; refine tr_seq ?_; refine tr_seq ?_; refine tr_region ?_; refine tr_val (rk_move (Is.of rfl)) rfl ?_; refine tr_val (rk_not (Is.of rfl)) rfl ?_; refine tr_nil ?_; refine tr_then ?_; refine tr_cond_f (Is.of rfl) ?_; refine tr_skip ?_; refine tr_then ?_; refine tr_seq ?_; refine tr_seq ?_; refine tr_region ?_; refine tr_val (rk_move (Is.of rfl)) rfl ?_; refine tr_val (rk_eqNil (Is.of rfl) (Is.of rfl)) rfl ?_; refine tr_nil ?_; refine tr_then ?_; refine tr_cond_f (Is.of rfl) ?_; refine tr_skip ?_; refine tr_then ?_; refine tr_seq ?_; refine tr_region ?_; refine tr_val (rk_move (Is.of rfl)) rfl ?_; refine tr_val (rk_len_slice (Is.of rfl)) rfl ?_; refine tr_val (rk_move (Is.of rfl)) rfl ?_; refine tr_nil ?_; refine tr_then ?_; refine tr_block ?_)
      refine tr_for (fun i : Nat => i ≤ V) (fun i => [(134, .int .i64 i), (133, .int .i64 V), (132, .slice (some ⟨bt, 0, none⟩) V V), (6, .slice (some ⟨gl, 0, none⟩) V cpl), (7, .slice (some ⟨gm, 0, none⟩) V cpm), (69, .int .i64 c), (68, .int .i64 N), (1, .pointer (some ⟨b1, 0, none⟩))])
        (fun i => [blk gl (.cells (tab V (ints1 (mixF min y.1 (dg c) i)) ++ curl).toArray 3 (0, 0)), blk gm (.cells (tab V (ints1 (mixF max y.2 (dg c) i)) ++ curm).toArray 3 (0, 0)), blk bt (.cells (tab V (ints1 (dg c))).toArray 3 (0, 0)), blk b1 (.cells #[.slice a V cap, .slice a2 es.length cap2] 25 (0, 0))]) (fun i => V - i) ?_ ?_
      · apply tr_start 0 (by omega)
        case hs1 => exact Subs.cons rfl (Subs.cons rfl (Subs.cons rfl (Subs.cons rfl (Subs.cons rfl (Subs.cons rfl (Subs.cons rfl (Subs.cons rfl Subs.nil)))))))
        case ht =>
          rw [mix_zero, mix_zero]
          exact Takes.cons Take.here (Takes.cons Take.here (Takes.cons Take.here (Takes.cons Take.here Takes.nil)))
      intro i hi
      by_cases hlt6 : i < V
      · have hci := tab_get (n := V) (sz := 1) (f := ints1 (dg c)) (i := i) (j := 0) (fun _ _ => rfl) hlt6 (by omega)
        rw [Nat.add_zero] at hci
        have hci' : (tab V (ints1 (dg c)))[i * 1]? = some (.int .i64 (dg c i)) := hci
        have hgl := mix_get (op := min) (l0 := y.1) (d := dg c) (cur := curl) hlt6
        have hgm := mix_get (op := max) (l0 := y.2) (d := dg c) (cur := curm) hlt6
        have hsl := mix_set (op := min) (l0 := y.1) (d := dg c) (cur := curl) hlt6
        have hsm := mix_set (op := max) (l0 := y.2) (d := dg c) (cur := curm) hlt6
        have hll := mix_len (op := min) (l0 := y.1) (d := dg c) (cur := curl) hlt6
        have hlm := mix_len (op := max) (l0 := y.2) (d := dg c) (cur := curm) hlt6
        (refine tr_seq ?_; refine tr_region ?_; refine tr_val (rk_lss (Is.of rfl) (Is.of rfl)) rfl ?_; refine tr_nil ?_; refine tr_then ?_; refine tr_seq ?_; refine tr_cond_d (Is.of rfl) (fun hcd => ?_) (fun hcd => (by omega)); refine tr_skip ?_; refine tr_then ?_; refine tr_seq ?_; refine tr_block ?_; refine tr_seq ?_; refine tr_region ?_; refine tr_val (rk_move (Is.of rfl)) rfl ?_; refine tr_val (rk_indexAddr (Is.of rfl) (Is.of rfl) rfl (by omega) hcd norm1_) rfl ?_; refine tr_val (rk_load1 (Is.of rfl) (At.blkL (Take.there (Take.there Take.here)) hci')) rfl ?_; refine tr_val (rk_assign (Is.of rfl)) rfl ?_; refine tr_val (rk_assign (Is.of rfl)) rfl ?_; refine tr_nil ?_; refine tr_then ?_)
        with_reducible refine tr_left 20 rfl ?_
        (refine left_take 0 rfl kr_ kr_ kr_ (fun w ρ => rfl) (fun w => (rk_move (Is.of rfl))) rfl ?_; refine left_take 1 rfl kr_ kr_ kr_ (fun w ρ => rfl) (fun w => (rk_move (Is.of rfl))) rfl ?_; refine left_take 2 rfl kr_ kr_ kr_ (fun w ρ => rfl) (fun w => (rk_move (Is.of rfl))) rfl ?_; refine left_take 3 rfl kr_ kr_ kr_ (fun w ρ => rfl) (fun w => (rk_move (Is.of rfl))) rfl ?_; refine left_take 4 rfl kr_ kr_ kr_ (fun w ρ => rfl) (fun w => (rk_move (Is.of rfl))) rfl ?_; refine left_take 5 rfl kr_ kr_ kr_ (fun w ρ => rfl) (fun w => (rk_move (Is.of rfl))) rfl ?_; refine left_take 6 rfl kr_ kr_ kr_ (fun w ρ => rfl) (fun w => (rk_indexAddr (Is.of rfl) (Is.of rfl) rfl (by omega) hcd norm1_)) rfl ?_; refine left_take 8 rfl kr_ kr_ kr_ (fun w ρ => rfl) (fun w => (rk_move (Is.of rfl))) rfl ?_; refine left_take 10 rfl kr_ kr_ kr_ (fun w ρ => rfl) (fun w => (rk_move (Is.of rfl))) rfl ?_; refine left_take 11 rfl kr_ kr_ kr_ (fun w ρ => rfl) (fun w => (rk_move (Is.of rfl))) rfl ?_; refine left_take 12 rfl kr_ kr_ kr_ (fun w ρ => rfl) (fun w => (rk_indexAddr (Is.of rfl) (Is.of rfl) rfl (by omega) hcd norm1_)) rfl ?_; refine left_take 14 rfl kr_ kr_ kr_ (fun w ρ => rfl) (fun w => (rk_move (Is.of rfl))) rfl ?_)
        refine left_ready (rs := [7, 13]) (by kernel_rfl) (by simp) (List.forall_mem_cons.2 ⟨?_, List.forall_mem_cons.2 ⟨?_, fun _ h => absurd h List.not_mem_nil⟩⟩)
        · refine next_step rfl ?_
          (refine tr_val (rk_load1 (Is.of rfl) (At.blkL Take.here hgl)) rfl ?_; refine tr_nil ?_; refine tr_then ?_)
          refine left_take 9 rfl kr_ kr_ kr_ (fun w ρ => rfl) (fun w => (rk_min2 (Is.of rfl) (Is.of rfl))) rfl ?_
          refine left_ready (rs := [13]) (by kernel_rfl) (by simp) (List.forall_mem_cons.2 ⟨?_, fun _ h => absurd h List.not_mem_nil⟩)
          refine next_step rfl ?_
          (refine tr_val (rk_load1 (Is.of rfl) (At.blkL (Take.there Take.here) hgm)) rfl ?_; refine tr_nil ?_; refine tr_then ?_)
          refine left_take 15 rfl kr_ kr_ kr_ (fun w ρ => rfl) (fun w => (rk_max2 (Is.of rfl) (Is.of rfl))) rfl ?_
          refine left_take 16 rfl kr_ kr_ kr_ (fun w ρ => rfl) (fun w => (rk_indexAddr (Is.of rfl) (Is.of rfl) rfl (by omega) hcd norm1_)) rfl ?_
          refine left_ready (rs := [17]) (by kernel_rfl) (by simp) (List.forall_mem_cons.2 ⟨?_, fun _ h => absurd h List.not_mem_nil⟩)
          refine next_step rfl ?_
          (refine tr_store (Is.of rfl) (Is.of rfl) Take.here rfl rfl (okc_cons rfl okc_nil) hll hsl ?_; refine tr_nil ?_; refine tr_then ?_)
          refine left_take 18 rfl kr_ kr_ kr_ (fun w ρ => rfl) (fun w => (rk_indexAddr (Is.of rfl) (Is.of rfl) rfl (by omega) hcd norm1_)) rfl ?_
          refine left_ready (rs := [19]) (by kernel_rfl) (by simp) (List.forall_mem_cons.2 ⟨?_, fun _ h => absurd h List.not_mem_nil⟩)
          refine next_step rfl ?_
          (refine tr_store (Is.of rfl) (Is.of rfl) (Take.there Take.here) rfl rfl (okc_cons rfl okc_nil) hlm hsm ?_; refine tr_nil ?_; refine tr_then ?_)
          with_reducible refine left_done (by kernel_rfl) ?_
          (refine tr_blk_normal ?_; refine tr_then ?_; refine tr_region ?_; refine tr_val (rk_add (Is.of rfl) (Is.of rfl) (ini (by omega))) rfl ?_; refine tr_val (rk_move (Is.of rfl)) rfl ?_; refine tr_nil ?_; refine tr_then ?_)
          apply tr_next (i + 1) (by omega) (by omega)
          case hs1 => exact Subs.cons rfl (Subs.cons rfl (Subs.cons rfl (Subs.cons rfl (Subs.cons rfl (Subs.cons rfl (Subs.cons rfl (Subs.cons rfl Subs.nil)))))))
          case ht => exact Takes.cons (Take.there Take.here) (Takes.cons Take.here (Takes.cons Take.here (Takes.cons Take.here Takes.nil)))
        · refine next_step rfl ?_
          (refine tr_val (rk_load1 (Is.of rfl) (At.blkL (Take.there Take.here) hgm)) rfl ?_; refine tr_nil ?_; refine tr_then ?_)
          refine left_take 15 rfl kr_ kr_ kr_ (fun w ρ => rfl) (fun w => (rk_max2 (Is.of rfl) (Is.of rfl))) rfl ?_
          refine left_ready (rs := [7]) (by kernel_rfl) (by simp) (List.forall_mem_cons.2 ⟨?_, fun _ h => absurd h List.not_mem_nil⟩)
          refine next_step rfl ?_
          (refine tr_val (rk_load1 (Is.of rfl) (At.blkL Take.here hgl)) rfl ?_; refine tr_nil ?_; refine tr_then ?_)
          refine left_take 9 rfl kr_ kr_ kr_ (fun w ρ => rfl) (fun w => (rk_min2 (Is.of rfl) (Is.of rfl))) rfl ?_
          refine left_take 16 rfl kr_ kr_ kr_ (fun w ρ => rfl) (fun w => (rk_indexAddr (Is.of rfl) (Is.of rfl) rfl (by omega) hcd norm1_)) rfl ?_
          refine left_ready (rs := [17]) (by kernel_rfl) (by simp) (List.forall_mem_cons.2 ⟨?_, fun _ h => absurd h List.not_mem_nil⟩)
          refine next_step rfl ?_
          (refine tr_store (Is.of rfl) (Is.of rfl) Take.here rfl rfl (okc_cons rfl okc_nil) hll hsl ?_; refine tr_nil ?_; refine tr_then ?_)
          refine left_take 18 rfl kr_ kr_ kr_ (fun w ρ => rfl) (fun w => (rk_indexAddr (Is.of rfl) (Is.of rfl) rfl (by omega) hcd norm1_)) rfl ?_
          refine left_ready (rs := [19]) (by kernel_rfl) (by simp) (List.forall_mem_cons.2 ⟨?_, fun _ h => absurd h List.not_mem_nil⟩)
          refine next_step rfl ?_
          (refine tr_store (Is.of rfl) (Is.of rfl) (Take.there Take.here) rfl rfl (okc_cons rfl okc_nil) hlm hsm ?_; refine tr_nil ?_; refine tr_then ?_)
          with_reducible refine left_done (by kernel_rfl) ?_
          (refine tr_blk_normal ?_; refine tr_then ?_; refine tr_region ?_; refine tr_val (rk_add (Is.of rfl) (Is.of rfl) (ini (by omega))) rfl ?_; refine tr_val (rk_move (Is.of rfl)) rfl ?_; refine tr_nil ?_; refine tr_then ?_)
          apply tr_next (i + 1) (by omega) (by omega)
          case hs1 => exact Subs.cons rfl (Subs.cons rfl (Subs.cons rfl (Subs.cons rfl (Subs.cons rfl (Subs.cons rfl (Subs.cons rfl (Subs.cons rfl Subs.nil)))))))
          case ht => exact Takes.cons (Take.there Take.here) (Takes.cons Take.here (Takes.cons Take.here (Takes.cons Take.here Takes.nil)))
      · obtain rfl : V = i := by omega
        rw [mix_all, mix_all]
        refine tr_rowShut (n := V) (cap := cpl) (sz := 1) (show Take _ (blk gl (.cells (tab V (ints1 (fun j => min (y.1 j) (dg c j))) ++ curl).toArray 3 (0, 0))) _ by exact Take.here) hl1 hl2 (by rw [List.length_append, tab_length (sz := 1) (fun _ _ => rfl)]; rw [List.length_append, tab_length (sz := 1) (fun _ _ => rfl)] at hl3; exact hl3) (tab_length (sz := 1) (fun _ _ => rfl)) ?_
        refine tr_rowShut (n := V) (cap := cpm) (sz := 1) (show Take _ (blk gm (.cells (tab V (ints1 (fun j => max (y.2 j) (dg c j))) ++ curm).toArray 3 (0, 0))) _ by exact Take.there Take.here) hm1 hm2 (by rw [List.length_append, tab_length (sz := 1) (fun _ _ => rfl)]; rw [List.length_append, tab_length (sz := 1) (fun _ _ => rfl)] at hm3; exact hm3) (tab_length (sz := 1) (fun _ _ => rfl)) ?_
        refine tr_shutEx (Φ := fun _ : Unit => True) (A := fun _ => match acc es (c + 1) with | none => [] | some y => [row 3 1 (.slice (some ⟨gl, 0, none⟩) V cpl) V (tab V (ints1 y.1)), row 3 1 (.slice (some ⟨gm, 0, none⟩) V cpm) V (tab V (ints1 y.2))]) () trivial (show Takes _ (match acc es (c + 1) with | none => [] | some y => [row 3 1 (.slice (some ⟨gl, 0, none⟩) V cpl) V (tab V (ints1 y.1)), row 3 1 (.slice (some ⟨gm, 0, none⟩) V cpm) V (tab V (ints1 y.2))]) _ by
          (rw [hacc])
          (show Takes _ [row 3 1 (.slice (some ⟨gl, 0, none⟩) V cpl) V (tab V (ints1 (fun j => min (y.1 j) (dg c j)))), row 3 1 (.slice (some ⟨gm, 0, none⟩) V cpm) V (tab V (ints1 (fun j => max (y.2 j) (dg c j))))] _)
          exact Takes.cons (Take.there Take.here) (Takes.cons Take.here Takes.nil)) ?_
        (refine tr_seq ?_; refine tr_region ?_; refine tr_val (rk_lss (Is.of rfl) (Is.of rfl)) rfl ?_; refine tr_nil ?_; refine tr_then ?_; refine tr_seq ?_; refine tr_cond_d (Is.of rfl) (fun hcd => (by omega)) (fun hcd => ?_); refine tr_exit ?_; refine tr_then_exit ?_; refine tr_then_exit ?_; refine tr_blk_exit ?_; refine tr_blk_normal ?_; refine tr_then ?_; refine tr_region ?_; refine tr_val (rk_add (Is.of rfl) (Is.of rfl) (ini (by omega))) rfl ?_; refine tr_val (rk_move (Is.of rfl)) rfl ?_; refine tr_nil ?_; refine tr_then ?_)
        apply tr_next (c + 1, .slice (some ⟨gl, 0, none⟩) V cpl, .slice (some ⟨gm, 0, none⟩) V cpm) ⟨by show c + 1 ≤ N; omega, fun hn => by rw [show acc es (c + 1) = none from hn] at hacc; cases hacc⟩ (by show N - (c + 1) < N - c; omega)
        case hs1 => exact Subs.cons rfl (Subs.cons rfl (Subs.cons rfl (Subs.cons rfl (Subs.cons rfl Subs.nil))))
        case ht =>
          show Takes _ [exA (fun _ : Unit => True) (fun _ => match acc es (c + 1) with | none => [] | some y => [row 3 1 (.slice (some ⟨gl, 0, none⟩) V cpl) V (tab V (ints1 y.1)), row 3 1 (.slice (some ⟨gm, 0, none⟩) V cpm) V (tab V (ints1 y.2))]), _] _
          exact Takes.cons Take.here (Takes.cons (Take.there Take.here) Takes.nil)
  obtain rfl : c = N := by omega
  generalize hlg : (longest (lvs es V) V 0).2 = lg
  cases lg with
  | some g0 =>
    have hacN : acc es c = none := by rw [← hN]; exact law_none g hlg
    obtain ⟨rfl, rfl⟩ := Prod.mk.inj (hnil hacN)
    (refine tr_seq ?_; refine tr_region ?_; refine tr_val (rk_lss (Is.of rfl) (Is.of rfl)) rfl ?_; refine tr_nil ?_; refine tr_then ?_; refine tr_seq ?_; refine tr_cond_d (Is.of rfl) (fun hcd => (by omega)) (fun hcd => ?_); refine tr_exit ?_; refine tr_then_exit ?_; refine tr_then_exit ?_; refine tr_blk_exit ?_; refine tr_then ?_; refine tr_seq ?_; refine tr_region ?_; refine tr_val (rk_loadB (Is.of rfl) (Take.there Take.here) norm_ (by rfl)) rfl ?_)
    with_reducible apply tr_call
    case hr => exact rk_call (Is.of rfl) (Iss.cons (Is.of rfl) Iss.nil) inferInstance normc_
    case hd => rfl
    case ht => exact Takes.nil
    case hc =>
      intro w1 fp hm1 _ hs1
      obtain rfl : fp = [] := hs1
      exact dollyNet_c (h.n.keeps hm1.keeps) (h.e.keeps hm1.keeps) (by omega) (by omega) (by omega)
    rintro ⟨x1, y1⟩ _
    dsimp only [List.cons_append, List.nil_append]
    refine tr_rowSl (show Take _ (row 9 1 x1 ns.length (ns.map .string)) _ by exact Take.here) ?_
    rintro ax1 cx1 rfl
    refine tr_rowSl (show Take _ (row 52 4 y1 es.length (edgesL es).flatten) _ by exact Take.there Take.here) ?_
    rintro ay1 cy1 rfl
    skip
    with_reducible apply tr_callV
    case hr => exact rk_call (Is.of rfl) (Iss.cons (Is.of rfl) Iss.nil) inferInstance normc_
    case hd => rfl
    case hc =>
      intro w' hm'
      exact plan_no (netM_rows hm' (by exact Take.here) (by exact Take.there Take.here)) h0 hV g (by omega) hlg
    (refine tr_val (rk_move (Is.of rfl)) rfl ?_; refine tr_val (rk_extract (Is.of rfl) rfl) rfl ?_; refine tr_val (rk_extract (Is.of rfl) rfl) rfl ?_; refine tr_val (rk_assign (Is.of rfl)) rfl ?_; refine tr_val (rk_assign (Is.of rfl)) rfl ?_; refine tr_nil ?_; refine tr_then ?_; refine tr_seq ?_; refine tr_region ?_; refine tr_val (rk_loadB (Is.of rfl) (Take.there (Take.there (Take.there Take.here))) norm_ (by rfl)) rfl ?_)
    with_reducible apply tr_call
    case hr => exact rk_call (Is.of rfl) (Iss.cons (Is.of rfl) Iss.nil) inferInstance normc_
    case hd => rfl
    case ht => exact Takes.nil
    case hc =>
      intro w1 fp hm1 _ hs1
      obtain rfl : fp = [] := hs1
      exact dollyNet_c (h.n.keeps hm1.keeps) (h.e.keeps hm1.keeps) (by omega) (by omega) (by omega)
    rintro ⟨x2, y2⟩ _
    dsimp only [List.cons_append, List.nil_append]
    refine tr_rowSl (show Take _ (row 9 1 x2 ns.length (ns.map .string)) _ by exact Take.here) ?_
    rintro ax2 cx2 rfl
    refine tr_rowSl (show Take _ (row 52 4 y2 es.length (edgesL es).flatten) _ by exact Take.there Take.here) ?_
    rintro ay2 cy2 rfl
    skip
    with_reducible apply tr_call
    case hr => exact rk_call (Is.of rfl) (Iss.cons (Is.of rfl) Iss.nil) inferInstance normc_
    case hd => rfl
    case ht => exact Takes.nil
    case hc =>
      intro w1 fp hm1 _ hs1
      obtain rfl : fp = [] := hs1
      exact loop_yes (netM_rows (ns := ns) (es := es) hm1 (show Take _ (row 9 1 (.slice ax2 ns.length cx2) ns.length (ns.map .string)) _ by exact Take.here) (show Take _ (row 52 4 (.slice ay2 es.length cy2) es.length (edgesL es).flatten) _ by exact Take.there Take.here)) h0 hV g (by omega) hlg
    rintro ⟨lv, ax⟩ ⟨p1, p2, p3, p4, p5⟩
    dsimp only [List.cons_append, List.nil_append]
    (refine tr_val (rk_move (Is.of rfl)) rfl ?_; refine tr_val (rk_extract (Is.of rfl) rfl) rfl ?_; refine tr_val (rk_extract (Is.of rfl) rfl) rfl ?_; refine tr_val (rk_assign (Is.of rfl)) rfl ?_; refine tr_val (rk_assign (Is.of rfl)) rfl ?_; refine tr_nil ?_; refine tr_then ?_; refine tr_seq ?_; refine tr_seq ?_; refine tr_region ?_; refine tr_val (rk_move (Is.of rfl)) rfl ?_; refine tr_val (rk_eqNil (Is.of rfl) (Is.of rfl)) rfl ?_; refine tr_nil ?_; refine tr_then ?_; refine tr_cond_t (Is.of rfl) ?_; refine tr_seq ?_; refine tr_region ?_; refine tr_val (rk_move (Is.of rfl)) rfl ?_; refine tr_val (rk_eql (Is.of rfl) (Is.of rfl)) rfl ?_; refine tr_val (rk_move (Is.of rfl)) rfl ?_; refine tr_vG1 rfl rfl inferInstance (fun hg hgp => (rk_move (Is.of rfl))) rfl ?_; refine tr_vG1 rfl rfl inferInstance (fun hg hgp => (rk_eql (Is.ofg hg rfl) (Is.of rfl))) rfl ?_; refine tr_val (rk_pick_and (Is.of rfl) rfl) rfl ?_; refine tr_val (rk_move (Is.of rfl)) rfl ?_; refine tr_vG1 rfl rfl inferInstance (fun hg hgp => (rk_loadB (Is.of rfl) (Take.there (Take.there (Take.there (Take.there (Take.there (Take.there Take.here)))))) norm_ (by rfl))) rfl ?_)
    simp only [show decide ((18 : Int) = 18) = true from rfl, show decide ((0 : Int) = 0) = true from rfl, Bool.and_true, beq_self_eq_true, gv, cond_true]
    with_reducible apply tr_gOn
    case hj => rfl
    case hq => rfl
    with_reducible apply tr_call
    case hr => exact rk_call (Is.of rfl) (Iss.cons (Is.of rfl) Iss.nil) inferInstance normc_
    case hd => rfl
    case ht => exact Takes.nil
    case hc =>
      intro w1 fp hm1 _ hs1
      obtain rfl : fp = [] := hs1
      exact dollyNet_c (h.n.keeps hm1.keeps) (h.e.keeps hm1.keeps) (by omega) (by omega) (by omega)
    rintro ⟨x3, y3⟩ _
    dsimp only [List.cons_append, List.nil_append]
    refine tr_rowSl (show Take _ (row 9 1 x3 ns.length (ns.map .string)) _ by exact Take.here) ?_
    rintro ax3 cx3 rfl
    refine tr_rowSl (show Take _ (row 52 4 y3 es.length (edgesL es).flatten) _ by exact Take.there Take.here) ?_
    rintro ay3 cy3 rfl
    refine tr_vG1 rfl rfl inferInstance (fun hg hgp => (rk_move (Is.of rfl))) rfl ?_
    with_reducible apply tr_gOn
    case hj => rfl
    case hq => rfl
    with_reducible apply tr_callV
    case hr => exact rk_call (Is.of rfl) (Iss.cons (Is.of rfl) (Iss.cons (Is.of rfl) Iss.nil)) inferInstance normc_
    case hd => rfl
    case hc =>
      intro w' hm'
      exact checkLoop_c (netM_rows (ns := ns) (es := es) hm' (show Take _ (row 9 1 (.slice ax3 ns.length cx3) ns.length (ns.map .string)) _ by exact Take.here) (show Take _ (row 52 4 (.slice ay3 es.length cy3) es.length (edgesL es).flatten) _ by exact Take.there Take.here)) h0 hV g (Mem.rdRow hm' (show Take _ (row 59 3 lv ax.length (arcsL ax).flatten) _ by exact Take.there (Take.there Take.here)) rfl (fun r hr => by obtain ⟨e, _, rfl⟩ := List.mem_map.1 hr; rfl) (by simp [arcsL])) p3 p1 p2 p4 p5
    (refine tr_vG1 rfl rfl inferInstance (fun hg hgp => (rk_eql (Is.of rfl) (Is.of rfl))) rfl ?_; refine tr_val (rk_pick_and (Is.of rfl) rfl) rfl ?_; refine tr_val (rk_move (Is.of rfl)) rfl ?_; refine tr_callVG1 rfl rfl (fun hg => (rk_call (Is.of rfl) Iss.nil inferInstance normc_)) rfl (fun hg w' hm' => (phase_c w')) ?_; refine tr_val (rk_pick_and (Is.of rfl) rfl) rfl ?_; refine tr_val (rk_assign (Is.of rfl)) rfl ?_; refine tr_nil ?_; refine tr_then ?_; refine tr_ret ?_; refine tr_then_ret ?_; refine tr_retE rfl (ends1 rfl rfl) ?_)
    simp
  | none =>
    obtain ⟨x, hacN, hx⟩ := law_some g hlg
    rw [hN] at hacN
    refine tr_openEx (show Take _ (accA es V c vl vm) _ by exact Take.here) ?_
    intro _ _
    rw [hacN]
    dsimp only [List.cons_append, List.nil_append]
    refine tr_rowOpen (show Take _ (row 3 1 vm V (tab V (ints1 x.2))) _ by exact Take.there Take.here) g1 ?_
    rintro gm cpm curm rfl hm1 hm2 hm3 hm4
    refine tr_rowOpen (show Take _ (row 3 1 vl V (tab V (ints1 x.1))) _ by exact Take.there Take.here) g1 ?_
    rintro gl cpl curl rfl hl1 hl2 hl3 hl4
    (refine tr_seq ?_; refine tr_region ?_; refine tr_val (rk_lss (Is.of rfl) (Is.of rfl)) rfl ?_; refine tr_nil ?_; refine tr_then ?_; refine tr_seq ?_; refine tr_cond_d (Is.of rfl) (fun hcd => (by omega)) (fun hcd => ?_); refine tr_exit ?_; refine tr_then_exit ?_; refine tr_then_exit ?_; refine tr_blk_exit ?_; refine tr_then ?_; refine tr_seq ?_; refine tr_region ?_; refine tr_val (rk_loadB (Is.of rfl) (Take.there (Take.there Take.here)) norm_ (by rfl)) rfl ?_)
    with_reducible apply tr_call
    case hr => exact rk_call (Is.of rfl) (Iss.cons (Is.of rfl) Iss.nil) inferInstance normc_
    case hd => rfl
    case ht => exact Takes.nil
    case hc =>
      intro w1 fp hm1 _ hs1
      obtain rfl : fp = [] := hs1
      exact dollyNet_c (h.n.keeps hm1.keeps) (h.e.keeps hm1.keeps) (by omega) (by omega) (by omega)
    rintro ⟨x1, y1⟩ _
    dsimp only [List.cons_append, List.nil_append]
    refine tr_rowSl (show Take _ (row 9 1 x1 ns.length (ns.map .string)) _ by exact Take.here) ?_
    rintro ax1 cx1 rfl
    refine tr_rowSl (show Take _ (row 52 4 y1 es.length (edgesL es).flatten) _ by exact Take.there Take.here) ?_
    rintro ay1 cy1 rfl
    skip
    with_reducible apply tr_call
    case hr => exact rk_call (Is.of rfl) (Iss.cons (Is.of rfl) Iss.nil) inferInstance normc_
    case hd => rfl
    case ht => exact Takes.nil
    case hc =>
      intro w1 fp hm1 _ hs1
      obtain rfl : fp = [] := hs1
      exact plan_yes (netM_rows (ns := ns) (es := es) hm1 (show Take _ (row 9 1 (.slice ax1 ns.length cx1) ns.length (ns.map .string)) _ by exact Take.here) (show Take _ (row 52 4 (.slice ay1 es.length cy1) es.length (edgesL es).flatten) _ by exact Take.there Take.here)) h0 hV g (by omega) hlg
    intro vp _
    dsimp only [List.cons_append, List.nil_append]
    refine tr_rowOpen (show Take _ (row 3 1 vp V (((List.range V).map (times (longest (lvs es V) V 0).1)).map (.int .i64))) _ by exact Take.here) g1 ?_
    rintro gp cpp curp rfl hp1 hp2 hp3 hp4
    (refine tr_val (rk_move (Is.of rfl)) rfl ?_; refine tr_val (rk_extract (Is.of rfl) rfl) rfl ?_; refine tr_val (rk_extract (Is.of rfl) rfl) rfl ?_; refine tr_val (rk_assign (Is.of rfl)) rfl ?_; refine tr_val (rk_assign (Is.of rfl)) rfl ?_; refine tr_nil ?_; refine tr_then ?_; refine tr_seq ?_; refine tr_region ?_; refine tr_val (rk_loadB (Is.of rfl) (Take.there (Take.there (Take.there (Take.there (Take.there Take.here))))) norm_ (by rfl)) rfl ?_)
    with_reducible apply tr_call
    case hr => exact rk_call (Is.of rfl) (Iss.cons (Is.of rfl) Iss.nil) inferInstance normc_
    case hd => rfl
    case ht => exact Takes.nil
    case hc =>
      intro w1 fp hm1 _ hs1
      obtain rfl : fp = [] := hs1
      exact dollyNet_c (h.n.keeps hm1.keeps) (h.e.keeps hm1.keeps) (by omega) (by omega) (by omega)
    rintro ⟨x2, y2⟩ _
    dsimp only [List.cons_append, List.nil_append]
    refine tr_rowSl (show Take _ (row 9 1 x2 ns.length (ns.map .string)) _ by exact Take.here) ?_
    rintro ax2 cx2 rfl
    refine tr_rowSl (show Take _ (row 52 4 y2 es.length (edgesL es).flatten) _ by exact Take.there Take.here) ?_
    rintro ay2 cy2 rfl
    skip
    with_reducible apply tr_callV
    case hr => exact rk_call (Is.of rfl) (Iss.cons (Is.of rfl) Iss.nil) inferInstance normc_
    case hd => rfl
    case hc =>
      intro w' hm'
      exact loop_no (netM_rows (ns := ns) (es := es) hm' (show Take _ (row 9 1 (.slice ax2 ns.length cx2) ns.length (ns.map .string)) _ by exact Take.here) (show Take _ (row 52 4 (.slice ay2 es.length cy2) es.length (edgesL es).flatten) _ by exact Take.there Take.here)) h0 hV g (by omega) hlg
    (refine tr_val (rk_move (Is.of rfl)) rfl ?_; refine tr_val (rk_extract (Is.of rfl) rfl) rfl ?_; refine tr_val (rk_extract (Is.of rfl) rfl) rfl ?_; refine tr_val (rk_assign (Is.of rfl)) rfl ?_; refine tr_val (rk_assign (Is.of rfl)) rfl ?_; refine tr_nil ?_; refine tr_then ?_; refine tr_seq ?_; refine tr_seq ?_; refine tr_region ?_; refine tr_val (rk_move (Is.of rfl)) rfl ?_; refine tr_val (rk_eqNil (Is.of rfl) (Is.of rfl)) rfl ?_; refine tr_nil ?_; refine tr_then ?_; refine tr_cond_f (Is.of rfl) ?_; refine tr_skip ?_; refine tr_then ?_; refine tr_seq ?_; refine tr_seq ?_; refine tr_region ?_; refine tr_val (rk_move (Is.of rfl)) rfl ?_; refine tr_val (rk_neq (Is.of rfl) (Is.of rfl)) rfl ?_; refine tr_val (rk_move (Is.of rfl)) rfl ?_; refine tr_vG1 rfl rfl inferInstance (fun hg hgp => (rk_move (Is.of rfl))) rfl ?_; refine tr_vG1 rfl rfl inferInstance (fun hg hgp => (rk_neq (Is.ofg hg rfl) (Is.of rfl))) rfl ?_; refine tr_val (rk_pick_or (Is.of rfl) rfl) rfl ?_; refine tr_val (rk_move (Is.of rfl)) rfl ?_; refine tr_vG1 rfl rfl inferInstance (fun hg hgp => (rk_move (Is.of rfl))) rfl ?_; refine tr_vG1 rfl rfl inferInstance (fun hg hgp => (rk_len_slice (Is.ofg hg rfl))) rfl ?_; refine tr_vG1 rfl rfl inferInstance (fun hg hgp => (rk_move (Is.of rfl))) rfl ?_; refine tr_vG1 rfl rfl inferInstance (fun hg hgp => (rk_len_slice (Is.ofg hg rfl))) rfl ?_; refine tr_vG1 rfl rfl inferInstance (fun hg hgp => (rk_neq (Is.ofg hg rfl) (Is.ofg hg rfl))) rfl ?_; refine tr_val (rk_pick_or (Is.of rfl) rfl) rfl ?_; refine tr_nil ?_; refine tr_then ?_; refine tr_cond_d (Is.of rfl) (fun hcd => (by omega)) (fun hcd => ?_); refine tr_skip ?_; refine tr_then ?_; refine tr_seq ?_; refine tr_seq ?_; refine tr_region ?_; refine tr_val (rk_move (Is.of rfl)) rfl ?_; refine tr_val (rk_len_slice (Is.of rfl)) rfl ?_; refine tr_val (rk_move (Is.of rfl)) rfl ?_; refine tr_nil ?_; refine tr_then ?_; refine tr_block ?_)
    generalize hT : times (longest (lvs es V) V 0).1 = T at *
    have htm : ∀ i < V, ((((List.range V).map T).map (Value.int .i64)) ++ curp)[i * 1]? = some (.int .i64 (T i)) := fun i hi => by
      rw [Nat.mul_one, List.getElem?_append_left (by simpa using hi)]; simp [hi]
    have hgt : ∀ (f : Nat → Int) (cur : List Value), ∀ i < V, (tab V (ints1 f) ++ cur)[i * 1]? = some (.int .i64 (f i)) := fun f cur i hi => by
      rw [List.getElem?_append_left (by rw [tab_length (sz := 1) (fun _ _ => rfl)]; omega)]
      have := tab_get (n := V) (sz := 1) (f := ints1 f) (i := i) (j := 0) (fun _ _ => rfl) hi (by omega)
      rw [Nat.add_zero] at this
      exact this
    refine tr_for (fun i : Nat => i ≤ V) (fun i => [(204, .int .i64 i), (203, .int .i64 V), (202, .slice (some ⟨gp, 0, none⟩) V cpp), (6, .slice (some ⟨gl, 0, none⟩) V cpl), (7, .slice (some ⟨gm, 0, none⟩) V cpm), (1, .pointer (some ⟨b1, 0, none⟩))])
      (fun _ => [blk gp (.cells ((((List.range V).map T).map (Value.int .i64)) ++ curp).toArray 3 (0, 0)), blk gl (.cells (tab V (ints1 x.1) ++ curl).toArray 3 (0, 0)), blk gm (.cells (tab V (ints1 x.2) ++ curm).toArray 3 (0, 0)), blk b1 (.cells #[.slice a V cap, .slice a2 es.length cap2] 25 (0, 0))]) (fun i => V - i) ?_ ?_
    · apply tr_start 0 (by omega)
      case hs1 => exact Subs.cons rfl (Subs.cons rfl (Subs.cons rfl (Subs.cons rfl (Subs.cons rfl (Subs.cons rfl Subs.nil)))))
      case ht => exact Takes.cons (Take.there (Take.there Take.here)) (Takes.cons (Take.there (Take.there (Take.there (Take.there Take.here)))) (Takes.cons (Take.there (Take.there (Take.there (Take.there Take.here)))) (Takes.cons (Take.there (Take.there (Take.there (Take.there Take.here)))) Takes.nil)))
    intro i hi
    by_cases hli : i < V
    · have e1 := htm i hli
      have e2 := hgt x.1 curl i hli
      rw [(hx i hli).1] at e2
      have e3 := hgt x.2 curm i hli
      have hwin : ∀ w' (nv ev : Value), NetM w' nv ev ns es → GivesV Try.prog 11 [.agg #[nv, ev], .int .i64 i] w' (match (longest (lvs es V) V i).1.lab 0 with
        | none => .tuple #[.agg #[.int .i64 0, .int .i64 0], .int .i64 32]
        | some L => .tuple #[.agg #[.int .i64 (T i), .int .i64 (-L)], .int .i64 0]) := fun w' nv ev hn => hT ▸ window_c hn h0 hV g (by omega) hli hlg
      cases hL : (longest (lvs es V) V i).1.lab 0 with
      | none =>
        rw [hL] at hwin
        dsimp only at hwin
        (refine tr_seq ?_; refine tr_region ?_; refine tr_val (rk_lss (Is.of rfl) (Is.of rfl)) rfl ?_; refine tr_nil ?_; refine tr_then ?_; refine tr_seq ?_; refine tr_cond_d (Is.of rfl) (fun hcd => ?_) (fun hcd => (by omega)); refine tr_skip ?_; refine tr_then ?_; refine tr_seq ?_; refine tr_block ?_; refine tr_seq ?_; refine tr_region ?_; refine tr_val (rk_move (Is.of rfl)) rfl ?_; refine tr_val (rk_indexAddr (Is.of rfl) (Is.of rfl) rfl (by omega) hcd norm1_) rfl ?_; refine tr_val (rk_load1 (Is.of rfl) (At.blkL Take.here e1)) rfl ?_; refine tr_val (rk_assign (Is.of rfl)) rfl ?_; refine tr_val (rk_assign (Is.of rfl)) rfl ?_; refine tr_nil ?_; refine tr_then ?_; refine tr_seq ?_; refine tr_region ?_; refine tr_val (rk_loadB (Is.of rfl) (Take.there (Take.there (Take.there Take.here))) norm_ (by rfl)) rfl ?_)
        with_reducible apply tr_call
        case hr => exact rk_call (Is.of rfl) (Iss.cons (Is.of rfl) Iss.nil) inferInstance normc_
        case hd => rfl
        case ht => exact Takes.nil
        case hc =>
          intro w1 fp hm1 _ hs1
          obtain rfl : fp = [] := hs1
          exact dollyNet_c (h.n.keeps hm1.keeps) (h.e.keeps hm1.keeps) (by omega) (by omega) (by omega)
        rintro ⟨x4, y4⟩ _
        dsimp only [List.cons_append, List.nil_append]
        refine tr_rowSl (show Take _ (row 9 1 x4 ns.length (ns.map .string)) _ by exact Take.here) ?_
        rintro ax4 cx4 rfl
        refine tr_rowSl (show Take _ (row 52 4 y4 es.length (edgesL es).flatten) _ by exact Take.there Take.here) ?_
        rintro ay4 cy4 rfl
        refine tr_val (rk_move (Is.of rfl)) rfl ?_
        with_reducible apply tr_callV
        case hr => exact rk_call (Is.of rfl) (Iss.cons (Is.of rfl) (Iss.cons (Is.of rfl) Iss.nil)) inferInstance normc_
        case hd => rfl
        case hc =>
          intro w' hm'
          exact hwin w' _ _ (netM_rows (ns := ns) (es := es) hm' (show Take _ (row 9 1 (.slice ax4 ns.length cx4) ns.length (ns.map .string)) _ by exact Take.here) (show Take _ (row 52 4 (.slice ay4 es.length cy4) es.length (edgesL es).flatten) _ by exact Take.there Take.here))
        (refine tr_val (rk_move (Is.of rfl)) rfl ?_; refine tr_val (rk_extract (Is.of rfl) rfl) rfl ?_; refine tr_val (rk_extract (Is.of rfl) rfl) rfl ?_; refine tr_new (rk_alloc rfl) rfl (fun _ _ => ?_); refine tr_store (Is.of rfl) (Is.of rfl) Take.here rfl rfl (okc_cons rfl (okc_cons rfl okc_nil)) (lenb rfl) norm_ ?_; refine tr_val (rk_assign (Is.of rfl)) rfl ?_; refine tr_nil ?_; refine tr_then ?_; refine tr_seq ?_)
        with_reducible refine tr_draw 31 (by kernel_rfl) ?_
        (refine any_val (rk_move (Is.of rfl)) rfl ?_; refine any_val (rk_move (Is.of rfl)) rfl ?_; refine any_val (rk_move (Is.of rfl)) rfl ?_; refine any_val (rk_indexAddr (Is.of rfl) (Is.of rfl) rfl (by omega) hcd norm1_) rfl ?_; refine any_val (rk_load1 (Is.of rfl) (At.blkL (Take.there (Take.there (Take.there (Take.there Take.here)))) e2)) rfl ?_; refine any_val (rk_neq (Is.of rfl) (Is.of rfl)) rfl ?_; refine any_val (rk_move (Is.of rfl)) rfl ?_; refine any_vG1 rfl rfl inferInstance (fun hg hgp => (rk_move (Is.of rfl))) rfl ?_; refine any_vG1 rfl rfl inferInstance (fun hg hgp => (rk_neq (Is.ofg hg rfl) (Is.of rfl))) rfl ?_; refine any_vG1 rfl rfl inferInstance (fun hg hgp => (rk_move (Is.ofg hg rfl))) rfl ?_; refine any_vG rfl rfl inferInstance (fun hg hgp => (rk_move (Is.of rfl))) rfl ?_; refine any_vG rfl rfl inferInstance (fun hg hgp => (rk_neq (Is.ofg hg rfl) (Is.of rfl))) rfl ?_; refine any_vG1 rfl rfl inferInstance (fun hg hgp => (rk_pick_and' hg (Is.ofg hg rfl) rfl)) rfl ?_; refine any_val (rk_pick_or (Is.of rfl) rfl) rfl ?_; refine any_val (rk_move (Is.of rfl)) rfl ?_; refine any_vG1 rfl rfl inferInstance (fun hg hgp => (rk_move (Is.of rfl))) rfl ?_; refine any_vG1 rfl rfl inferInstance (fun hg hgp => (rk_eql (Is.ofg hg rfl) (Is.of rfl))) rfl ?_; refine any_vG1 rfl rfl inferInstance (fun hg hgp => (rk_move (Is.ofg hg rfl))) rfl ?_; refine any_vG rfl rfl inferInstance (fun hg hgp => (rk_loadB (Is.of rfl) Take.here norm_ (by rfl))) rfl ?_; refine any_vG rfl rfl inferInstance (fun hg hgp => (rk_move (Is.of rfl))) rfl ?_; refine any_vG rfl rfl inferInstance (fun hg hgp => (rk_move (Is.of rfl))) rfl ?_; refine any_vG rfl rfl inferInstance (fun hg hgp => (rk_indexAddr (Is.ofg hg rfl) (Is.ofg hg rfl) rfl (by omega) hcd norm1_)) rfl ?_; refine any_vG rfl rfl inferInstance (fun hg hgp => (rk_load1 (Is.ofg hg rfl) (At.blkL (Take.there (Take.there (Take.there (Take.there Take.here)))) e2))) rfl ?_; refine any_vG rfl rfl inferInstance (fun hg hgp => (rk_move (Is.of rfl))) rfl ?_; refine any_vG rfl rfl inferInstance (fun hg hgp => (rk_move (Is.of rfl))) rfl ?_; refine any_vG rfl rfl inferInstance (fun hg hgp => (rk_indexAddr (Is.ofg hg rfl) (Is.ofg hg rfl) rfl (by omega) hcd norm1_)) rfl ?_; refine any_vG rfl rfl inferInstance (fun hg hgp => (rk_load1 (Is.ofg hg rfl) (At.blkL (Take.there (Take.there (Take.there (Take.there (Take.there Take.here))))) e3))) rfl ?_; refine any_vG rfl rfl inferInstance (fun hg hgp => (rk_buildL (Parts.cons (Is.ofg hg rfl) (Parts.cons (Is.ofg hg rfl) Parts.nil)) norm_)) rfl ?_; refine any_vG rfl rfl inferInstance (fun hg hgp => (rk_neqA (Is.ofg hg rfl) (Is.ofg hg rfl) (okL_int (okL_int okL_nil)) rfl)) rfl ?_; refine any_vG1 rfl rfl inferInstance (fun hg hgp => (rk_pick_and' hg (Is.ofg hg rfl) rfl)) rfl ?_; refine any_val (rk_pick_or (Is.of rfl) rfl) rfl ?_)
        with_reducible refine any_end ?_
        (refine tr_nil ?_; refine tr_then ?_; refine tr_condB (Is.of rfl) inferInstance (fun hcd => (by omega)) (fun hcd => ?_); refine tr_skip ?_; refine tr_blk_normal ?_; refine tr_then ?_; refine tr_region ?_; refine tr_val (rk_add (Is.of rfl) (Is.of rfl) (ini (by omega))) rfl ?_; refine tr_val (rk_move (Is.of rfl)) rfl ?_; refine tr_nil ?_; refine tr_then ?_)
        all_goals (try (exfalso; simp at hcd; done))
        apply tr_next (i + 1) (by omega) (by omega)
        case hs1 => exact Subs.cons rfl (Subs.cons rfl (Subs.cons rfl (Subs.cons rfl (Subs.cons rfl (Subs.cons rfl Subs.nil)))))
        case ht => exact Takes.cons (Take.there (Take.there (Take.there Take.here))) (Takes.cons (Take.there (Take.there (Take.there Take.here))) (Takes.cons (Take.there (Take.there (Take.there Take.here))) (Takes.cons (Take.there (Take.there (Take.there Take.here))) Takes.nil)))
      | some L =>
        rw [hL] at hwin
        dsimp only at hwin
        rw [(hx i hli).2 L hL] at e3
        (refine tr_seq ?_; refine tr_region ?_; refine tr_val (rk_lss (Is.of rfl) (Is.of rfl)) rfl ?_; refine tr_nil ?_; refine tr_then ?_; refine tr_seq ?_; refine tr_cond_d (Is.of rfl) (fun hcd => ?_) (fun hcd => (by omega)); refine tr_skip ?_; refine tr_then ?_; refine tr_seq ?_; refine tr_block ?_; refine tr_seq ?_; refine tr_region ?_; refine tr_val (rk_move (Is.of rfl)) rfl ?_; refine tr_val (rk_indexAddr (Is.of rfl) (Is.of rfl) rfl (by omega) hcd norm1_) rfl ?_; refine tr_val (rk_load1 (Is.of rfl) (At.blkL Take.here e1)) rfl ?_; refine tr_val (rk_assign (Is.of rfl)) rfl ?_; refine tr_val (rk_assign (Is.of rfl)) rfl ?_; refine tr_nil ?_; refine tr_then ?_; refine tr_seq ?_; refine tr_region ?_; refine tr_val (rk_loadB (Is.of rfl) (Take.there (Take.there (Take.there Take.here))) norm_ (by rfl)) rfl ?_)
        with_reducible apply tr_call
        case hr => exact rk_call (Is.of rfl) (Iss.cons (Is.of rfl) Iss.nil) inferInstance normc_
        case hd => rfl
        case ht => exact Takes.nil
        case hc =>
          intro w1 fp hm1 _ hs1
          obtain rfl : fp = [] := hs1
          exact dollyNet_c (h.n.keeps hm1.keeps) (h.e.keeps hm1.keeps) (by omega) (by omega) (by omega)
        rintro ⟨x4, y4⟩ _
        dsimp only [List.cons_append, List.nil_append]
        refine tr_rowSl (show Take _ (row 9 1 x4 ns.length (ns.map .string)) _ by exact Take.here) ?_
        rintro ax4 cx4 rfl
        refine tr_rowSl (show Take _ (row 52 4 y4 es.length (edgesL es).flatten) _ by exact Take.there Take.here) ?_
        rintro ay4 cy4 rfl
        refine tr_val (rk_move (Is.of rfl)) rfl ?_
        with_reducible apply tr_callV
        case hr => exact rk_call (Is.of rfl) (Iss.cons (Is.of rfl) (Iss.cons (Is.of rfl) Iss.nil)) inferInstance normc_
        case hd => rfl
        case hc =>
          intro w' hm'
          exact hwin w' _ _ (netM_rows (ns := ns) (es := es) hm' (show Take _ (row 9 1 (.slice ax4 ns.length cx4) ns.length (ns.map .string)) _ by exact Take.here) (show Take _ (row 52 4 (.slice ay4 es.length cy4) es.length (edgesL es).flatten) _ by exact Take.there Take.here))
        (refine tr_val (rk_move (Is.of rfl)) rfl ?_; refine tr_val (rk_extract (Is.of rfl) rfl) rfl ?_; refine tr_val (rk_extract (Is.of rfl) rfl) rfl ?_; refine tr_new (rk_alloc rfl) rfl (fun _ _ => ?_); refine tr_store (Is.of rfl) (Is.of rfl) Take.here rfl rfl (okc_cons rfl (okc_cons rfl okc_nil)) (lenb rfl) norm_ ?_; refine tr_val (rk_assign (Is.of rfl)) rfl ?_; refine tr_nil ?_; refine tr_then ?_; refine tr_seq ?_)
        with_reducible refine tr_draw 31 (by kernel_rfl) ?_
        (refine any_val (rk_move (Is.of rfl)) rfl ?_; refine any_val (rk_move (Is.of rfl)) rfl ?_; refine any_val (rk_move (Is.of rfl)) rfl ?_; refine any_val (rk_indexAddr (Is.of rfl) (Is.of rfl) rfl (by omega) hcd norm1_) rfl ?_; refine any_val (rk_load1 (Is.of rfl) (At.blkL (Take.there (Take.there (Take.there (Take.there Take.here)))) e2)) rfl ?_; refine any_val (rk_neq (Is.of rfl) (Is.of rfl)) rfl ?_; refine any_val (rk_move (Is.of rfl)) rfl ?_; refine any_vG1 rfl rfl inferInstance (fun hg hgp => (rk_move (Is.of rfl))) rfl ?_; refine any_vG1 rfl rfl inferInstance (fun hg hgp => (rk_neq (Is.ofg hg rfl) (Is.of rfl))) rfl ?_; refine any_vG1 rfl rfl inferInstance (fun hg hgp => (rk_move (Is.ofg hg rfl))) rfl ?_; refine any_vG rfl rfl inferInstance (fun hg hgp => (rk_move (Is.of rfl))) rfl ?_; refine any_vG rfl rfl inferInstance (fun hg hgp => (rk_neq (Is.ofg hg rfl) (Is.of rfl))) rfl ?_; refine any_vG1 rfl rfl inferInstance (fun hg hgp => (rk_pick_and' hg (Is.ofg hg rfl) rfl)) rfl ?_; refine any_val (rk_pick_or (Is.of rfl) rfl) rfl ?_; refine any_val (rk_move (Is.of rfl)) rfl ?_; refine any_vG1 rfl rfl inferInstance (fun hg hgp => (rk_move (Is.of rfl))) rfl ?_; refine any_vG1 rfl rfl inferInstance (fun hg hgp => (rk_eql (Is.ofg hg rfl) (Is.of rfl))) rfl ?_; refine any_vG1 rfl rfl inferInstance (fun hg hgp => (rk_move (Is.ofg hg rfl))) rfl ?_; refine any_vG rfl rfl inferInstance (fun hg hgp => (rk_loadB (Is.of rfl) Take.here norm_ (by rfl))) rfl ?_; refine any_vG rfl rfl inferInstance (fun hg hgp => (rk_move (Is.of rfl))) rfl ?_; refine any_vG rfl rfl inferInstance (fun hg hgp => (rk_move (Is.of rfl))) rfl ?_; refine any_vG rfl rfl inferInstance (fun hg hgp => (rk_indexAddr (Is.ofg hg rfl) (Is.ofg hg rfl) rfl (by omega) hcd norm1_)) rfl ?_; refine any_vG rfl rfl inferInstance (fun hg hgp => (rk_load1 (Is.ofg hg rfl) (At.blkL (Take.there (Take.there (Take.there (Take.there Take.here)))) e2))) rfl ?_; refine any_vG rfl rfl inferInstance (fun hg hgp => (rk_move (Is.of rfl))) rfl ?_; refine any_vG rfl rfl inferInstance (fun hg hgp => (rk_move (Is.of rfl))) rfl ?_; refine any_vG rfl rfl inferInstance (fun hg hgp => (rk_indexAddr (Is.ofg hg rfl) (Is.ofg hg rfl) rfl (by omega) hcd norm1_)) rfl ?_; refine any_vG rfl rfl inferInstance (fun hg hgp => (rk_load1 (Is.ofg hg rfl) (At.blkL (Take.there (Take.there (Take.there (Take.there (Take.there Take.here))))) e3))) rfl ?_; refine any_vG rfl rfl inferInstance (fun hg hgp => (rk_buildL (Parts.cons (Is.ofg hg rfl) (Parts.cons (Is.ofg hg rfl) Parts.nil)) norm_)) rfl ?_; refine any_vG rfl rfl inferInstance (fun hg hgp => (rk_neqA (Is.ofg hg rfl) (Is.ofg hg rfl) (okL_int (okL_int okL_nil)) rfl)) rfl ?_; refine any_vG1 rfl rfl inferInstance (fun hg hgp => (rk_pick_and' hg (Is.ofg hg rfl) rfl)) rfl ?_; refine any_val (rk_pick_or (Is.of rfl) rfl) rfl ?_)
        with_reducible refine any_end ?_
        (refine tr_nil ?_; refine tr_then ?_; refine tr_condB (Is.of rfl) inferInstance (fun hcd => ?_) (fun hcd => ?_); refine tr_seq ?_; refine tr_region ?_; refine tr_val (rk_assign (Is.of rfl)) rfl ?_; refine tr_nil ?_; refine tr_then ?_; refine tr_ret ?_; refine tr_blk_ret ?_; refine tr_then_ret ?_; refine tr_then_ret ?_; refine tr_blk_ret ?_; refine tr_then_ret ?_; refine tr_retE rfl (ends1 rfl rfl) ?_; rotate_left; refine tr_skip ?_; refine tr_blk_normal ?_; refine tr_then ?_; refine tr_region ?_; refine tr_val (rk_add (Is.of rfl) (Is.of rfl) (ini (by omega))) rfl ?_; refine tr_val (rk_move (Is.of rfl)) rfl ?_; refine tr_nil ?_; refine tr_then ?_; rotate_right)
        all_goals (try (exfalso; simp at hcd; done))
        apply tr_next (i + 1) (by omega) (by omega)
        case hs1 => exact Subs.cons rfl (Subs.cons rfl (Subs.cons rfl (Subs.cons rfl (Subs.cons rfl (Subs.cons rfl Subs.nil)))))
        case ht => exact Takes.cons (Take.there (Take.there (Take.there Take.here))) (Takes.cons (Take.there (Take.there (Take.there Take.here))) (Takes.cons (Take.there (Take.there (Take.there Take.here))) (Takes.cons (Take.there (Take.there (Take.there Take.here))) Takes.nil)))
    · obtain rfl : V = i := by omega
      (refine tr_seq ?_; refine tr_region ?_; refine tr_val (rk_lss (Is.of rfl) (Is.of rfl)) rfl ?_; refine tr_nil ?_; refine tr_then ?_; refine tr_seq ?_; refine tr_cond_d (Is.of rfl) (fun hcd => (by omega)) (fun hcd => ?_); refine tr_exit ?_; refine tr_then_exit ?_; refine tr_then_exit ?_; refine tr_blk_exit ?_; refine tr_then ?_; refine tr_seq ?_; refine tr_region ?_; refine tr_callV (rk_call (Is.of rfl) Iss.nil inferInstance normc_) rfl (fun w' hm' => (phase_c w')) ?_; refine tr_val (rk_assign (Is.of rfl)) rfl ?_; refine tr_nil ?_; refine tr_then ?_; refine tr_ret ?_; refine tr_retE rfl (ends1 rfl rfl) ?_)
      rfl
end Go.Proofs.A1
