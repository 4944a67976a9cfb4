/- Part of the proof: C8. -/
import Derived.Test.YtahcjhdepdhipaaC7
import Derived.Test.YtahcjhdepdhipaaGkFin
set_option linter.unusedSectionVars false
set_option linter.unusedVariables false
set_option linter.unusedSimpArgs false
namespace Go.Proofs.A1
open Go Go.SL

theorem arc_form {V : Nat} {es : List Ed} (g : Good V es) {u : Nat} {a : A} (h : a ∈ lvs es V u) : -1 ≤ a.id.1 ∧ (a.id.1 = -1 → 0 ≤ a.id.2.2 ∧ a.id.2.2 < V) ∧ (0 ≤ a.id.1 → a.id.2.2 = 0) ∧ (a.id.1 < 0 → a.id.2.1 = false) := by
  rcases mem_lv h with ⟨i, e, he, ⟨rfl, hu⟩ | ⟨rfl, hu⟩⟩ | ⟨rfl, x, hx, rfl⟩
  · exact ⟨by show (-1 : Int) ≤ i; omega, fun h => absurd (show (i : Int) = -1 from h) (by omega), fun _ => rfl, fun _ => rfl⟩
  · exact ⟨by show (-1 : Int) ≤ i; omega, fun h => absurd (show (i : Int) = -1 from h) (by omega), fun _ => rfl, fun h => absurd (show (i : Int) < 0 from h) (by omega)⟩
  · exact ⟨by show (-1 : Int) ≤ -1; omega, fun _ => ⟨by show (0 : Int) ≤ x; omega, by show (x : Int) < V; omega⟩, fun h => absurd (show (0 : Int) ≤ -1 from h) (by omega), fun _ => rfl⟩

/-- arcs, each in its net -/
def InNet (V : Nat) (es : List Ed) (ax : List A) : Prop := ∀ a ∈ ax, a ∈ lvs es V a.u ∧ a.u < V
def arcsL (ax : List A) : List (List Value) := ax.map fun a => arcL a.id
theorem arcsL_length (ax : List A) : (arcsL ax).length = ax.length := by simp [arcsL]
theorem arcsL_get {ax : List A} {k : Nat} (h : k < ax.length) : (arcsL ax)[k]? = some (arcL ax[k].id) := by simp [arcsL, h]
theorem arcsL_ne {ax : List A} {k : Nat} (h : k < ax.length) : arcsL ax ≠ [] := by intro e; have := congrArg List.length e; rw [arcsL_length] at this; simp at this; subst this; simp at h
/-- where a loop is after its first k arcs -/
def atF (ax : List A) : Nat → Int
  | 0 => match ax[ax.length - 1]? with | some a => a.v | none => 0
  | k + 1 => match ax[k]? with | some a => a.v | none => 0
def sumW (ax : List A) : Int := (ax.map A.w).sum
theorem sumW_take {ax : List A} {k : Nat} (h : k < ax.length) : sumW (ax.take (k + 1)) = sumW (ax.take k) + ax[k].w := by
  unfold sumW
  rw [List.take_add_one, List.getElem?_eq_getElem h, List.map_append, List.sum_append]
  simp
theorem sumW_bd {ax : List A} (h : ∀ a ∈ ax, -4 ≤ a.w ∧ a.w ≤ 4) : -4 * (ax.length : Int) ≤ sumW ax ∧ sumW ax ≤ 4 * ax.length := by
  induction ax with
  | nil => simp [sumW]
  | cons a ax ih =>
    have h1 := h a (by simp)
    have h2 := ih fun b hb => h b (by simp [hb])
    have e : sumW (a :: ax) = a.w + sumW ax := by simp [sumW]
    rw [e]; simp only [List.length_cons]; omega
theorem firstF_zeros : ∀ n, firstF (List.replicate n 0) = 0
  | 0 => rfl
  | n + 1 => by rw [List.replicate_succ]; simp [firstF, firstF_zeros n]

set_option maxHeartbeats 4000000 in
theorem checkLoop_c {nv ev lv : Value} {ns : List ByteArray} {es : List Ed} {V : Nat} {ax : List A} {w : World} (h : NetM w nv ev ns es) (h0 : netF ns es = 0) (hV : ns.length = V) (g : Good V es) (hl : Rd w lv 3 (arcsL ax)) (hin : InNet V es ax) (hn : 0 < ax.length) (hn64 : ax.length ≤ 64)
    (hch : ∀ (k : Nat) a, ax[k]? = some a → (a.u : Int) = atF ax k) (hpos : 0 < sumW ax) :
    GivesV Try.prog 10 [.agg #[nv, ev], lv] w (.int .i64 0) := by
  have hbd : ∀ e ∈ es, -100000 ≤ e.hi ∧ e.hi ≤ 100000 := fun e he => by have := g.ed e he; omega
  have hl' := hl
  obtain ⟨a, cap, b, o, rfl, hcap, hmax, ha, hc⟩ := hl
  rw [arcsL_length] at *
  unfold maxLen at hmax
  have hz : firstF [netF ns es, whenF (decide ((ax.length : Int) = 0)) 12, whenF (decide (64 < (ax.length : Int))) 5] = 0 := by
    rw [h0, decide_eq_false (by omega), decide_eq_false (by omega)]; rfl
  refine givesV_of_tr Try.func10 rfl rfl ?_
  (refine tr_seq ?_; refine tr_region ?_; refine tr_new (rk_box (Is.of rfl) rfl) rfl (fun _ _ => ?_); refine tr_val (rk_assign (Is.of rfl)) rfl ?_; refine tr_nil ?_; refine tr_then ?_; refine tr_seq ?_; refine tr_seq ?_; refine tr_region ?_; refine tr_val (rk_loadB (Is.of rfl) Take.here norm_ (by rfl)) rfl ?_; refine tr_callV (rk_call (Is.of rfl) (Iss.cons (Is.of rfl) Iss.nil) inferInstance normc_) rfl (fun w' hm' => (checkNet_c nv ev ns es w' (Rd.keeps (NetM.n h) (Mem.keeps hm')) (Rd.keeps (NetM.e h) (Mem.keeps hm')))) ?_; refine tr_val (rk_move (Is.of rfl)) rfl ?_; refine tr_val (rk_len_slice (Is.of rfl)) rfl ?_; refine tr_val (rk_eql (Is.of rfl) (Is.of rfl)) rfl ?_; refine tr_callV (rk_call (Is.of rfl) (Iss.cons (Is.of rfl) (Iss.cons (Is.of rfl) Iss.nil)) inferInstance normc_) rfl (fun w' hm' => (when_c _ _ w')) ?_; refine tr_val (rk_move (Is.of rfl)) rfl ?_; refine tr_val (rk_len_slice (Is.of rfl)) rfl ?_; refine tr_val (rk_gtr (Is.of rfl) (Is.of rfl)) rfl ?_; refine tr_callV (rk_call (Is.of rfl) (Iss.cons (Is.of rfl) (Iss.cons (Is.of rfl) Iss.nil)) inferInstance normc_) rfl (fun w' hm' => (when_c _ _ w')) ?_; refine tr_new (rk_sliceLit (PartsS.cons (Is.of rfl) (PartsS.cons (Is.of rfl) (PartsS.cons (Is.of rfl) PartsS.nil))) rfl rfl rfl rfl) rfl (fun _ _ => ?_); refine tr_callV (rk_call (Is.of rfl) (Iss.cons (Is.of rfl) Iss.nil) inferInstance normc_) rfl (fun w' hm' => (first_pB (Mem.rdBlk hm' Take.here rfl rfl) (IntL.cons (IntL.cons (IntL.cons IntL.nil))))) ?_; refine tr_val (rk_assign (Is.of rfl)) rfl ?_; refine tr_nil ?_; refine tr_then ?_; refine tr_seq ?_; refine tr_region ?_; refine tr_val (rk_move (Is.of rfl)) rfl ?_; refine tr_val (rk_neq (Is.of rfl) (Is.of rfl)) rfl ?_; refine tr_nil ?_; refine tr_then ?_; refine tr_cond_d (Is.of rfl) (fun hcd => (by omega)) (fun hcd => ?_); refine tr_skip ?_; refine tr_then ?_; refine tr_seq ?_; refine tr_seq ?_; refine tr_region ?_; refine tr_val (rk_move (Is.of rfl)) rfl ?_; refine tr_val (rk_loadB (Is.of rfl) (Take.there Take.here) norm_ (by rfl)) rfl ?_; refine tr_val (rk_makeFunc' (Iss.cons (Is.of rfl) Iss.nil) Iss.nil) rfl ?_)
  all_goals (try (exact absurd hz hcd))
  all_goals (try (exact absurd hz (by assumption)))
  with_reducible apply tr_call
  case hr => exact rk_call (Is.of rfl) (Iss.cons (Is.of rfl) (Iss.cons (Is.of rfl) Iss.nil)) inferInstance normc_
  case hd => rfl
  case ht => exact Takes.nil
  case hc =>
    intro w1 fp hm1 _ hs1
    obtain rfl : fp = [] := hs1
    refine mapped25 (f := 26) (first := [.agg #[nv, ev]]) (cap := []) (rows := arcsL ax) (img := List.replicate ax.length 0) (hl'.keeps hm1.keeps) rfl (by simp [arcsL_length]) (by rw [arcsL_length]; omega) ?_ ?_
    · intro r hr u hu
      obtain ⟨x, _, rfl⟩ := List.mem_map.1 hr
      simp only [arcL, List.mem_cons, List.not_mem_nil, or_false] at hu
      rcases hu with rfl | rfl | rfl <;> rfl
    · intro i r e hr he w' hk
      simp only [arcsL, List.getElem?_map, Option.map_eq_some_iff] at hr
      obtain ⟨x, hx, rfl⟩ := hr
      have hx' := hin x (List.mem_of_getElem? hx)
      have hfm := arc_form g hx'.1
      have hfa := arc_facts g hx'.1
      have he0 : e = 0 := by
        have := List.getElem?_eq_some_iff.1 he
        simpa using this.2.symm
      subst he0
      exact checkArc_c ((h.keeps hm1.keeps).keeps hk) hfa.2.2.1 hfm.1 (fun e => by rw [hV]; exact hfm.2.1 e) hfm.2.2.1 hfm.2.2.2
  intro vz _
  dsimp only [id_eq, List.cons_append, List.nil_append]
  with_reducible apply tr_callV
  case hr => exact rk_call (Is.of rfl) (Iss.cons (Is.of rfl) Iss.nil) inferInstance normc_
  case hd => rfl
  case hc =>
    intro w' hm'
    exact first_pB (Mem.rdRow1 hm' (by exact Take.here) (by simp [arcsL_length])) (IntL.map _)
  rw [firstF_zeros]
  (refine tr_val (rk_assign (Is.of rfl)) rfl ?_; refine tr_nil ?_; refine tr_then ?_; refine tr_seq ?_; refine tr_region ?_; refine tr_val (rk_move (Is.of rfl)) rfl ?_; refine tr_val (rk_neq (Is.of rfl) (Is.of rfl)) rfl ?_; refine tr_nil ?_; refine tr_then ?_; refine tr_cond_d (Is.of rfl) (fun hcd => (by omega)) (fun hcd => ?_); refine tr_skip ?_; refine tr_then ?_; refine tr_seq ?_)
  have hlast : ax.length - 1 < ax.length := by omega
  have hlx := hin _ (List.getElem_mem hlast)
  have hfl := arc_facts g hlx.1
  have hidl := hfl.2.2.1
  have ha' := ha (arcsL_ne hlast)
  have hcl : ∀ (j : Nat) (u : Value), [Value.int .i64 ax[ax.length - 1].id.1, .bool ax[ax.length - 1].id.2.1, .int .i64 ax[ax.length - 1].id.2.2][j]? = some u → w.cell? ⟨b, o + ((ax.length : Int) - 1).toNat * 3 + j, none⟩ = some u := by
    rw [show ((ax.length : Int) - 1).toNat = ax.length - 1 by omega]
    exact (hc _ _ (arcsL_get hlast)).2
  with_reducible refine tr_draw 10 (by kernel_rfl) ?_
  (refine any_val (rk_loadB (Is.of rfl) (Take.there (Take.there Take.here)) norm_ (by rfl)) rfl ?_; refine any_val (rk_move (Is.of rfl)) rfl ?_; refine any_val (rk_move (Is.of rfl)) rfl ?_; refine any_val (rk_len_slice (Is.of rfl)) rfl ?_; refine any_val (rk_sub (Is.of rfl) (Is.of rfl) (ini (by omega))) rfl ?_; refine any_val (rk_indexAddr (Is.of rfl) (Is.of rfl) ha' (by omega) (by omega) norm1_) rfl ?_; refine any_val (rk_loadN (Is.of rfl) (Ats.base hcl rfl) rfl) rfl ?_; refine any_call (rk_call (Is.of rfl) (Iss.cons (Is.of rfl) (Iss.cons (Is.of rfl) Iss.nil)) inferInstance normc_) rfl (fun w' hm' => (ends_c nv ev es _ _ _ w' (Rd.keeps (NetM.e h) (Mem.keeps hm')) hidl)) ?_; refine any_val (rk_index (Is.of rfl) (Is.of rfl) (by omega) (by omega) norm_) rfl ?_; refine any_val (rk_assign (Is.of rfl)) rfl ?_)
  simp only [hfl.2.2.2.1]
  with_reducible refine any_end ?_
  (refine tr_val (rk_assign (Is.of rfl)) rfl ?_; refine tr_nil ?_; refine tr_then ?_; refine tr_seq ?_; refine tr_seq ?_; refine tr_region ?_; refine tr_val (rk_move (Is.of rfl)) rfl ?_; refine tr_val (rk_len_slice (Is.of rfl)) rfl ?_; refine tr_val (rk_move (Is.of rfl)) rfl ?_; refine tr_nil ?_; refine tr_then ?_; refine tr_block ?_)
  rename_i b2 hb2 bl hbl q1 q2
  have hat0 : (ax[ax.length - 1].v : Int) = atF ax 0 := by simp [atF, hlast]
  rw [hat0]
  refine tr_for (fun k : Nat => k ≤ ax.length) (fun k => [(46, .int .i64 k), (45, .int .i64 ax.length), (44, .slice a ax.length cap), (7, .int .i64 (sumW (ax.take k))), (8, .int .i64 (atF ax k)), (2, .pointer (some ⟨b2, 0, none⟩))]) (fun _ => [blk b2 (.cells #[nv, ev] 37 (0, 0))]) (fun k => ax.length - k) ?_ ?_
  · apply tr_start 0 (by omega)
    case hs1 => exact Subs.cons rfl (Subs.cons rfl (Subs.cons rfl (Subs.cons rfl (Subs.cons rfl (Subs.cons rfl Subs.nil)))))
    case ht => exact Takes.cons (Take.there (Take.there Take.here)) Takes.nil
  intro k hk
  by_cases hlt : k < ax.length
  · have hx' := hin _ (List.getElem_mem hlt)
    have hfa := arc_facts g hx'.1
    have hid := hfa.2.2.1
    have hends := hfa.2.2.2.1
    have hbound := hfa.2.2.2.2
    have hw4 := g.w4 hx'.1
    have hak := hch k _ (List.getElem?_eq_getElem hlt)
    have hsb := sumW_bd (ax := ax.take k) (fun a ha => by have := g.w4 (hin a (List.mem_of_mem_take ha)).1; omega)
    have hlk : (ax.take k).length ≤ 64 := by simp; omega
    have hbw1 : -4 ≤ boundF es ax[k].id.1 ax[k].id.2.1 := by rw [hbound]; omega
    have hbw2 : boundF es ax[k].id.1 ax[k].id.2.1 ≤ 4 := by rw [hbound]; omega
    have hcell : ∀ (j : Nat) (u : Value), [Value.int .i64 ax[k].id.1, .bool ax[k].id.2.1, .int .i64 ax[k].id.2.2][j]? = some u → w.cell? ⟨b, o + k * 3 + j, none⟩ = some u := (hc _ _ (arcsL_get hlt)).2
    have hsk := sumW_take hlt
    have hatk : atF ax (k + 1) = ax[k].v := by simp [atF, hlt]
    (refine tr_seq ?_; refine tr_region ?_; refine tr_val (rk_lss (Is.of rfl) (Is.of rfl)) rfl ?_; refine tr_nil ?_; refine tr_then ?_; refine tr_seq ?_; refine tr_cond_d (Is.of rfl) (fun hcd => ?_) (fun hcd => (by omega)); refine tr_skip ?_; refine tr_then ?_; refine tr_seq ?_; refine tr_block ?_; refine tr_seq ?_; refine tr_region ?_; refine tr_val (rk_indexAddr (Is.of rfl) (Is.of rfl) ha' (by omega) hcd norm1_) rfl ?_; refine tr_val (rk_loadN (Is.of rfl) (Ats.base hcell rfl) rfl) rfl ?_; refine tr_new (rk_alloc rfl) rfl (fun _ _ => ?_); refine tr_store (Is.of rfl) (Is.of rfl) Take.here rfl rfl (okc_cons rfl (okc_cons rfl (okc_cons rfl okc_nil))) (lenb rfl) norm_ ?_; refine tr_nil ?_; refine tr_then ?_; refine tr_seq ?_; refine tr_region ?_; refine tr_val (rk_loadB (Is.of rfl) (Take.there Take.here) norm_ (by rfl)) rfl ?_; refine tr_val (rk_loadB (Is.of rfl) Take.here norm_ (by rfl)) rfl ?_; refine tr_callV (rk_call (Is.of rfl) (Iss.cons (Is.of rfl) (Iss.cons (Is.of rfl) Iss.nil)) inferInstance normc_) rfl (fun w' hm' => (ends_c nv ev es _ _ _ w' (Rd.keeps (NetM.e h) (Mem.keeps hm')) hid)) ?_; refine tr_new (rk_alloc rfl) rfl (fun _ _ => ?_); refine tr_store (Is.of rfl) (Is.of rfl) Take.here rfl rfl (okc_cons rfl (okc_cons rfl okc_nil)) (lenb rfl) norm_ ?_; refine tr_nil ?_; refine tr_then ?_; refine tr_seq ?_; refine tr_seq ?_; refine tr_region ?_; refine tr_val (rk_indexAddrA (Is.of rfl) (Is.of rfl) (by omega) (by omega) norm1_) rfl ?_; refine tr_val (rk_load1 (Is.of rfl) (At.lit Take.here rfl)) rfl ?_; refine tr_val (rk_move (Is.of rfl)) rfl ?_; refine tr_val (rk_neq (Is.of rfl) (Is.of rfl)) rfl ?_; refine tr_nil ?_; refine tr_then ?_; refine tr_cond_d (Is.of rfl) (fun hcd => ?_) (fun hcd => ?_); refine tr_seq ?_; refine tr_region ?_; refine tr_val (rk_assign (Is.of rfl)) rfl ?_; refine tr_nil ?_; refine tr_then ?_; refine tr_ret ?_; refine tr_then_ret ?_; refine tr_blk_ret ?_; refine tr_then_ret ?_; refine tr_then_ret ?_; refine tr_blk_ret ?_; refine tr_then_ret ?_; refine tr_retE rfl (ends1 rfl rfl) ?_; rotate_left; refine tr_skip ?_; refine tr_then ?_; rotate_right)
    · rw [hends] at hcd; exact absurd hak hcd
    with_reducible refine tr_draw 8 (by kernel_rfl) ?_
    (refine any_val (rk_move (Is.of rfl)) rfl ?_; refine any_val (rk_loadB (Is.of rfl) (Take.there (Take.there Take.here)) norm_ (by rfl)) rfl ?_; refine any_val (rk_loadB (Is.of rfl) (Take.there Take.here) norm_ (by rfl)) rfl ?_; refine any_call (rk_call (Is.of rfl) (Iss.cons (Is.of rfl) (Iss.cons (Is.of rfl) Iss.nil)) inferInstance normc_) rfl (fun w' hm' => (bound_c nv ev es _ _ _ w' (Rd.keeps (NetM.e h) (Mem.keeps hm')) hid hbd)) ?_; refine any_val (rk_add (Is.of rfl) (Is.of rfl) (ini (by omega))) rfl ?_; refine any_val (rk_indexAddrA (Is.of rfl) (Is.of rfl) (by omega) (by omega) norm1_) rfl ?_; refine any_val (rk_load1 (Is.of rfl) (At.lit Take.here rfl)) rfl ?_; refine any_val (rk_assign (Is.of rfl)) rfl ?_)
    simp only [hends, hbound]
    with_reducible refine any_end ?_
    (refine tr_val (rk_assign (Is.of rfl)) rfl ?_; refine tr_nil ?_; refine tr_blk_normal ?_; refine tr_then ?_; refine tr_region ?_; refine tr_val (rk_add (Is.of rfl) (Is.of rfl) (ini (by omega))) rfl ?_; refine tr_val (rk_move (Is.of rfl)) rfl ?_; refine tr_nil ?_; refine tr_then ?_)
    apply tr_next (k + 1) (by omega) (by omega)
    case hs1 =>
      rw [hsk, hatk]
      exact Subs.cons rfl (Subs.cons rfl (Subs.cons rfl (Subs.cons rfl (Subs.cons rfl (Subs.cons rfl Subs.nil)))))
    case ht => exact Takes.cons (Take.there (Take.there Take.here)) Takes.nil
  · obtain rfl : k = ax.length := by omega
    rw [List.take_of_length_le (Nat.le_refl _)]
    (refine tr_seq ?_; refine tr_region ?_; refine tr_val (rk_lss (Is.of rfl) (Is.of rfl)) rfl ?_; refine tr_nil ?_; refine tr_then ?_; refine tr_seq ?_; refine tr_cond_d (Is.of rfl) (fun hcd => (by omega)) (fun hcd => ?_); refine tr_exit ?_; refine tr_then_exit ?_; refine tr_then_exit ?_; refine tr_blk_exit ?_; refine tr_then ?_; refine tr_seq ?_; refine tr_region ?_; refine tr_val (rk_move (Is.of rfl)) rfl ?_; refine tr_val (rk_leq (Is.of rfl) (Is.of rfl)) rfl ?_; refine tr_callV (rk_call (Is.of rfl) (Iss.cons (Is.of rfl) (Iss.cons (Is.of rfl) Iss.nil)) inferInstance normc_) rfl (fun w' hm' => (when_c _ _ w')) ?_; refine tr_val (rk_assign (Is.of rfl)) rfl ?_; refine tr_nil ?_; refine tr_then ?_; refine tr_ret ?_; refine tr_retE rfl (ends1 rfl rfl) ?_)
    rw [decide_eq_false (by omega)]; rfl
end Go.Proofs.A1
