/- Part of the proof: B3. -/
import Derived.Test.YtahcjhdepdhipaaB2
import Derived.Test.YtahcjhdepdhipaaGkFin
set_option linter.unusedSectionVars false
set_option linter.unusedVariables false
set_option linter.unusedSimpArgs false
namespace Go.Proofs.A1
open Go Go.SL

/-- the first error of some, by number -/
def seqF (f : Nat → Int) (k n : Nat) : Int := firstF ((List.range' k (n - k)).map f)
theorem seqF_at {f : Nat → Int} {k n : Nat} (h : k < n) : seqF f k n = if f k ≠ 0 then f k else seqF f (k + 1) n := by
  unfold seqF
  rw [show n - k = (n - (k + 1)) + 1 by omega, List.range'_succ, List.map_cons]
  rfl
theorem seqF_end {f : Nat → Int} {k n : Nat} (h : n ≤ k) : seqF f k n = 0 := by
  unfold seqF
  rw [show n - k = 0 by omega]; rfl

def edgesL (es : List Ed) : List (List Value) := es.map Ed.cells
theorem edgesL_length (es : List Ed) : (edgesL es).length = es.length := by simp [edgesL]
theorem edgesL_get {es : List Ed} {k : Nat} (h : k < es.length) : (edgesL es)[k]? = some es[k].cells := by simp [edgesL, h]
theorem edgesL_ne {es : List Ed} {k : Nat} (h : k < es.length) : edgesL es ≠ [] := by intro e; have := congrArg List.length e; rw [edgesL_length] at this; simp at this; subst this; simp at h
theorem rd_take_strs {w : World} {a : Option Addr} {cap b o k : Nat} {ns : List ByteArray} (h1 : ns.length ≤ cap) (h2 : cap ≤ maxLen) (h3 : strs ns ≠ [] → a = some ⟨b, o, none⟩) (h4 : ∀ i r, (strs ns)[i]? = some r → r.length = 1 ∧ ∀ j u, r[j]? = some u → w.cell? ⟨b, o + i * 1 + j, none⟩ = some u) (hk : k ≤ ns.length) :
    Rd w (Go.sliced a 0 k cap 1) 1 (strs (ns.take k)) := by
  have h : Rd w (.slice a ns.length cap) 1 (strs ns) := ⟨a, cap, b, o, by rw [strs_length], by rw [strs_length]; exact h1, h2, h3, h4⟩
  have := h.sliced (l := 0) (m := k) (Nat.zero_le _) hk
  simpa [strs, List.map_take] using this
def nmF (ns : List ByteArray) (i : Nat) : Int := match ns[i]? with
  | some s => firstF [whenF (!nameF s) 8, whenF (hasF (ns.take i) s) 9]
  | none => 0
def egF (es : List Ed) (n : Int) (i : Nat) : Int := match es[i]? with
  | some e => edgeF e n
  | none => 0
def netF (ns : List ByteArray) (es : List Ed) : Int :=
  if firstF [whenF (decide ((ns.length : Int) = 0)) 12, whenF (decide (12 < (ns.length : Int))) 5] ≠ 0 then firstF [whenF (decide ((ns.length : Int) = 0)) 12, whenF (decide (12 < (ns.length : Int))) 5] else
  if seqF (nmF ns) 0 ns.length ≠ 0 then seqF (nmF ns) 0 ns.length else
  if 24 < (es.length : Int) then 5 else seqF (egF es ns.length) 0 es.length

theorem checkNet_q (nv ev : Value) (ns : List ByteArray) (es : List Ed) (w : World) (h1 : Rd w nv 1 (strs ns)) (h2 : Rd w ev 4 (edgesL es)) : GivesV Try.prog 5 [.agg #[nv, ev]] w (.int .i64 (netF ns es)) := by
  obtain ⟨a, cap, b, o, rfl, hcap, hmax, ha, hc⟩ := h1
  obtain ⟨a2, cap2, b2, o2, rfl, hcap2, hmax2, ha2, hc2⟩ := h2
  rw [strs_length] at *
  rw [edgesL_length] at *
  unfold maxLen at hmax hmax2
  refine givesV_of_tr Try.func5 rfl rfl ?_
  (refine tr_seq ?_; refine tr_region ?_; refine tr_new (rk_box (Is.of rfl) rfl) rfl (fun _ _ => ?_); refine tr_val (rk_assign (Is.of rfl)) rfl ?_; refine tr_nil ?_; refine tr_then ?_; refine tr_seq ?_; refine tr_seq ?_)
  with_reducible refine tr_draw 10 (by kernel_rfl) ?_
  (refine any_val (rk_fieldAddr (Is.of rfl) norm0_) rfl ?_; refine any_val (rk_load1 (Is.of rfl) (At.lit Take.here rfl)) rfl ?_; refine any_val (rk_len_slice (Is.of rfl)) rfl ?_; refine any_val (rk_eql (Is.of rfl) (Is.of rfl)) rfl ?_; refine any_call (rk_call (Is.of rfl) (Iss.cons (Is.of rfl) (Iss.cons (Is.of rfl) Iss.nil)) inferInstance normc_) rfl (fun w' hm' => (when_q _ _ w')) ?_; refine any_val (rk_fieldAddr (Is.of rfl) norm0_) rfl ?_; refine any_val (rk_load1 (Is.of rfl) (At.lit Take.here rfl)) rfl ?_; refine any_val (rk_len_slice (Is.of rfl)) rfl ?_; refine any_val (rk_gtr (Is.of rfl) (Is.of rfl)) rfl ?_; refine any_call (rk_call (Is.of rfl) (Iss.cons (Is.of rfl) (Iss.cons (Is.of rfl) Iss.nil)) inferInstance normc_) rfl (fun w' hm' => (when_q _ _ w')) ?_)
  with_reducible refine any_end ?_
  (refine tr_new (rk_sliceLit (PartsS.cons (Is.of rfl) (PartsS.cons (Is.of rfl) PartsS.nil)) rfl rfl rfl rfl) rfl (fun _ _ => ?_); refine tr_callV (rk_call (Is.of rfl) (Iss.cons (Is.of rfl) Iss.nil) inferInstance normc_) rfl (fun w' hm' => (first_qB (Mem.rdBlk hm' Take.here rfl rfl) (IntL.cons (IntL.cons IntL.nil)))) ?_; refine tr_val (rk_assign (Is.of rfl)) rfl ?_; refine tr_nil ?_; refine tr_then ?_; refine tr_seq ?_; refine tr_region ?_; refine tr_val (rk_move (Is.of rfl)) rfl ?_; refine tr_val (rk_neq (Is.of rfl) (Is.of rfl)) rfl ?_; refine tr_nil ?_; refine tr_then ?_; refine tr_cond_d (Is.of rfl) (fun hcd => ?_) (fun hcd => ?_); refine tr_seq ?_; refine tr_region ?_; refine tr_val (rk_move (Is.of rfl)) rfl ?_; refine tr_val (rk_assign (Is.of rfl)) rfl ?_; refine tr_nil ?_; refine tr_then ?_; refine tr_ret ?_; refine tr_then_ret ?_; refine tr_retE rfl (ends1 rfl rfl) ?_; rotate_left; refine tr_skip ?_; refine tr_then ?_; refine tr_seq ?_; refine tr_seq ?_; refine tr_region ?_; refine tr_val (rk_assign (Is.of rfl)) rfl ?_; refine tr_nil ?_; refine tr_then ?_; refine tr_block ?_; rotate_right)
  · unfold netF; rw [if_pos hcd]
  rename_i bx hbx bl hbl
  have hN : netF ns es = if seqF (nmF ns) 0 ns.length ≠ 0 then seqF (nmF ns) 0 ns.length else if 24 < (es.length : Int) then 5 else seqF (egF es ns.length) 0 es.length := by
    unfold netF; rw [if_neg hcd]
  have hn12 : ns.length ≤ 12 := by
    false_or_by_contra
    exact hcd (by rw [decide_eq_true (p := 12 < (ns.length : Int)) (by omega), decide_eq_false (p := (ns.length : Int) = 0) (by omega)]; decide)
  rw [hN]
  refine tr_for (fun k : Nat => k ≤ ns.length ∧ seqF (nmF ns) 0 ns.length = seqF (nmF ns) k ns.length) (fun k => [(4, .int .i64 k), (1, .pointer (some ⟨bx, 0, none⟩))]) (fun _ => [blk bx (.cells #[.slice a ns.length cap, .slice a2 es.length cap2] 25 (0, 0))]) (fun k => ns.length - k) ?_ ?_
  · apply tr_start 0 ⟨by omega, rfl⟩
    case hs1 => exact Subs.cons rfl (Subs.cons rfl Subs.nil)
    case ht => (try simp only [List.take_zero, List.map_nil, List.nil_append]); exact Takes.cons (Take.there Take.here) Takes.nil
  intro k ⟨hk, hf⟩
  by_cases hlt : k < ns.length
  · have ha' := ha (strs_ne hlt)
    have hcell := rd1 hc (strs_get hlt)
    have hs := seqF_at (f := nmF ns) hlt
    have hfk : nmF ns k = firstF [whenF (!nameF ns[k]) 8, whenF (hasF (ns.take k) ns[k]) 9] := by simp [nmF, hlt]
    have hrd := rd_take_strs hcap hmax ha hc hk
    (refine tr_seq ?_; refine tr_seq ?_; refine tr_region ?_; refine tr_val (rk_move (Is.of rfl)) rfl ?_; refine tr_val (rk_fieldAddr (Is.of rfl) norm0_) rfl ?_; refine tr_val (rk_load1 (Is.of rfl) (At.lit Take.here rfl)) rfl ?_; refine tr_val (rk_len_slice (Is.of rfl)) rfl ?_; refine tr_val (rk_lss (Is.of rfl) (Is.of rfl)) rfl ?_; refine tr_nil ?_; refine tr_then ?_; refine tr_cond_d (Is.of rfl) (fun hcd => ?_) (fun hcd => (by omega)); refine tr_skip ?_; refine tr_then ?_; refine tr_seq ?_; refine tr_block ?_; refine tr_seq ?_)
    with_reducible refine tr_draw 17 (by kernel_rfl) ?_
    (refine any_val (rk_fieldAddr (Is.of rfl) norm0_) rfl ?_; refine any_val (rk_load1 (Is.of rfl) (At.lit Take.here rfl)) rfl ?_; refine any_val (rk_move (Is.of rfl)) rfl ?_; refine any_val (rk_indexAddr (Is.of rfl) (Is.of rfl) ha' (by omega) hcd norm1_) rfl ?_; refine any_val (rk_load1 (Is.of rfl) (At.base hcell rfl)) rfl ?_; refine any_call (rk_call (Is.of rfl) (Iss.cons (Is.of rfl) Iss.nil) inferInstance normc_) rfl (fun w' hm' => (checkName_q _ w')) ?_; refine any_val (rk_fieldAddr (Is.of rfl) norm0_) rfl ?_; refine any_val (rk_load1 (Is.of rfl) (At.lit Take.here rfl)) rfl ?_; refine any_val (rk_move (Is.of rfl)) rfl ?_; refine any_val (rk_slice_h (Is.of rfl) (Is.of rfl) (by omega) (by omega)) rfl ?_; refine any_val (rk_fieldAddr (Is.of rfl) norm0_) rfl ?_; refine any_val (rk_load1 (Is.of rfl) (At.lit Take.here rfl)) rfl ?_; refine any_val (rk_move (Is.of rfl)) rfl ?_; refine any_val (rk_indexAddr (Is.of rfl) (Is.of rfl) ha' (by omega) hcd norm1_) rfl ?_; refine any_val (rk_load1 (Is.of rfl) (At.base hcell rfl)) rfl ?_; refine any_call (rk_call (Is.of rfl) (Iss.cons (Is.of rfl) (Iss.cons (Is.of rfl) Iss.nil)) inferInstance normc_) rfl (fun w' hm' => (hasWord_q _ _ _ w' (Rd.keeps hrd (Mem.keeps hm')))) ?_; refine any_call (rk_call (Is.of rfl) (Iss.cons (Is.of rfl) (Iss.cons (Is.of rfl) Iss.nil)) inferInstance normc_) rfl (fun w' hm' => (when_q _ _ w')) ?_)
    with_reducible refine any_end ?_
    (refine tr_new (rk_sliceLit (PartsS.cons (Is.of rfl) (PartsS.cons (Is.of rfl) PartsS.nil)) rfl rfl rfl rfl) rfl (fun _ _ => ?_); refine tr_callV (rk_call (Is.of rfl) (Iss.cons (Is.of rfl) Iss.nil) inferInstance normc_) rfl (fun w' hm' => (first_qB (Mem.rdBlk hm' Take.here rfl rfl) (IntL.cons (IntL.cons IntL.nil)))) ?_; refine tr_val (rk_assign (Is.of rfl)) rfl ?_; refine tr_nil ?_; refine tr_then ?_; refine tr_seq ?_; refine tr_region ?_; refine tr_val (rk_move (Is.of rfl)) rfl ?_; refine tr_val (rk_neq (Is.of rfl) (Is.of rfl)) rfl ?_; refine tr_nil ?_; refine tr_then ?_; refine tr_cond_d (Is.of rfl) (fun hcd => ?_) (fun hcd => ?_); refine tr_seq ?_; refine tr_region ?_; refine tr_val (rk_move (Is.of rfl)) rfl ?_; refine tr_val (rk_assign (Is.of rfl)) rfl ?_; refine tr_nil ?_; refine tr_then ?_; refine tr_ret ?_; refine tr_blk_ret ?_; refine tr_then_ret ?_; refine tr_then_ret ?_; refine tr_blk_ret ?_; refine tr_then_ret ?_; refine tr_retE rfl (ends1 rfl rfl) ?_; rotate_left; refine tr_skip ?_; refine tr_blk_normal ?_; refine tr_then ?_; refine tr_region ?_; refine tr_val (rk_move (Is.of rfl)) rfl ?_; refine tr_val (rk_add (Is.of rfl) (Is.of rfl) (ini (by omega))) rfl ?_; refine tr_val (rk_assign (Is.of rfl)) rfl ?_; refine tr_nil ?_; refine tr_then ?_; rotate_right)
    · rename_i hcd
      rw [← hfk] at hcd
      have hz := hs; rw [if_pos hcd] at hz
      rw [hf, hz, if_pos hcd, hfk]
    · rename_i hcd
      rw [← hfk] at hcd
      have hz := hs; rw [if_neg hcd] at hz
      apply tr_next (k + 1) ⟨by omega, by rw [hf, hz]⟩ (by omega)
      case hs1 => exact Subs.cons rfl (Subs.cons rfl Subs.nil)
      case ht => (try simp only [List.take_zero, List.map_nil, List.nil_append]); exact Takes.cons (Take.there Take.here) Takes.nil
  · have h0 : seqF (nmF ns) 0 ns.length = 0 := by rw [hf]; exact seqF_end (by omega)
    rw [h0, if_neg (by omega)]
    (refine tr_seq ?_; refine tr_seq ?_; refine tr_region ?_; refine tr_val (rk_move (Is.of rfl)) rfl ?_; refine tr_val (rk_fieldAddr (Is.of rfl) norm0_) rfl ?_; refine tr_val (rk_load1 (Is.of rfl) (At.lit Take.here rfl)) rfl ?_; refine tr_val (rk_len_slice (Is.of rfl)) rfl ?_; refine tr_val (rk_lss (Is.of rfl) (Is.of rfl)) rfl ?_; refine tr_nil ?_; refine tr_then ?_; refine tr_cond_d (Is.of rfl) (fun hcd => (by omega)) (fun hcd => ?_); refine tr_exit ?_; refine tr_then_exit ?_; refine tr_then_exit ?_; refine tr_blk_exit ?_; refine tr_then ?_; refine tr_seq ?_; refine tr_seq ?_; refine tr_region ?_; refine tr_val (rk_fieldAddr (Is.of rfl) norm0_) rfl ?_; refine tr_val (rk_load1 (Is.of rfl) (At.lit Take.here rfl)) rfl ?_; refine tr_val (rk_len_slice (Is.of rfl)) rfl ?_; refine tr_val (rk_gtr (Is.of rfl) (Is.of rfl)) rfl ?_; refine tr_nil ?_; refine tr_then ?_; refine tr_cond_d (Is.of rfl) (fun hcd => ?_) (fun hcd => ?_); refine tr_seq ?_; refine tr_region ?_; refine tr_val (rk_assign (Is.of rfl)) rfl ?_; refine tr_nil ?_; refine tr_then ?_; refine tr_ret ?_; refine tr_then_ret ?_; refine tr_retE rfl (ends1 rfl rfl) ?_; rotate_left; refine tr_skip ?_; refine tr_then ?_; refine tr_seq ?_; refine tr_seq ?_; refine tr_region ?_; refine tr_val (rk_assign (Is.of rfl)) rfl ?_; refine tr_nil ?_; refine tr_then ?_; refine tr_block ?_; rotate_right)
    · rename_i hcd
      rw [if_pos hcd]
    rename_i hcd
    rw [if_neg hcd]
    refine tr_for (fun k : Nat => k ≤ es.length ∧ seqF (egF es ns.length) 0 es.length = seqF (egF es ns.length) k es.length) (fun k => [(6, .int .i64 k), (1, .pointer (some ⟨bx, 0, none⟩))]) (fun _ => [blk bx (.cells #[.slice a ns.length cap, .slice a2 es.length cap2] 25 (0, 0))]) (fun k => es.length - k) ?_ ?_
    · apply tr_start 0 ⟨by omega, rfl⟩
      case hs1 => exact Subs.cons rfl (Subs.cons rfl Subs.nil)
      case ht => (try simp only [List.take_zero, List.map_nil, List.nil_append]); exact Takes.cons Take.here Takes.nil
    intro j ⟨hj, hg⟩
    by_cases hjt : j < es.length
    · have ha' := ha2 (edgesL_ne hjt)
      have hcell := (hc2 j _ (edgesL_get hjt)).2
      have hs := seqF_at (f := egF es ns.length) hjt
      have hfk : egF es ns.length j = edgeF es[j] ns.length := by simp [egF, hjt]
      (refine tr_seq ?_; refine tr_seq ?_; refine tr_region ?_; refine tr_val (rk_move (Is.of rfl)) rfl ?_; refine tr_val (rk_fieldAddr (Is.of rfl) norm0_) rfl ?_; refine tr_val (rk_load1 (Is.of rfl) (At.lit Take.here rfl)) rfl ?_; refine tr_val (rk_len_slice (Is.of rfl)) rfl ?_; refine tr_val (rk_lss (Is.of rfl) (Is.of rfl)) rfl ?_; refine tr_nil ?_; refine tr_then ?_; refine tr_cond_d (Is.of rfl) (fun hcd => ?_) (fun hcd => (by omega)); refine tr_skip ?_; refine tr_then ?_; refine tr_seq ?_; refine tr_block ?_; refine tr_seq ?_)
      with_reducible refine tr_draw 9 (by kernel_rfl) ?_
      (refine any_val (rk_fieldAddr (Is.of rfl) norm0_) rfl ?_; refine any_val (rk_load1 (Is.of rfl) (At.lit Take.here rfl)) rfl ?_; refine any_val (rk_move (Is.of rfl)) rfl ?_; refine any_val (rk_indexAddr (Is.of rfl) (Is.of rfl) ha' (by omega) hcd norm1_) rfl ?_; refine any_val (rk_loadN (Is.of rfl) (Ats.base hcell rfl) rfl) rfl ?_; refine any_val (rk_fieldAddr (Is.of rfl) norm0_) rfl ?_; refine any_val (rk_load1 (Is.of rfl) (At.lit Take.here rfl)) rfl ?_; refine any_val (rk_len_slice (Is.of rfl)) rfl ?_; refine any_call (rk_call (Is.of rfl) (Iss.cons (Is.of rfl) (Iss.cons (Is.of rfl) Iss.nil)) inferInstance normc_) rfl (fun w' hm' => (edge_q _ _ w')) ?_)
      with_reducible refine any_end ?_
      (refine tr_val (rk_assign (Is.of rfl)) rfl ?_; refine tr_nil ?_; refine tr_then ?_; refine tr_seq ?_; refine tr_region ?_; refine tr_val (rk_move (Is.of rfl)) rfl ?_; refine tr_val (rk_neq (Is.of rfl) (Is.of rfl)) rfl ?_; refine tr_nil ?_; refine tr_then ?_; refine tr_cond_d (Is.of rfl) (fun hcd => ?_) (fun hcd => ?_); refine tr_seq ?_; refine tr_region ?_; refine tr_val (rk_move (Is.of rfl)) rfl ?_; refine tr_val (rk_assign (Is.of rfl)) rfl ?_; refine tr_nil ?_; refine tr_then ?_; refine tr_ret ?_; refine tr_blk_ret ?_; refine tr_then_ret ?_; refine tr_then_ret ?_; refine tr_blk_ret ?_; refine tr_then_ret ?_; refine tr_retE rfl (ends1 rfl rfl) ?_; rotate_left; refine tr_skip ?_; refine tr_blk_normal ?_; refine tr_then ?_; refine tr_region ?_; refine tr_val (rk_move (Is.of rfl)) rfl ?_; refine tr_val (rk_add (Is.of rfl) (Is.of rfl) (ini (by omega))) rfl ?_; refine tr_val (rk_assign (Is.of rfl)) rfl ?_; refine tr_nil ?_; refine tr_then ?_; rotate_right)
      · rename_i hcd
        rw [← hfk] at hcd
        rw [hg, hs, if_pos hcd, hfk]
      · rename_i hcd
        rw [← hfk] at hcd
        apply tr_next (j + 1) ⟨by omega, by rw [hg, hs, if_neg hcd]⟩ (by omega)
        case hs1 => exact Subs.cons rfl (Subs.cons rfl Subs.nil)
        case ht => (try simp only [List.take_zero, List.map_nil, List.nil_append]); exact Takes.cons Take.here Takes.nil
    · (refine tr_seq ?_; refine tr_seq ?_; refine tr_region ?_; refine tr_val (rk_move (Is.of rfl)) rfl ?_; refine tr_val (rk_fieldAddr (Is.of rfl) norm0_) rfl ?_; refine tr_val (rk_load1 (Is.of rfl) (At.lit Take.here rfl)) rfl ?_; refine tr_val (rk_len_slice (Is.of rfl)) rfl ?_; refine tr_val (rk_lss (Is.of rfl) (Is.of rfl)) rfl ?_; refine tr_nil ?_; refine tr_then ?_; refine tr_cond_d (Is.of rfl) (fun hcd => (by omega)) (fun hcd => ?_); refine tr_exit ?_; refine tr_then_exit ?_; refine tr_then_exit ?_; refine tr_blk_exit ?_; refine tr_then ?_; refine tr_seq ?_; refine tr_region ?_; refine tr_val (rk_assign (Is.of rfl)) rfl ?_; refine tr_nil ?_; refine tr_then ?_; refine tr_ret ?_; refine tr_retE rfl (ends1 rfl rfl) ?_)
      rw [hg, seqF_end (by omega)]
end Go.Proofs.A1
