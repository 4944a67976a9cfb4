/- Part of the proof: B6. -/
import Derived.Test.YtahcjhdepdhipaaB5
import Derived.Test.YtahcjhdepdhipaaGkFin
set_option linter.unusedSectionVars false
set_option linter.unusedVariables false
set_option linter.unusedSimpArgs false
namespace Go.Proofs.A1
open Go Go.SL

theorem known33 (e : Ed) (b8 b1 n cap : Nat) (a : Option Addr) (w : World) (h8 : w.cell? ⟨b8, 0, none⟩ = some (.func (.func 31) #[] #[])) (h1 : w.cell? ⟨b1, 0, none⟩ = some (.slice a n cap)) :
    GivesV Try.prog 33 [.agg e.cells.toArray, .pointer (some ⟨b8, 0, none⟩), .pointer (some ⟨b1, 0, none⟩)] w (.int .i64 (edgeF e n)) := by
  refine givesV_of_tr Try.func33 rfl rfl ?_
  unfold Ed.cells
  (refine tr_seq ?_; refine tr_region ?_; refine tr_new (rk_box (Is.of rfl) rfl) rfl (fun _ _ => ?_); refine tr_val (rk_assign (Is.of rfl)) rfl ?_; refine tr_nil ?_; refine tr_then ?_; refine tr_seq ?_; refine tr_region ?_; refine tr_val (rk_load1 (Is.of rfl) (At.base h8 rfl)) rfl ?_; refine tr_val (rk_loadB (Is.of rfl) Take.here norm_ (by rfl)) rfl ?_; refine tr_val (rk_fieldAddr (Is.of rfl) norm0_) rfl ?_; refine tr_val (rk_load1 (Is.of rfl) (At.base h1 rfl)) rfl ?_; refine tr_val (rk_len_slice (Is.of rfl)) rfl ?_; refine tr_callV (rk_call (Is.of rfl) (Iss.cons (Is.of rfl) (Iss.cons (Is.of rfl) Iss.nil)) inferInstance normc_) rfl (fun w' hm' => (edge_c e _ w')) ?_; refine tr_val (rk_assign (Is.of rfl)) rfl ?_; refine tr_nil ?_; refine tr_then ?_; refine tr_ret ?_; refine tr_retE rfl (ends1 rfl rfl) ?_)
  rfl

theorem IntL.map : ∀ (es : List Int), IntL (es.map (Value.int .i64)) es
  | [] => .nil
  | _ :: r => .cons (IntL.map r)
theorem alook_aset {k k' : ByteArray} {v : Value} : ∀ {l : List (ByteArray × Value)}, alook k' (aset k v l) = if k' = k then some v else alook k' l
  | [] => by simp [aset, alook]
  | (x, u) :: r => by
    simp only [aset]
    split
    · rename_i e; subst e; simp only [alook]; split <;> rfl
    · rename_i e
      simp only [alook, alook_aset (l := r)]
      by_cases e1 : k' = x
      · subst e1; simp [Ne.symm e]
      · simp [e1]
theorem hasF_take {es : List ByteArray} {k : Nat} (h : k < es.length) (s : ByteArray) : hasF (es.take (k + 1)) s = (decide (s = es[k]) || hasF (es.take k) s) := by
  have happ : ∀ (l : List ByteArray) (x : ByteArray), hasF (l ++ [x]) s = (decide (s = x) || hasF l s) := by
    intro l x
    induction l with
    | nil => simp [hasF, eq_comm]
    | cons y r ih => simp only [List.cons_append, hasF, ih]; rw [Bool.or_left_comm]
  rw [List.take_add_one, List.getElem?_eq_getElem h]
  exact happ _ _

theorem seqF_egF (es : List Ed) (n : Int) : seqF (egF es n) 0 es.length = firstF (es.map fun e => edgeF e n) := by
  unfold seqF
  congr 1
  apply List.ext_getElem
  · simp
  · intro i h1 h2
    simp only [List.length_map] at h2
    simp [egF, h2]

theorem checkNet_c (nv ev : Value) (ns : List ByteArray) (es : List Ed) (w : World) (h1 : Rd w nv 1 (strs ns)) (h2 : Rd w ev 4 (edgesL es)) : GivesV Try.prog 17 [.agg #[nv, ev]] w (.int .i64 (netF ns es)) := by
  have hrde := h2
  obtain ⟨a, cap, b, o, rfl, hcap, hmax, ha, hc⟩ := h1
  obtain ⟨a2, cap2, b2, o2, rfl, hcap2, hmax2, ha2, hc2⟩ := h2
  rw [strs_length] at *
  rw [edgesL_length] at *
  unfold maxLen at hmax hmax2
  refine givesV_of_tr Try.func17 rfl rfl ?_
  (refine tr_seq ?_; refine tr_region ?_; refine tr_new (rk_box (Is.of rfl) rfl) rfl (fun _ _ => ?_); refine tr_val (rk_assign (Is.of rfl)) rfl ?_; refine tr_nil ?_; refine tr_then ?_; refine tr_seq ?_; refine tr_seq ?_)
  with_reducible refine tr_draw 10 (by kernel_rfl) ?_
  (refine any_val (rk_fieldAddr (Is.of rfl) norm0_) rfl ?_; refine any_val (rk_load1 (Is.of rfl) (At.lit Take.here rfl)) rfl ?_; refine any_val (rk_len_slice (Is.of rfl)) rfl ?_; refine any_val (rk_eql (Is.of rfl) (Is.of rfl)) rfl ?_; refine any_call (rk_call (Is.of rfl) (Iss.cons (Is.of rfl) (Iss.cons (Is.of rfl) Iss.nil)) inferInstance normc_) rfl (fun w' hm' => (when_c _ _ w')) ?_; refine any_val (rk_fieldAddr (Is.of rfl) norm0_) rfl ?_; refine any_val (rk_load1 (Is.of rfl) (At.lit Take.here rfl)) rfl ?_; refine any_val (rk_len_slice (Is.of rfl)) rfl ?_; refine any_val (rk_gtr (Is.of rfl) (Is.of rfl)) rfl ?_; refine any_call (rk_call (Is.of rfl) (Iss.cons (Is.of rfl) (Iss.cons (Is.of rfl) Iss.nil)) inferInstance normc_) rfl (fun w' hm' => (when_c _ _ w')) ?_)
  with_reducible refine any_end ?_
  (refine tr_new (rk_sliceLit (PartsS.cons (Is.of rfl) (PartsS.cons (Is.of rfl) PartsS.nil)) rfl rfl rfl rfl) rfl (fun _ _ => ?_); refine tr_callV (rk_call (Is.of rfl) (Iss.cons (Is.of rfl) Iss.nil) inferInstance normc_) rfl (fun w' hm' => (first_pB (Mem.rdBlk hm' Take.here rfl rfl) (IntL.cons (IntL.cons IntL.nil)))) ?_; refine tr_val (rk_assign (Is.of rfl)) rfl ?_; refine tr_nil ?_; refine tr_then ?_; refine tr_seq ?_; refine tr_region ?_; refine tr_val (rk_move (Is.of rfl)) rfl ?_; refine tr_val (rk_neq (Is.of rfl) (Is.of rfl)) rfl ?_; refine tr_nil ?_; refine tr_then ?_; refine tr_cond_d (Is.of rfl) (fun hcd => ?_) (fun hcd => ?_); refine tr_seq ?_; refine tr_region ?_; refine tr_val (rk_move (Is.of rfl)) rfl ?_; refine tr_val (rk_assign (Is.of rfl)) rfl ?_; refine tr_nil ?_; refine tr_then ?_; refine tr_ret ?_; refine tr_then_ret ?_; refine tr_retE rfl (ends1 rfl rfl) ?_; rotate_left; refine tr_skip ?_; refine tr_then ?_; refine tr_seq ?_; refine tr_region ?_; rotate_right)
  · unfold netF; rw [if_pos hcd]
  refine tr_makeMapS rfl ?_
  intro bm hbm
  (refine tr_val (rk_assign (Is.of rfl)) rfl ?_; refine tr_nil ?_; refine tr_then ?_; refine tr_seq ?_; refine tr_seq ?_; refine tr_region ?_; refine tr_val (rk_fieldAddr (Is.of rfl) norm0_) rfl ?_; refine tr_val (rk_load1 (Is.of rfl) (At.lit (Take.there (Take.there Take.here)) rfl)) rfl ?_; refine tr_val (rk_len_slice (Is.of rfl)) rfl ?_; refine tr_val (rk_move (Is.of rfl)) rfl ?_; refine tr_nil ?_; refine tr_then ?_; refine tr_block ?_)
  rename_i bx hbx bl hbl
  have hN : netF ns es = if seqF (nmF ns) 0 ns.length ≠ 0 then seqF (nmF ns) 0 ns.length else if 24 < (es.length : Int) then 5 else seqF (egF es ns.length) 0 es.length := by
    unfold netF; rw [if_neg hcd]
  have hn12 : ns.length ≤ 12 := by
    false_or_by_contra
    exact hcd (by rw [decide_eq_true (p := 12 < (ns.length : Int)) (by omega), decide_eq_false (p := (ns.length : Int) = 0) (by omega)]; decide)
  rw [hN]
  refine tr_for (ι := Nat × List (ByteArray × Value)) (fun x => x.1 ≤ ns.length ∧ seqF (nmF ns) 0 ns.length = seqF (nmF ns) x.1 ns.length ∧ ∀ s, (alook s x.2).getD (.bool false) = .bool (hasF (ns.take x.1) s))
    (fun x => [(28, .int .i64 x.1), (27, .int .i64 ns.length), (26, .slice a ns.length cap), (4, .map (some bm)), (1, .pointer (some ⟨bx, 0, none⟩))])
    (fun x => [mp (fun s : ByteArray => Value.string s) bm x.2, blk bx (.cells #[.slice a ns.length cap, .slice a2 es.length cap2] 37 (0, 0))]) (fun x => ns.length - x.1) ?_ ?_
  · apply tr_start (0, []) ⟨Nat.zero_le _, rfl, fun s => rfl⟩
    case hs1 => exact Subs.cons rfl (Subs.cons rfl (Subs.cons rfl (Subs.cons rfl (Subs.cons rfl Subs.nil))))
    case ht => (try simp only [List.take_zero, List.map_nil, List.nil_append]); exact Takes.cons Take.here (Takes.cons (Take.there Take.here) Takes.nil)
  rintro ⟨k, l⟩ ⟨hk, hf, hm⟩
  dsimp only at hk hf hm ⊢
  by_cases hlt : k < ns.length
  · have ha' := ha (strs_ne hlt)
    have hcell := rd1 hc (strs_get hlt)
    have hs := seqF_at (f := nmF ns) hlt
    have hfk : nmF ns k = firstF [whenF (!nameF ns[k]) 8, whenF (hasF (ns.take k) ns[k]) 9] := by simp [nmF, hlt]
    have hmk := hm ns[k]
    (refine tr_seq ?_; refine tr_region ?_; refine tr_val (rk_lss (Is.of rfl) (Is.of rfl)) rfl ?_; refine tr_nil ?_; refine tr_then ?_; refine tr_seq ?_; refine tr_cond_d (Is.of rfl) (fun hcd => ?_) (fun hcd => (by omega)); refine tr_skip ?_; refine tr_then ?_; refine tr_seq ?_; refine tr_block ?_; refine tr_seq ?_; refine tr_region ?_; refine tr_val (rk_indexAddr (Is.of rfl) (Is.of rfl) ha' (by omega) hcd norm1_) rfl ?_; refine tr_val (rk_load1 (Is.of rfl) (At.base hcell rfl)) rfl ?_; refine tr_val (rk_assign (Is.of rfl)) rfl ?_; refine tr_nil ?_; refine tr_then ?_; refine tr_seq ?_; refine tr_seq ?_)
    with_reducible refine tr_draw 8 (by kernel_rfl) ?_
    (refine any_val (rk_move (Is.of rfl)) rfl ?_; refine any_call (rk_call (Is.of rfl) (Iss.cons (Is.of rfl) Iss.nil) inferInstance normc_) rfl (fun w' hm' => (name_p _ w')) ?_; refine any_val (rk_not (Is.of rfl)) rfl ?_; refine any_call (rk_call (Is.of rfl) (Iss.cons (Is.of rfl) (Iss.cons (Is.of rfl) Iss.nil)) inferInstance normc_) rfl (fun w' hm' => (when_c _ _ w')) ?_; refine any_val (rk_move (Is.of rfl)) rfl ?_; refine any_val (rk_move (Is.of rfl)) rfl ?_; refine any_val (rk_lookup keyS (Is.of rfl) (Is.of rfl) (Looks.mp Take.here)) rfl ?_)
    rw [hmk]
    refine any_call (rk_call (Is.of rfl) (Iss.cons (Is.of rfl) (Iss.cons (Is.of rfl) Iss.nil)) inferInstance normc_) rfl (fun w' hm' => (when_c _ _ w')) ?_
    with_reducible refine any_end ?_
    (refine tr_new (rk_sliceLit (PartsS.cons (Is.of rfl) (PartsS.cons (Is.of rfl) PartsS.nil)) rfl rfl rfl rfl) rfl (fun _ _ => ?_); refine tr_callV (rk_call (Is.of rfl) (Iss.cons (Is.of rfl) Iss.nil) inferInstance normc_) rfl (fun w' hm' => (first_pB (Mem.rdBlk hm' Take.here rfl rfl) (IntL.cons (IntL.cons IntL.nil)))) ?_; refine tr_val (rk_assign (Is.of rfl)) rfl ?_; refine tr_nil ?_; refine tr_then ?_; refine tr_seq ?_; refine tr_region ?_; refine tr_val (rk_move (Is.of rfl)) rfl ?_; refine tr_val (rk_neq (Is.of rfl) (Is.of rfl)) rfl ?_; refine tr_nil ?_; refine tr_then ?_; refine tr_cond_d (Is.of rfl) (fun hcd => ?_) (fun hcd => ?_); refine tr_seq ?_; refine tr_region ?_; refine tr_val (rk_move (Is.of rfl)) rfl ?_; refine tr_val (rk_assign (Is.of rfl)) rfl ?_; refine tr_nil ?_; refine tr_then ?_; refine tr_ret ?_; refine tr_then_ret ?_; refine tr_blk_ret ?_; refine tr_then_ret ?_; refine tr_then_ret ?_; refine tr_blk_ret ?_; refine tr_then_ret ?_; refine tr_retE rfl (ends1 rfl rfl) ?_; rotate_left; refine tr_skip ?_; refine tr_then ?_; refine tr_region ?_; refine tr_val (rk_move (Is.of rfl)) rfl ?_; refine tr_val (rk_move (Is.of rfl)) rfl ?_; rotate_right)
    · rename_i hcd
      rw [← hfk] at hcd
      have hz := hs; rw [if_pos hcd] at hz
      rw [hf, hz, if_pos hcd, hfk]
    · rename_i hcd
      rw [← hfk] at hcd
      have hz := hs; rw [if_neg hcd] at hz
      refine tr_mapUpdate keyS (Is.of rfl) (Is.of rfl) (Is.of rfl) (Take.there Take.here) ?_
      (refine tr_nil ?_; refine tr_blk_normal ?_; refine tr_then ?_; refine tr_region ?_; refine tr_val (rk_add (Is.of rfl) (Is.of rfl) (ini (by omega))) rfl ?_; refine tr_val (rk_move (Is.of rfl)) rfl ?_; refine tr_nil ?_; refine tr_then ?_)
      have hm2 : ∀ s, (alook s (aset ns[k] (.bool true) l)).getD (.bool false) = .bool (hasF (ns.take (k + 1)) s) := by
        intro s
        rw [alook_aset, hasF_take hlt]
        by_cases e : s = ns[k]
        · simp [e]
        · rw [if_neg e, hm]; simp [e]
      apply tr_next (k + 1, aset ns[k] (.bool true) l) ⟨by show k + 1 ≤ ns.length; omega, by rw [hf, hz], hm2⟩ (by show ns.length - (k + 1) < ns.length - k; omega)
      case hs1 => exact Subs.cons rfl (Subs.cons rfl (Subs.cons rfl (Subs.cons rfl (Subs.cons rfl Subs.nil))))
      case ht => exact Takes.cons Take.here (Takes.cons (Take.there Take.here) Takes.nil)
  · have h0 : seqF (nmF ns) 0 ns.length = 0 := by rw [hf]; exact seqF_end (by omega)
    rw [h0, if_neg (by omega)]
    (refine tr_seq ?_; refine tr_region ?_; refine tr_val (rk_lss (Is.of rfl) (Is.of rfl)) rfl ?_; refine tr_nil ?_; refine tr_then ?_; refine tr_seq ?_; refine tr_cond_d (Is.of rfl) (fun hcd => (by omega)) (fun hcd => ?_); refine tr_exit ?_; refine tr_then_exit ?_; refine tr_then_exit ?_; refine tr_blk_exit ?_; refine tr_then ?_; refine tr_seq ?_; refine tr_seq ?_; refine tr_region ?_; refine tr_val (rk_fieldAddr (Is.of rfl) norm0_) rfl ?_; refine tr_val (rk_load1 (Is.of rfl) (At.lit (Take.there Take.here) rfl)) rfl ?_; refine tr_val (rk_len_slice (Is.of rfl)) rfl ?_; refine tr_val (rk_gtr (Is.of rfl) (Is.of rfl)) rfl ?_; refine tr_nil ?_; refine tr_then ?_; refine tr_cond_d (Is.of rfl) (fun hcd => ?_) (fun hcd => ?_); refine tr_seq ?_; refine tr_region ?_; refine tr_val (rk_assign (Is.of rfl)) rfl ?_; refine tr_nil ?_; refine tr_then ?_; refine tr_ret ?_; refine tr_then_ret ?_; refine tr_retE rfl (ends1 rfl rfl) ?_; rotate_left; refine tr_skip ?_; refine tr_then ?_; refine tr_seq ?_; refine tr_region ?_; refine tr_new (rk_alloc rfl) rfl (fun _ _ => ?_); refine tr_store (Is.of rfl) (Is.of rfl) Take.here rfl rfl (okc_cons rfl okc_nil) (lenb rfl) norm_ ?_; refine tr_nil ?_; refine tr_then ?_; refine tr_seq ?_; refine tr_region ?_; refine tr_val (rk_fieldAddr (Is.of rfl) norm0_) rfl ?_; refine tr_val (rk_load1 (Is.of rfl) (At.lit (Take.there (Take.there Take.here)) rfl)) rfl ?_; refine tr_val (rk_makeFunc' Iss.nil (Iss.cons (Is.of rfl) (Iss.cons (Is.of rfl) Iss.nil))) rfl ?_; rotate_right)
    · rw [if_pos hcd]
    rw [if_neg hcd]
    rename_i b8 hb8
    have hec : ∀ r ∈ edgesL es, ∀ u ∈ r, u.oneCell' = true := by
      intro r hr u hu
      obtain ⟨e, _, rfl⟩ := List.mem_map.1 hr
      simp only [Ed.cells, List.mem_cons, List.not_mem_nil, or_false] at hu
      rcases hu with rfl | rfl | rfl | rfl <;> rfl
    with_reducible apply tr_call
    case hr => exact rk_call (Is.of rfl) (Iss.cons (Is.of rfl) (Iss.cons (Is.of rfl) Iss.nil)) inferInstance normc_
    case hd => rfl
    case ht => exact Takes.nil
    case hc =>
      intro w1 fp hm1 _ hs1
      obtain rfl : fp = [] := hs1
      refine mapped32 (f := 33) (first := []) (img := es.map fun e => edgeF e ns.length) (hrde.keeps hm1.keeps) rfl (by simp [edgesL]) (by rw [edgesL_length]; omega) hec ?_
      intro i r e hr he w' hk'
      have hm' := hm1.keepsOn hk'
      simp only [edgesL, List.getElem?_map, Option.map_eq_some_iff] at hr he
      obtain ⟨x, hx, rfl⟩ := hr
      obtain ⟨y, hy, rfl⟩ := he
      rw [hx] at hy; cases hy
      exact known33 x b8 bx ns.length cap a w' ((At.lit (by exact Take.here) (by exact rfl) _ hm')) ((At.lit (by exact Take.there (Take.there Take.here)) (by exact rfl) _ hm'))
    intro v _
    dsimp only [id_eq, List.cons_append, List.nil_append]
    with_reducible apply tr_callV
    case hr => exact rk_call (Is.of rfl) (Iss.cons (Is.of rfl) Iss.nil) inferInstance normc_
    case hd => rfl
    case hc =>
      intro w' hm'
      exact first_pB (Mem.rdRow1 hm' (by exact Take.here) (by simp [edgesL])) (IntL.map _)
    (refine tr_val (rk_assign (Is.of rfl)) rfl ?_; refine tr_nil ?_; refine tr_then ?_; refine tr_ret ?_; refine tr_retE rfl (ends1 rfl rfl) ?_)
    rw [seqF_egF]
end Go.Proofs.A1
