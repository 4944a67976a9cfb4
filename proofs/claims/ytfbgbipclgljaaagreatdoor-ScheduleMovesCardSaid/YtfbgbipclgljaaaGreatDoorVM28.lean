/- Parts of the proof: S87. -/
import Derived.Test.YtfbgbipclgljaaaGreatDoorVM26
import Derived.Test.YtfbgbipclgljaaaGreatDoorVM27
import Derived.Test.YtfbgbipclgljaaaGreatDoorVM06
set_option linter.unusedSectionVars false
set_option linter.unusedVariables false
set_option linter.unusedSimpArgs false
/- S87 -/
namespace Go.Proofs.A1
open Go Go.SL

theorem ChR.same {a b : List En} {x y : Int × Int × Int} (hx : ChR a b x) (hy : ChR a b y) : x = y := by
  rcases hx with ⟨h1, rfl⟩ | ⟨h1, h2⟩ <;> rcases hy with ⟨h3, rfl⟩ | ⟨h3, h4⟩
  · rfl
  · exact absurd h3 h1
  · exact absurd h1 h3
  · exact h2.same h4
open Classical in
/-- what 'Changed' answers -/
noncomputable def chX (a b : List En) : Int × Int × Int := if h : ∃ x, ChR a b x then Classical.choose h else (0, 0, 0)
theorem chX_eq {a b : List En} {x : Int × Int × Int} (h : ChR a b x) : chX a b = x := by
  have he : ∃ x, ChR a b x := ⟨x, h⟩
  unfold chX
  rw [dif_pos he]
  exact (Classical.choose_spec he).same h
theorem chX_bad {a b : List En} (h : chE a b ≠ 0) : chX a b = (0, 0, chE a b) := chX_eq (.inl ⟨h, rfl⟩)
theorem pure_at {l : List Oper} {p d k : Nat} {x : Operand} {ty : TypeId} {pos : String} {af : Array Edge} (h : l[p]? = some ⟨some d, .extract x k, ty, pos, af, none⟩) (h2 : Region.noSelect l.toArray = true) (h3 : Region.free .any l.toArray ((List.range l.length).map fun j => ((masks l []).getD p 0).testBit j).toArray p = true) : PureAt l p := ⟨d, x, k, ty, pos, af, h, h2, h3⟩
theorem changedV_c {sa sb : Value} {a b : List En} {w : World} (h1 : Rd w sa 6 (ensL a)) (h2 : Rd w sb 6 (ensL b)) (hG : Glob w) :
    GivesV Tryz.prog 92 [.agg #[sa], .agg #[sb]] w (.tuple #[.agg #[.int .i64 (chX a b).1, .int .i64 (chX a b).2.1], .int .i64 (chX a b).2.2]) :=
  Calls.mono (changedX_c h1 h2 hG) fun e w' ⟨x, he, hp, hk, _⟩ => ⟨by rw [he, chX_eq hp], hk⟩
theorem changedQV_c {sa sb : Value} {a b : List En} {w : World} (h1 : Rd w sa 6 (ensL a)) (h2 : Rd w sb 6 (ensL b)) (hz : chE a b = 0) :
    GivesV Tryz.prog 93 [.agg #[sa], .agg #[sb]] w (.tuple #[.agg #[.int .i64 (chX a b).1, .int .i64 (chX a b).2.1], .int .i64 (chX a b).2.2]) :=
  Calls.mono (changedQ_c h1 h2 (Sound.of (chE_zero hz).1) (Sound.of (chE_zero hz).2)) fun e w' ⟨x, he, hp, hk, _⟩ => ⟨by rw [he, chX_eq (.inr ⟨hz, hp⟩)], hk⟩
/-- valid, and soon over -/
def briefB (es : List En) : Bool := shortB es && decide (chkF es = 0) && decide (enE es ≤ 1000)
theorem and_r {a : Bool} {p : Prop} [Decidable p] (h : ((a && decide p) == true) = true) : p := by
  have := eq_of_beq h
  rw [Bool.and_eq_true, decide_eq_true_eq] at this
  exact this.2
theorem brief_c {sv : Value} {es : List En} {w : World} (h1 : Rd w sv 6 (ensL es)) : GivesV Tryz.prog 90 [.agg #[sv]] w (.bool (briefB es)) := by
  have hone := Rd.one h1
  refine givesV_of_tr Tryz.func90 rfl rfl ?_
  (refine s_r ?_; refine tr_new (rk_box (.of rfl) rfl) rfl (fun _ _ => ?_); refine a_s rfl rfl ?_; refine n_r ?_; refine tr_val (rk_loadB (.of rfl) .here norm_ (by rfl)) rfl ?_; refine tr_callV (rk_call (.of rfl) (.cons (.of rfl) .nil) inferInstance normc_) rfl (fun w' hm' => (short_c (Rd.keeps h1 (Mem.keeps hm')))) ?_; refine m_v rfl rfl ?_; refine tr_vG1 rfl rfl inferInstance (fun hg hgp => (rk_loadB (.of rfl) .here norm_ (by rfl))) rfl ?_; refine tr_callVG1 rfl rfl (fun hg => (rk_call (.of rfl) (.cons (.ofg hg rfl) .nil) inferInstance normc_)) rfl (fun hg w' hm' => (chkQ_c (Rd.keeps h1 (Mem.keeps hm')))) ?_; refine tr_vG1 rfl rfl inferInstance (fun hg hgp => (rk_eql (.ofg hg rfl) (.of rfl))) rfl ?_; refine tr_val (rk_pick_and (.of rfl) rfl) rfl ?_; refine m_v rfl rfl ?_; refine tr_vG1 rfl rfl inferInstance (fun hg hgp => (rk_loadB (.of rfl) .here norm_ (by rfl))) rfl ?_; refine tr_callVG1 rfl rfl (fun hg => (rk_call (.of rfl) (.cons (.ofg hg rfl) .nil) inferInstance normc_)) rfl (fun hg w' hm' => (end_c (Rd.keeps h1 (Mem.keeps hm')) (Sound.of (and_r hg)))) ?_; refine tr_vG1 rfl rfl inferInstance (fun hg hgp => (rk_leq (.ofg hg rfl) (.of rfl))) rfl ?_; refine tr_val (rk_pick_and (.of rfl) rfl) rfl ?_; refine a_s rfl rfl ?_; refine n_t ?_; refine tr_ret ?_; refine tr_retE rfl (ends1 rfl rfl) ?_)
  rfl
set_option maxHeartbeats 4000000 in
theorem moves_law {sa sb : Value} {a b : List En} {n : Int} {w : World} (h1 : Rd w sa 6 (ensL a)) (h2 : Rd w sb 6 (ensL b)) (hG : Glob w) (hT : Tab10 w) :
    GivesV Tryz.prog 16 [.agg #[sa], .agg #[sb], .int .i64 n] w (.bool true) := by
  have haw : ∀ w', Keeps [] w w' → GivesV Tryz.prog 17 [] w' (.bool true) := fun w' hk => awake_c w' (hG.keeps hk) (hT.keeps hk)
  have hsh1 : ∀ w', Keeps [] w w' → GivesV Tryz.prog 18 [.agg #[sa]] w' (.bool (shortB a)) := fun w' hk => short_c (h1.keeps hk)
  have hsh2 : ∀ w', Keeps [] w w' → GivesV Tryz.prog 18 [.agg #[sb]] w' (.bool (shortB b)) := fun w' hk => short_c (h2.keeps hk)
  have hck1 : ∀ w', Keeps [] w w' → GivesV Tryz.prog 23 [.agg #[sa]] w' (.int .i64 (chkF a)) := fun w' hk => chkQ_c (h1.keeps hk)
  have hck2 : ∀ w', Keeps [] w w' → GivesV Tryz.prog 23 [.agg #[sb]] w' (.int .i64 (chkF b)) := fun w' hk => chkQ_c (h2.keeps hk)
  have hbr1 : ∀ w', Keeps [] w w' → GivesV Tryz.prog 90 [.agg #[sa]] w' (.bool (briefB a)) := fun w' hk => brief_c (h1.keeps hk)
  have hbr2 : ∀ w', Keeps [] w w' → GivesV Tryz.prog 90 [.agg #[sb]] w' (.bool (briefB b)) := fun w' hk => brief_c (h2.keeps hk)
  have hone1 := Rd.one h1
  have hone2 := Rd.one h2
  refine givesV_of_tr Tryz.func16 rfl rfl ?_
  (refine s_r ?_; refine tr_new (rk_box (.of rfl) rfl) rfl (fun _ _ => ?_); refine tr_new (rk_box (.of rfl) rfl) rfl (fun _ _ => ?_); refine a_s rfl rfl ?_; refine n_t ?_; refine tr_seq ?_; refine s_r ?_; refine tr_callV (rk_call (.of rfl) .nil inferInstance normc_) rfl (fun w' hm' => (haw w' (Mem.keeps hm'))) ?_; refine tr_val (rk_not (.of rfl)) rfl ?_; refine m_v rfl rfl ?_; refine tr_vG1 rfl rfl inferInstance (fun hg hgp => (rk_loadB (.of rfl) (.there .here) norm_ (by rfl))) rfl ?_; refine tr_callVG1 rfl rfl (fun hg => (rk_call (.of rfl) (.cons (.ofg hg rfl) .nil) inferInstance normc_)) rfl (fun hg w' hm' => (hsh1 w' (Mem.keeps hm'))) ?_; refine tr_vG1 rfl rfl inferInstance (fun hg hgp => (rk_not (.ofg hgp rfl))) rfl ?_; refine tr_val (rk_pick_or (.of rfl) rfl) rfl ?_; refine m_v rfl rfl ?_; refine tr_vG1 rfl rfl inferInstance (fun hg hgp => (rk_loadB (.of rfl) .here norm_ (by rfl))) rfl ?_; refine tr_callVG1 rfl rfl (fun hg => (rk_call (.of rfl) (.cons (.ofg hg rfl) .nil) inferInstance normc_)) rfl (fun hg w' hm' => (hsh2 w' (Mem.keeps hm'))) ?_; refine tr_vG1 rfl rfl inferInstance (fun hg hgp => (rk_not (.ofg hg rfl))) rfl ?_; refine tr_val (rk_pick_or (.of rfl) rfl) rfl ?_; refine m_v rfl rfl ?_; refine tr_vG1 rfl rfl inferInstance (fun hg hgp => (rk_loadB (.of rfl) (.there .here) norm_ (by rfl))) rfl ?_; refine tr_callVG1 rfl rfl (fun hg => (rk_call (.of rfl) (.cons (.ofg hg rfl) .nil) inferInstance normc_)) rfl (fun hg w' hm' => (hck1 w' (Mem.keeps hm'))) ?_; refine tr_vG1 rfl rfl inferInstance (fun hg hgp => (rk_eql (.ofg hg rfl) (.of rfl))) rfl ?_; refine tr_vG1 rfl rfl inferInstance (fun hg hgp => (rk_move (.ofg hg rfl))) rfl ?_; refine tr_vG rfl rfl inferInstance (fun hg hgp => (rk_loadB (.of rfl) (.there .here) norm_ (by rfl))) rfl ?_; refine tr_callVG rfl rfl (fun hg => (rk_call (.of rfl) (.cons (.ofg hg rfl) .nil) inferInstance normc_)) rfl (fun hg w' hm' => (hbr1 w' (Mem.keeps hm'))) ?_; refine tr_vG rfl rfl inferInstance (fun hg hgp => (rk_not (.ofg hg rfl))) rfl ?_; refine tr_vG1 rfl rfl inferInstance (fun hg hgp => (rk_pick_and' hg (.ofg hg rfl) rfl)) rfl ?_; refine tr_val (rk_pick_or (.of rfl) rfl) rfl ?_; refine m_v rfl rfl ?_; refine tr_vG1 rfl rfl inferInstance (fun hg hgp => (rk_loadB (.of rfl) .here norm_ (by rfl))) rfl ?_; refine tr_callVG1 rfl rfl (fun hg => (rk_call (.of rfl) (.cons (.ofg hg rfl) .nil) inferInstance normc_)) rfl (fun hg w' hm' => (hck2 w' (Mem.keeps hm'))) ?_; refine tr_vG1 rfl rfl inferInstance (fun hg hgp => (rk_eql (.ofg hg rfl) (.of rfl))) rfl ?_; refine tr_vG1 rfl rfl inferInstance (fun hg hgp => (rk_move (.ofg hg rfl))) rfl ?_; refine tr_vG rfl rfl inferInstance (fun hg hgp => (rk_loadB (.of rfl) .here norm_ (by rfl))) rfl ?_; refine tr_callVG rfl rfl (fun hg => (rk_call (.of rfl) (.cons (.ofg hg rfl) .nil) inferInstance normc_)) rfl (fun hg w' hm' => (hbr2 w' (Mem.keeps hm'))) ?_; refine tr_vG rfl rfl inferInstance (fun hg hgp => (rk_not (.ofg hg rfl))) rfl ?_; refine tr_vG1 rfl rfl inferInstance (fun hg hgp => (rk_pick_and' hg (.ofg hg rfl) rfl)) rfl ?_; refine tr_val (rk_pick_or (.of rfl) rfl) rfl ?_; refine n_t ?_; refine c_b rfl (fun hcd => ?_) (fun hcd => ?_); refine s_r ?_; refine tr_callV (rk_call (.of rfl) .nil inferInstance normc_) rfl (fun w' hm' => (haw w' (Mem.keeps hm'))) ?_; refine a_s rfl rfl ?_; refine n_t ?_; refine r_t ?_; refine tr_retE rfl (ends1 rfl rfl) ?_; rotate_left; refine s_t ?_; refine tr_seq ?_; rotate_right)
  · rfl
  rename_i b3 hb3 b4 hb4
  have hfa := shortB_few hcd.1.1.1.2
  have hfb := shortB_few hcd.1.1.2
  clear hcd
  have hOa : ∀ w', Keeps [] w w' → _ := fun w' hk => own_c (h1.keeps hk) hfa
  have hOb : ∀ w', Keeps [] w w' → _ := fun w' hk => own_c (h2.keeps hk) hfb
  have hCh : ∀ (v1 v2 : Value) w', Keeps [] w w' → Rd w' v1 6 (ensL a) → Rd w' v2 6 (ensL b) → GivesV Tryz.prog 92 [.agg #[v1], .agg #[v2]] w' (.tuple #[.agg #[.int .i64 (chX a b).1, .int .i64 (chX a b).2.1], .int .i64 (chX a b).2.2]) := fun v1 v2 w' hk r1 r2 => changedV_c r1 r2 (hG.keeps hk)
  have hcb := fun h => chX_bad (a := a) (b := b) h
  have hCq : ∀ w', Keeps [] w w' → chE a b = 0 → GivesV Tryz.prog 93 [.agg #[sa], .agg #[sb]] w' (.tuple #[.agg #[.int .i64 (chX a b).1, .int .i64 (chX a b).2.1], .int .i64 (chX a b).2.2]) := fun w' hk hz => changedQV_c (h1.keeps hk) (h2.keeps hk) hz
  generalize chX a b = X at hCh hcb hCq
  obtain ⟨p, q, e⟩ := X
  dsimp only at hCh hCq
  generalize hQ : Exit.then _ _ = Q
  suffices hk : ∀ (b7 : Nat), Tr _ _ [(8, .int .i64 e), (7, .pointer (some ⟨b7, 0, none⟩)), (2, .int .i64 n), (3, .pointer (some ⟨b3, 0, none⟩)), (4, .pointer (some ⟨b4, 0, none⟩))] [blk b7 (.cells #[.int .i64 p, .int .i64 q] 66), blk b3 (.cells #[sa] 24), blk b4 (.cells #[sb] 24)] (Q .normal) by
    with_reducible refine tr_drawP 9 7 (by kernel_rfl) (pure_at rfl (by kernel_rfl) (by kernel_rfl)) ?_
    refine am_val (fun β => (rk_loadB (.of rfl) (.there .here) norm_ (by rfl))) ind0x rfl ?_
    dsimp only [Nat.zero_add, Nat.reduceAdd]
    with_reducible apply am_call (ι := Value) (Φ := fun _ => True) (val := fun v => .agg #[v]) (own := fun v => [row 138 6 v a.length (enR a a.length)]) (g := id) (B := []) (args := fun _ => [.agg #[sa]])
    case hg => exact fun x => ⟨x, rfl⟩
    case hB => rfl
    case hr => exact fun β => rk_call (.of rfl) (.cons (.of rfl) .nil) inferInstance rfl
    case hd => rfl
    case hc => exact fun β w' hb => hOa w' hb.mem.keeps
    dsimp only [id_eq, Nat.reduceAdd]
    refine am_val (fun β => (rk_loadB (.of rfl) .here norm_ (by rfl))) ind0x rfl ?_
    dsimp only [Nat.reduceAdd]
    with_reducible apply am_call (ι := Value) (Φ := fun _ => True) (val := fun v => .agg #[v]) (own := fun v => [row 138 6 v b.length (enR b b.length)]) (g := id) (B := []) (args := fun _ => [.agg #[sb]])
    case hg => exact fun x => ⟨x, rfl⟩
    case hB => rfl
    case hr => exact fun β => rk_call (.of rfl) (.cons (.of rfl) .nil) inferInstance rfl
    case hd => rfl
    case hc => exact fun β w' hb => hOb w' hb.mem.keeps
    dsimp only [id_eq, Nat.reduceAdd]
    with_reducible apply am_callV (B := [1, 3]) (F := fun _ => .tuple #[.agg #[.int .i64 p, .int .i64 q], .int .i64 e]) (args := fun β => [.agg #[β 1], .agg #[β 3]])
    case hB => kernel_rfl
    case hr => exact fun β => rk_call (.of rfl) (.cons (.of rfl) (.cons (.of rfl) .nil)) inferInstance rfl
    case hi => exact ind0x
    case hd => rfl
    case hc =>
      intro β w' hb
      have m1 := hb.at 1 (by simp) (s := ⟨fun β => .agg #[β 1], fun β => [row 138 6 (β 1) a.length (enR a a.length)]⟩) (by kernel_rfl)
      have m3 := hb.at 3 (by simp) (s := ⟨fun β => .agg #[β 3], fun β => [row 138 6 (β 3) b.length (enR b b.length)]⟩) (by kernel_rfl)
      dsimp only [List.cons_append, List.nil_append] at m1 m3
      exact hCh _ _ w' hb.mem.keeps (rdEn m1 (by exact .here)) (rdEn m3 (by exact .here))
    (refine am_val (fun β => (rk_move (.of rfl))) ind0x rfl ?_; refine am_val (fun β => (rk_extract (.of rfl) rfl)) ind0x rfl ?_; refine am_val (fun β => (rk_extract (.of rfl) rfl)) ind0x rfl ?_)
    dsimp only [Nat.reduceAdd]
    refine am_new (fun β => (rk_alloc rfl)) (fun _ _ _ => rfl) rfl ?_
    refine am_end fun β => ?_
    dsimp only [resAll, List.nil_append, List.cons_append, List.append_eq, Nat.reduceAdd]
    generalize gnat (β 8) = b7
    refine left_ready (rs := [9]) (by kernel_rfl) (by simp) (List.forall_mem_cons.2 ⟨?_, fun _ h => absurd h List.not_mem_nil⟩)
    refine next_step rfl ?_
    (refine tr_store (.of rfl) (.of rfl) (.there (.there .here)) rfl rfl (okc_cons rfl (okc_cons rfl okc_nil)) (lenb rfl) norm_ ?_; refine n_t ?_)
    refine left_ready (rs := [10]) (by kernel_rfl) (by simp) (List.forall_mem_cons.2 ⟨?_, fun _ h => absurd h List.not_mem_nil⟩)
    refine next_step rfl ?_
    (refine a_s rfl rfl ?_; refine n_t ?_)
    with_reducible refine left_done (by kernel_rfl) ?_
    exact tr_cut _ _ (by exact .cons rfl (.cons rfl (.cons rfl (.cons rfl (.cons rfl .nil))))) (by exact .cons .here (.cons (.there (.there (.there .here))) (.cons (.there (.there .here)) .nil))) (hk b7)
  subst hQ
  intro b7
  (refine tr_then ?_; refine s_r ?_; refine tr_val (rk_loadB (.of rfl) (.there .here) norm_ (by rfl)) rfl ?_)
  with_reducible apply tr_call
  case hr => exact rk_call (.of rfl) (.cons (.of rfl) .nil) inferInstance normc_
  case hd => rfl
  case ht => exact Takes.nil
  case hc =>
    intro w1 fp hm1 _ hs1
    obtain rfl : fp = [] := hs1
    exact hOa w1 hm1.keeps
  intro v1 _
  dsimp only [id_eq, List.cons_append, List.nil_append]
  refine m_v rfl rfl ?_
  have hSh : ∀ (v1 : Value) w', Keeps [] w w' → Rd w' v1 6 (ensL a) → _ := fun v1 w' hk r => shiftedX_c (by' := n) r (hG.keeps hk)
  have hfi1 : ∀ (v : Value) w', Rd w' v 1 (ints [chkF a, chkF b]) → GivesV Tryz.prog 24 [v] w' (.int .i64 (chE a b)) := fun v w' h => first_q v _ w' h
  have hfi2 : ∀ (v : Value) w', Rd w' v 1 (ints [chkF a, withinF n (-10000000) 10000000]) → GivesV Tryz.prog 24 [v] w' (.int .i64 (sf0 a n)) := fun v w' h => first_q v _ w' h
  have hE1 : sf0 a n ≠ 0 → sfE a n = sf0 a n ∧ sfL a n = [] := fun h => by
    have he : sfE a n = sf0 a n := by rw [sfE, if_pos h]
    exact ⟨he, by rw [sfL, if_neg (by rw [he]; exact h)]⟩
  have hE2 : sf0 a n = 0 → sfQ a n = sfE a n ∧ sfQL a n = sfL a n := fun h => by
    have he : sfE a n = sfQ a n := by rw [sfE, if_neg (by rw [h]; decide)]
    exact ⟨he.symm, by rw [sfQL, sfL, he]⟩
  have hE3 : sfE a n ≠ 0 → sfL a n = [] := fun h => by rw [sfL, if_neg h]
  have hLl : (sfL a n).length ≤ 1000 := by
    unfold sfL
    split
    · rw [shK_len]; exact hfa
    · exact Nat.zero_le _
  have hok2 : sf0 a n = 0 → chkF a = 0 ∧ -10000000 ≤ n ∧ n ≤ 10000000 := fun h => by
    unfold sf0 at h
    rw [firstF_zero] at h
    simp only [List.mem_cons, List.not_mem_nil, or_false, forall_eq_or_imp, forall_eq, withinF_zero] at h
    exact h
  generalize hEs : sfE a n = Es at hSh hE1 hE2 hE3
  generalize hLs : sfL a n = Ls at hSh hE1 hE2 hE3 hLl
  generalize hT1 : chE a b = T1 at hfi1 hcb hCq
  generalize hT2 : sf0 a n = T2 at hfi2 hE1 hE2 hok2
  have hchg : ∀ (v u : Value) w', Rd w' v 6 (ensL Ls) → Rd w' u 6 (ensL Ls) → GivesV Tryz.prog 58 [.agg #[v], .int .i64 Es, .int .i64 Es, .agg #[u]] w' (.bool true) := fun v u w' r1 r2 => changed_t r1 r2 hLl hE3 (fun _ => rfl)

  with_reducible apply tr_call
  case hr => exact rk_call (.of rfl) (.cons (.of rfl) (.cons (.of rfl) .nil)) inferInstance normc_
  case hd => rfl
  case ht => exact Takes.nil
  case hc =>
    intro w1 fp hm1 _ hs1
    obtain rfl : fp = [] := hs1
    exact hSh v1 w1 hm1.keeps (rdEn hm1 (by exact .here))
  intro v2 _
  dsimp only [id_eq, List.cons_append, List.nil_append]
  refine tr_rowSl (E := 138) (sz := 6) (v := v2) (by exact .here) fun x2 y2 e2 => ?_
  subst e2
  (refine m_v rfl rfl ?_; refine tr_val (rk_extract (.of rfl) rfl) rfl ?_; refine tr_val (rk_extract (.of rfl) rfl) rfl ?_; refine tr_new (rk_alloc rfl) rfl (fun _ _ => ?_); refine tr_store (.of rfl) (.of rfl) .here rfl rfl (okc_cons rfl okc_nil) (lenb rfl) norm_ ?_; refine a_s rfl rfl ?_; refine n_t ?_; refine tr_seq ?_)
  rename_i b9 hb9
  with_reducible refine tr_draw 4 (by kernel_rfl) ?_
  (refine any_val (rk_loadB (.of rfl) (.there (.there (.there (.there .here)))) norm_ (by rfl)) rfl ?_; refine any_call (rk_call (.of rfl) (.cons (.of rfl) .nil) inferInstance normc_) rfl (fun w' hm' => (hck1 w' (Mem.keeps hm'))) ?_; refine any_val (rk_loadB (.of rfl) (.there (.there (.there (.there (.there .here))))) norm_ (by rfl)) rfl ?_; refine any_call (rk_call (.of rfl) (.cons (.of rfl) .nil) inferInstance normc_) rfl (fun w' hm' => (hck2 w' (Mem.keeps hm'))) ?_)
  with_reducible refine any_end ?_
  by_cases hz1 : T1 = 0
  · by_cases hz2 : T2 = 0
    · obtain ⟨e1, e2⟩ := hE2 hz2
      obtain ⟨k1, k2⟩ := hok2 hz2
      have hSq : ∀ w', Keeps [] w w' → Gives Tryz.prog 94 [.agg #[sa], .int .i64 n] w' [] (fun _ : Value => True) (fun v => .tuple #[.agg #[v], .int .i64 Es]) (fun v => [row 115 6 v Ls.length (ensL Ls).flatten]) := fun w' hk => by
        have := shiftedQ_c (by' := n) (h1.keeps hk) (Sound.of k1) k2
        rwa [e1, e2] at this
      (refine tr_new (rk_sliceLit (.cons (.of rfl) (.cons (.of rfl) .nil)) rfl rfl rfl rfl) rfl (fun _ _ => ?_); refine tr_callV (rk_call (.of rfl) (.cons (.of rfl) .nil) inferInstance normc_) rfl (fun w' hm' => (hfi1 _ w' (Mem.rdBlk hm' .here rfl rfl))) ?_; refine a_s rfl rfl ?_; refine n_r ?_; refine tr_val (rk_loadB (.of rfl) (.there (.there (.there (.there (.there .here))))) norm_ (by rfl)) rfl ?_; refine tr_callV (rk_call (.of rfl) (.cons (.of rfl) .nil) inferInstance normc_) rfl (fun w' hm' => (hck1 w' (Mem.keeps hm'))) ?_; refine m_v rfl rfl ?_; refine tr_callV (rk_call (.of rfl) (.cons (.of rfl) (.cons (.of rfl) (.cons (.of rfl) .nil))) inferInstance normc_) rfl (fun w' hm' => (range_q n _ 10000000 w')) ?_; refine tr_new (rk_sliceLit (.cons (.of rfl) (.cons (.of rfl) .nil)) rfl rfl rfl rfl) rfl (fun _ _ => ?_); refine tr_callV (rk_call (.of rfl) (.cons (.of rfl) .nil) inferInstance normc_) rfl (fun w' hm' => (hfi2 _ w' (Mem.rdBlk hm' .here rfl rfl))) ?_; refine a_s rfl rfl ?_; refine n_r ?_; refine tr_new (rk_alloc rfl) rfl (fun _ _ => ?_); refine n_r ?_; refine tr_new (rk_alloc rfl) rfl (fun _ _ => ?_); refine n_t ?_; refine tr_seq ?_; refine s_r ?_; refine m_v rfl rfl ?_; refine tr_val (rk_eql (.of rfl) (.of rfl)) rfl ?_; refine n_t ?_; refine c_d rfl (fun hcd => ?_) (fun _ => by omega); refine tr_region ?_; refine tr_val (rk_loadB (.of rfl) (.there (.there (.there (.there (.there (.there (.there (.there .here)))))))) norm_ (by rfl)) rfl ?_; refine tr_val (rk_loadB (.of rfl) (.there (.there (.there (.there (.there (.there (.there (.there (.there .here))))))))) norm_ (by rfl)) rfl ?_)
      with_reducible apply tr_callV
      case hr => exact rk_call (.of rfl) (.cons (.of rfl) (.cons (.of rfl) .nil)) inferInstance normc_
      case hd => rfl
      case hc =>
        intro w' hm'
        exact hCq w' hm'.keeps hz1
      (refine m_v rfl rfl ?_; refine tr_val (rk_extract (.of rfl) rfl) rfl ?_; refine tr_val (rk_extract (.of rfl) rfl) rfl ?_; refine tr_store (.of rfl) (.of rfl) (.there .here) rfl rfl (okc_cons rfl (okc_cons rfl okc_nil)) (lenb rfl) norm_ ?_; refine a_s rfl rfl ?_; refine n_t ?_; refine tr_seq ?_; refine s_r ?_; refine m_v rfl rfl ?_; refine tr_val (rk_eql (.of rfl) (.of rfl)) rfl ?_; refine n_t ?_; refine c_d rfl (fun hcd => ?_) (fun _ => by omega); refine tr_region ?_; refine tr_val (rk_loadB (.of rfl) (.there (.there (.there (.there (.there (.there (.there (.there .here)))))))) norm_ (by rfl)) rfl ?_; refine m_v rfl rfl ?_)
      with_reducible apply tr_call
      case hr => exact rk_call (.of rfl) (.cons (.of rfl) (.cons (.of rfl) .nil)) inferInstance normc_
      case hd => rfl
      case ht => exact Takes.nil
      case hc =>
        intro w1 fp hm1 _ hs1
        obtain rfl : fp = [] := hs1
        exact hSq w1 hm1.keeps
      intro v3 _
      dsimp only [id_eq, List.cons_append, List.nil_append]
      refine tr_rowSl (E := 115) (sz := 6) (v := v3) (by exact .here) fun x3 y3 e3 => ?_
      subst e3
      (refine m_v rfl rfl ?_; refine tr_val (rk_extract (.of rfl) rfl) rfl ?_; refine tr_val (rk_extract (.of rfl) rfl) rfl ?_; refine tr_store (.of rfl) (.of rfl) (.there (.there .here)) rfl rfl (okc_cons rfl okc_nil) (lenb rfl) norm_ ?_; refine a_s rfl rfl ?_; refine n_r ?_; refine tr_val (rk_loadB (.of rfl) (.there (.there (.there (.there (.there (.there (.there (.there .here)))))))) norm_ (by rfl)) rfl ?_; refine tr_val (rk_loadB (.of rfl) (.there (.there .here)) norm_ (by rfl)) rfl ?_; refine tr_val (rk_eqlA (.of rfl) (.of rfl) (okL_int (okL_int okL_nil)) rfl) rfl ?_; refine m_v rfl rfl ?_; refine v_g rfl rfl rfl rfl ?_; refine v_g rfl rfl rfl rfl ?_; refine tr_vG1 rfl rfl inferInstance (fun hg hgp => (rk_eql (.ofg hg rfl) (.ofg hg rfl))) rfl ?_; refine tr_val (rk_pick_and (.of rfl) rfl) rfl ?_; refine m_v rfl rfl ?_; refine tr_vG1 rfl rfl inferInstance (fun hg hgp => (rk_loadB (.of rfl) (.there (.there (.there (.there (.there .here))))) norm_ (by rfl))) rfl ?_; refine v_g rfl rfl rfl rfl ?_; refine v_g rfl rfl rfl rfl ?_; refine tr_vG1 rfl rfl inferInstance (fun hg hgp => (rk_loadB (.of rfl) .here norm_ (by rfl))) rfl ?_; refine tr_callVG1 rfl rfl (fun hg => (rk_call (.of rfl) (.cons (.ofg hg rfl) (.cons (.ofg hg rfl) (.cons (.ofg hg rfl) (.cons (.ofg hg rfl) .nil)))) inferInstance normc_)) rfl (fun hg w' hm' => (hchg _ _ w' (rdEnF hm' (.there (.there (.there (.there (.there (.there .here)))))) rfl) (rdEnF hm' (.there .here) rfl))) ?_; refine tr_val (rk_pick_and (.of rfl) rfl) rfl ?_; refine a_s rfl rfl ?_; refine n_t ?_; refine tr_ret ?_; refine tr_retE rfl (ends1 rfl rfl) ?_)
      simp
    · obtain ⟨e1, e2⟩ := hE1 hz2
      subst e1 e2
      simp only [List.length_nil]
      have hchn : ∀ (v : Value) w', Rd w' v 6 (ensL []) → GivesV Tryz.prog 58 [.agg #[v], .int .i64 Es, .int .i64 Es, .agg #[.slice none 0 0]] w' (.bool true) := fun v w' r1 => hchg _ _ w' r1 (Rd.nil w' 6)
      (refine tr_new (rk_sliceLit (.cons (.of rfl) (.cons (.of rfl) .nil)) rfl rfl rfl rfl) rfl (fun _ _ => ?_); refine tr_callV (rk_call (.of rfl) (.cons (.of rfl) .nil) inferInstance normc_) rfl (fun w' hm' => (hfi1 _ w' (Mem.rdBlk hm' .here rfl rfl))) ?_; refine a_s rfl rfl ?_; refine n_r ?_; refine tr_val (rk_loadB (.of rfl) (.there (.there (.there (.there (.there .here))))) norm_ (by rfl)) rfl ?_; refine tr_callV (rk_call (.of rfl) (.cons (.of rfl) .nil) inferInstance normc_) rfl (fun w' hm' => (hck1 w' (Mem.keeps hm'))) ?_; refine m_v rfl rfl ?_; refine tr_callV (rk_call (.of rfl) (.cons (.of rfl) (.cons (.of rfl) (.cons (.of rfl) .nil))) inferInstance normc_) rfl (fun w' hm' => (range_q n _ 10000000 w')) ?_; refine tr_new (rk_sliceLit (.cons (.of rfl) (.cons (.of rfl) .nil)) rfl rfl rfl rfl) rfl (fun _ _ => ?_); refine tr_callV (rk_call (.of rfl) (.cons (.of rfl) .nil) inferInstance normc_) rfl (fun w' hm' => (hfi2 _ w' (Mem.rdBlk hm' .here rfl rfl))) ?_; refine a_s rfl rfl ?_; refine n_r ?_; refine tr_new (rk_alloc rfl) rfl (fun _ _ => ?_); refine n_r ?_; refine tr_new (rk_alloc rfl) rfl (fun _ _ => ?_); refine n_t ?_; refine tr_seq ?_; refine s_r ?_; refine m_v rfl rfl ?_; refine tr_val (rk_eql (.of rfl) (.of rfl)) rfl ?_; refine n_t ?_; refine c_d rfl (fun hcd => ?_) (fun _ => by omega); refine tr_region ?_; refine tr_val (rk_loadB (.of rfl) (.there (.there (.there (.there (.there (.there (.there (.there .here)))))))) norm_ (by rfl)) rfl ?_; refine tr_val (rk_loadB (.of rfl) (.there (.there (.there (.there (.there (.there (.there (.there (.there .here))))))))) norm_ (by rfl)) rfl ?_)
      with_reducible apply tr_callV
      case hr => exact rk_call (.of rfl) (.cons (.of rfl) (.cons (.of rfl) .nil)) inferInstance normc_
      case hd => rfl
      case hc =>
        intro w' hm'
        exact hCq w' hm'.keeps hz1
      (refine m_v rfl rfl ?_; refine tr_val (rk_extract (.of rfl) rfl) rfl ?_; refine tr_val (rk_extract (.of rfl) rfl) rfl ?_; refine tr_store (.of rfl) (.of rfl) (.there .here) rfl rfl (okc_cons rfl (okc_cons rfl okc_nil)) (lenb rfl) norm_ ?_; refine a_s rfl rfl ?_; refine n_t ?_; refine tr_seq ?_; refine s_r ?_; refine m_v rfl rfl ?_; refine tr_val (rk_eql (.of rfl) (.of rfl)) rfl ?_; refine n_t ?_; refine c_d rfl (fun _ => by omega) (fun hcd => ?_); refine s_t ?_; refine s_r ?_; refine tr_val (rk_loadB (.of rfl) (.there (.there (.there (.there (.there (.there (.there .here))))))) norm_ (by rfl)) rfl ?_; refine tr_val (rk_loadB (.of rfl) .here norm_ (by rfl)) rfl ?_; refine tr_val (rk_eqlA (.of rfl) (.of rfl) (okL_int (okL_int okL_nil)) rfl) rfl ?_; refine m_v rfl rfl ?_; refine v_g rfl rfl rfl rfl ?_; refine v_g rfl rfl rfl rfl ?_; refine tr_vG1 rfl rfl inferInstance (fun hg hgp => (rk_eql (.ofg hg rfl) (.ofg hg rfl))) rfl ?_; refine tr_val (rk_pick_and (.of rfl) rfl) rfl ?_; refine m_v rfl rfl ?_; refine tr_vG1 rfl rfl inferInstance (fun hg hgp => (rk_loadB (.of rfl) (.there (.there (.there (.there .here)))) norm_ (by rfl))) rfl ?_; refine v_g rfl rfl rfl rfl ?_; refine v_g rfl rfl rfl rfl ?_; refine tr_vG1 rfl rfl inferInstance (fun hg hgp => (rk_loadB (.of rfl) (.there .here) norm_ (by rfl))) rfl ?_; refine tr_callVG1 rfl rfl (fun hg => (rk_call (.of rfl) (.cons (.ofg hg rfl) (.cons (.ofg hg rfl) (.cons (.ofg hg rfl) (.cons (.ofg hg rfl) .nil)))) inferInstance normc_)) rfl (fun hg w' hm' => (hchn _ w' (rdEnF hm' (.there (.there (.there (.there (.there .here))))) rfl))) ?_; refine tr_val (rk_pick_and (.of rfl) rfl) rfl ?_; refine a_s rfl rfl ?_; refine n_t ?_; refine tr_ret ?_; refine tr_retE rfl (ends1 rfl rfl) ?_)
      simp
  have hX := hcb hz1
  cases hX
  by_cases hz2 : T2 = 0
  · obtain ⟨e1, e2⟩ := hE2 hz2
    obtain ⟨k1, k2⟩ := hok2 hz2
    have hSq : ∀ w', Keeps [] w w' → Gives Tryz.prog 94 [.agg #[sa], .int .i64 n] w' [] (fun _ : Value => True) (fun v => .tuple #[.agg #[v], .int .i64 Es]) (fun v => [row 115 6 v Ls.length (ensL Ls).flatten]) := fun w' hk => by
      have := shiftedQ_c (by' := n) (h1.keeps hk) (Sound.of k1) k2
      rwa [e1, e2] at this
    (refine tr_new (rk_sliceLit (.cons (.of rfl) (.cons (.of rfl) .nil)) rfl rfl rfl rfl) rfl (fun _ _ => ?_); refine tr_callV (rk_call (.of rfl) (.cons (.of rfl) .nil) inferInstance normc_) rfl (fun w' hm' => (hfi1 _ w' (Mem.rdBlk hm' .here rfl rfl))) ?_; refine a_s rfl rfl ?_; refine n_r ?_; refine tr_val (rk_loadB (.of rfl) (.there (.there (.there (.there (.there .here))))) norm_ (by rfl)) rfl ?_; refine tr_callV (rk_call (.of rfl) (.cons (.of rfl) .nil) inferInstance normc_) rfl (fun w' hm' => (hck1 w' (Mem.keeps hm'))) ?_; refine m_v rfl rfl ?_; refine tr_callV (rk_call (.of rfl) (.cons (.of rfl) (.cons (.of rfl) (.cons (.of rfl) .nil))) inferInstance normc_) rfl (fun w' hm' => (range_q n _ 10000000 w')) ?_; refine tr_new (rk_sliceLit (.cons (.of rfl) (.cons (.of rfl) .nil)) rfl rfl rfl rfl) rfl (fun _ _ => ?_); refine tr_callV (rk_call (.of rfl) (.cons (.of rfl) .nil) inferInstance normc_) rfl (fun w' hm' => (hfi2 _ w' (Mem.rdBlk hm' .here rfl rfl))) ?_; refine a_s rfl rfl ?_; refine n_r ?_; refine tr_new (rk_alloc rfl) rfl (fun _ _ => ?_); refine n_r ?_; refine tr_new (rk_alloc rfl) rfl (fun _ _ => ?_); refine n_t ?_; refine tr_seq ?_; refine s_r ?_; refine m_v rfl rfl ?_; refine tr_val (rk_eql (.of rfl) (.of rfl)) rfl ?_; refine n_t ?_; refine c_d rfl (fun _ => by omega) (fun hcd => ?_); refine s_t ?_; refine tr_seq ?_; refine s_r ?_; refine m_v rfl rfl ?_; refine tr_val (rk_eql (.of rfl) (.of rfl)) rfl ?_; refine n_t ?_; refine c_d rfl (fun hcd => ?_) (fun _ => by omega); refine tr_region ?_; refine tr_val (rk_loadB (.of rfl) (.there (.there (.there (.there (.there (.there (.there (.there .here)))))))) norm_ (by rfl)) rfl ?_; refine m_v rfl rfl ?_)
    with_reducible apply tr_call
    case hr => exact rk_call (.of rfl) (.cons (.of rfl) (.cons (.of rfl) .nil)) inferInstance normc_
    case hd => rfl
    case ht => exact Takes.nil
    case hc =>
      intro w1 fp hm1 _ hs1
      obtain rfl : fp = [] := hs1
      exact hSq w1 hm1.keeps
    intro v3 _
    dsimp only [id_eq, List.cons_append, List.nil_append]
    refine tr_rowSl (E := 115) (sz := 6) (v := v3) (by exact .here) fun x3 y3 e3 => ?_
    subst e3
    (refine m_v rfl rfl ?_; refine tr_val (rk_extract (.of rfl) rfl) rfl ?_; refine tr_val (rk_extract (.of rfl) rfl) rfl ?_; refine tr_store (.of rfl) (.of rfl) (.there .here) rfl rfl (okc_cons rfl okc_nil) (lenb rfl) norm_ ?_; refine a_s rfl rfl ?_; refine n_r ?_; refine tr_val (rk_loadB (.of rfl) (.there (.there (.there (.there (.there (.there (.there (.there .here)))))))) norm_ (by rfl)) rfl ?_; refine tr_val (rk_loadB (.of rfl) (.there (.there .here)) norm_ (by rfl)) rfl ?_; refine tr_val (rk_eqlA (.of rfl) (.of rfl) (okL_int (okL_int okL_nil)) rfl) rfl ?_; refine m_v rfl rfl ?_; refine v_g rfl rfl rfl rfl ?_; refine v_g rfl rfl rfl rfl ?_; refine tr_vG1 rfl rfl inferInstance (fun hg hgp => (rk_eql (.ofg hg rfl) (.ofg hg rfl))) rfl ?_; refine tr_val (rk_pick_and (.of rfl) rfl) rfl ?_; refine m_v rfl rfl ?_; refine tr_vG1 rfl rfl inferInstance (fun hg hgp => (rk_loadB (.of rfl) (.there (.there (.there (.there (.there .here))))) norm_ (by rfl))) rfl ?_; refine v_g rfl rfl rfl rfl ?_; refine v_g rfl rfl rfl rfl ?_; refine tr_vG1 rfl rfl inferInstance (fun hg hgp => (rk_loadB (.of rfl) .here norm_ (by rfl))) rfl ?_; refine tr_callVG1 rfl rfl (fun hg => (rk_call (.of rfl) (.cons (.ofg hg rfl) (.cons (.ofg hg rfl) (.cons (.ofg hg rfl) (.cons (.ofg hg rfl) .nil)))) inferInstance normc_)) rfl (fun hg w' hm' => (hchg _ _ w' (rdEnF hm' (.there (.there (.there (.there (.there (.there .here)))))) rfl) (rdEnF hm' (.there .here) rfl))) ?_; refine tr_val (rk_pick_and (.of rfl) rfl) rfl ?_; refine a_s rfl rfl ?_; refine n_t ?_; refine tr_ret ?_; refine tr_retE rfl (ends1 rfl rfl) ?_)
    simp
  · obtain ⟨e1, e2⟩ := hE1 hz2
    subst e1 e2
    simp only [List.length_nil]
    have hchn : ∀ (v : Value) w', Rd w' v 6 (ensL []) → GivesV Tryz.prog 58 [.agg #[v], .int .i64 Es, .int .i64 Es, .agg #[.slice none 0 0]] w' (.bool true) := fun v w' r1 => hchg _ _ w' r1 (Rd.nil w' 6)
    (refine tr_new (rk_sliceLit (.cons (.of rfl) (.cons (.of rfl) .nil)) rfl rfl rfl rfl) rfl (fun _ _ => ?_); refine tr_callV (rk_call (.of rfl) (.cons (.of rfl) .nil) inferInstance normc_) rfl (fun w' hm' => (hfi1 _ w' (Mem.rdBlk hm' .here rfl rfl))) ?_; refine a_s rfl rfl ?_; refine n_r ?_; refine tr_val (rk_loadB (.of rfl) (.there (.there (.there (.there (.there .here))))) norm_ (by rfl)) rfl ?_; refine tr_callV (rk_call (.of rfl) (.cons (.of rfl) .nil) inferInstance normc_) rfl (fun w' hm' => (hck1 w' (Mem.keeps hm'))) ?_; refine m_v rfl rfl ?_; refine tr_callV (rk_call (.of rfl) (.cons (.of rfl) (.cons (.of rfl) (.cons (.of rfl) .nil))) inferInstance normc_) rfl (fun w' hm' => (range_q n _ 10000000 w')) ?_; refine tr_new (rk_sliceLit (.cons (.of rfl) (.cons (.of rfl) .nil)) rfl rfl rfl rfl) rfl (fun _ _ => ?_); refine tr_callV (rk_call (.of rfl) (.cons (.of rfl) .nil) inferInstance normc_) rfl (fun w' hm' => (hfi2 _ w' (Mem.rdBlk hm' .here rfl rfl))) ?_; refine a_s rfl rfl ?_; refine n_r ?_; refine tr_new (rk_alloc rfl) rfl (fun _ _ => ?_); refine n_r ?_; refine tr_new (rk_alloc rfl) rfl (fun _ _ => ?_); refine n_t ?_; refine tr_seq ?_; refine s_r ?_; refine m_v rfl rfl ?_; refine tr_val (rk_eql (.of rfl) (.of rfl)) rfl ?_; refine n_t ?_; refine c_d rfl (fun _ => by omega) (fun hcd => ?_); refine s_t ?_; refine tr_seq ?_; refine s_r ?_; refine m_v rfl rfl ?_; refine tr_val (rk_eql (.of rfl) (.of rfl)) rfl ?_; refine n_t ?_; refine c_d rfl (fun _ => by omega) (fun hcd => ?_); refine s_t ?_; refine s_r ?_; refine tr_val (rk_loadB (.of rfl) (.there (.there (.there (.there (.there (.there (.there .here))))))) norm_ (by rfl)) rfl ?_; refine tr_val (rk_loadB (.of rfl) (.there .here) norm_ (by rfl)) rfl ?_; refine tr_val (rk_eqlA (.of rfl) (.of rfl) (okL_int (okL_int okL_nil)) rfl) rfl ?_; refine m_v rfl rfl ?_; refine v_g rfl rfl rfl rfl ?_; refine v_g rfl rfl rfl rfl ?_; refine tr_vG1 rfl rfl inferInstance (fun hg hgp => (rk_eql (.ofg hg rfl) (.ofg hg rfl))) rfl ?_; refine tr_val (rk_pick_and (.of rfl) rfl) rfl ?_; refine m_v rfl rfl ?_; refine tr_vG1 rfl rfl inferInstance (fun hg hgp => (rk_loadB (.of rfl) (.there (.there (.there (.there .here)))) norm_ (by rfl))) rfl ?_; refine v_g rfl rfl rfl rfl ?_; refine v_g rfl rfl rfl rfl ?_; refine tr_vG1 rfl rfl inferInstance (fun hg hgp => (rk_loadB (.of rfl) .here norm_ (by rfl))) rfl ?_; refine tr_callVG1 rfl rfl (fun hg => (rk_call (.of rfl) (.cons (.ofg hg rfl) (.cons (.ofg hg rfl) (.cons (.ofg hg rfl) (.cons (.ofg hg rfl) .nil)))) inferInstance normc_)) rfl (fun hg w' hm' => (hchn _ w' (rdEnF hm' (.there (.there (.there (.there (.there .here))))) rfl))) ?_; refine tr_val (rk_pick_and (.of rfl) rfl) rfl ?_; refine a_s rfl rfl ?_; refine n_t ?_; refine tr_ret ?_; refine tr_retE rfl (ends1 rfl rfl) ?_)
    simp
end Go.Proofs.A1

