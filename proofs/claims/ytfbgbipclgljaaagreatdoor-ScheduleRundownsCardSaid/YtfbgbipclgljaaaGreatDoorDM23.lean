/- Parts of the proof: S70 S71. -/
import Derived.Test.YtfbgbipclgljaaaGreatDoorDM22
import Derived.Test.YtfbgbipclgljaaaGreatDoorDM06
set_option linter.unusedSectionVars false
set_option linter.unusedVariables false
set_option linter.unusedSimpArgs false
/- S70 -/
namespace Go.Proofs.A1
open Go Go.SL

def rd0 (es : List En) (f t : Int) : Int := firstF [chkF es, whenF (decide (f < 0) || decide (t < f) || decide (10000000 < t)) 14]
def rdE (es : List En) (f t : Int) : Int := if rd0 es f t ≠ 0 then rd0 es f t else if 256 < t - f then 5 else 0
def rdN (es : List En) (f t : Int) : Nat := if rdE es f t = 0 then (t - f).toNat else 0
theorem rd0_ok {es : List En} {f t : Int} (h : rd0 es f t = 0) : chkF es = 0 ∧ 0 ≤ f ∧ f ≤ t ∧ t ≤ 10000000 := by
  unfold rd0 at h
  rw [firstF_zero] at h
  simp only [List.mem_cons, List.not_mem_nil, or_false, forall_eq_or_imp, forall_eq] at h
  rw [whenF_zero (by decide)] at h
  have := h.2
  simp only [Bool.or_eq_false_iff, decide_eq_false_iff_not] at this
  exact ⟨h.1, by omega⟩
theorem rep_flat (z : Value) : ∀ n, (List.replicate n [z]).flatten = List.replicate n z
  | 0 => rfl
  | n + 1 => by rw [List.replicate_succ, List.replicate_succ, List.flatten_cons, rep_flat z n]; rfl
theorem set_mid {vs : List Value} {k n : Nat} {z v : Value} (hl : vs.length = k) (h : k < n) : setCells (vs ++ List.replicate (n - k) z) (k * 1) [v] = (vs ++ [v]) ++ List.replicate (n - (k + 1)) z := by
  have : n - k = (n - (k + 1)) + 1 := by omega
  subst hl
  rw [this, Nat.mul_one, setCells, setCells, List.set_append_right _ _ (Nat.le_refl _), Nat.sub_self, List.replicate_succ, List.set_cons_zero]
  simp
theorem rundown_c {sv : Value} {es : List En} {f t : Int} {w : World} (h1 : Rd w sv 6 (ensL es)) (hG : Glob w) :
    Gives Tryz.prog 78 [.agg #[sv], .agg #[.int .i64 f, .int .i64 t]] w [] (fun x : Value × List Value => x.2.length = rdN es f t) (fun x => .tuple #[x.1, .int .i64 (rdE es f t)]) (fun x => [row 38 1 x.1 x.2.length x.2, poolQ (rdR 117 es f) x.2]) := by
  have hone := Rd.one h1
  refine gives_of_tr Tryz.func78 rfl rfl ?_
  (refine s_r ?_; refine tr_new (rk_box (.of rfl) rfl) rfl (fun _ _ => ?_); refine tr_new (rk_box (.of rfl) rfl) rfl (fun _ _ => ?_); refine a_s rfl rfl ?_; refine a_s rfl rfl ?_; refine n_r ?_; refine f_a rfl rfl norm0_ ?_; refine tr_val (rk_load1 (.of rfl) (At.lit .here rfl)) rfl ?_; refine tr_val (rk_lss (.of rfl) (.of rfl)) rfl ?_; refine m_v rfl rfl ?_; refine tr_vG1 rfl rfl inferInstance (fun hg hgp => (rk_fieldAddr (.of rfl) norm0_)) rfl ?_; refine tr_vG1 rfl rfl inferInstance (fun hg hgp => (rk_load1 (.ofg hg rfl) (At.lit .here rfl))) rfl ?_; refine tr_vG1 rfl rfl inferInstance (fun hg hgp => (rk_fieldAddr (.of rfl) norm0_)) rfl ?_; refine tr_vG1 rfl rfl inferInstance (fun hg hgp => (rk_load1 (.ofg hg rfl) (At.lit .here rfl))) rfl ?_; refine tr_vG1 rfl rfl inferInstance (fun hg hgp => (rk_gtr (.ofg hg rfl) (.ofg hg rfl))) rfl ?_; refine tr_val (rk_pick_or (.of rfl) rfl) rfl ?_; refine m_v rfl rfl ?_; refine tr_vG1 rfl rfl inferInstance (fun hg hgp => (rk_fieldAddr (.of rfl) norm0_)) rfl ?_; refine tr_vG1 rfl rfl inferInstance (fun hg hgp => (rk_load1 (.ofg hg rfl) (At.lit .here rfl))) rfl ?_; refine tr_vG1 rfl rfl inferInstance (fun hg hgp => (rk_gtr (.ofg hg rfl) (.of rfl))) rfl ?_; refine tr_val (rk_pick_or (.of rfl) rfl) rfl ?_; refine a_s rfl rfl ?_; refine n_t ?_; refine tr_seq ?_; refine s_r ?_; refine tr_val (rk_loadB (.of rfl) (.there .here) norm_ (by rfl)) rfl ?_; refine tr_callV (rk_call (.of rfl) (.cons (.of rfl) .nil) inferInstance normc_) rfl (fun w' hm' => (chk_c (Rd.keeps h1 (Mem.keeps hm')) (Glob.keeps hG (Mem.keeps hm')))) ?_; refine m_v rfl rfl ?_; refine tr_callV (rk_call (.of rfl) (.cons (.of rfl) (.cons (.of rfl) .nil)) inferInstance normc_) rfl (fun w' hm' => (when_c _ 14 w')) ?_; refine tr_new (rk_sliceLit (.cons (.of rfl) (.cons (.of rfl) .nil)) rfl rfl rfl rfl) rfl (fun _ _ => ?_); refine tr_callV (rk_call (.of rfl) (.cons (.of rfl) .nil) inferInstance normc_) rfl (fun w' hm' => (first_pB (Mem.rdBlk hm' .here rfl rfl) (IntL.cons (IntL.cons IntL.nil)))) ?_; refine a_s rfl rfl ?_; refine n_r ?_; refine m_v rfl rfl ?_; refine tr_val (rk_neq (.of rfl) (.of rfl)) rfl ?_; refine n_t ?_; refine c_d rfl (fun hcd => ?_) (fun hcd => ?_); refine s_r ?_; refine m_v rfl rfl ?_; refine a_s rfl rfl ?_; refine a_s rfl rfl ?_; refine n_t ?_; refine r_t ?_; rotate_left; refine s_t ?_; refine tr_seq ?_; refine s_r ?_; refine f_a rfl rfl norm0_ ?_; refine tr_val (rk_load1 (.of rfl) (At.lit (.there .here) rfl)) rfl ?_; refine f_a rfl rfl norm0_ ?_; refine tr_val (rk_load1 (.of rfl) (At.lit (.there .here) rfl)) rfl ?_; rotate_right)
  · have hcd' : rd0 es f t ≠ 0 := hcd
    have hE : rdE es f t = rd0 es f t := by rw [rdE, if_pos hcd']
    have hE0 : ¬ rdE es f t = 0 := by rw [hE]; exact hcd'
    rw [hE]
    refine tr_rowNil 38 1 ?_
    refine tr_poolQNil (rdR 117 es f) ?_
    first | with_reducible apply tr_retM | with_reducible apply tr_endM
    case he => exact ends2 rfl rfl rfl
    case hR =>
      intro w' hm'
      exact gives_end (.slice none 0 0, []) (show [].length = rdN es f t by rw [rdN, if_neg hE0]; rfl) (show Takes _ [row 38 1 (.slice none 0 0) 0 [], poolQ (rdR 117 es f) []] _ by exact .cons (.there .here) (.cons .here .nil)) hm' rfl
  have hz : rd0 es f t = 0 := Decidable.not_not.1 hcd
  obtain ⟨hc0, hf0, hft, ht1⟩ := rd0_ok hz
  have hs := Sound.of hc0
  have hfew := hs.all.few
  (refine tr_val (rk_sub (.of rfl) (.of rfl) (ini (by omega))) rfl ?_; refine tr_val (rk_gtr (.of rfl) (.of rfl)) rfl ?_; refine n_t ?_; refine c_d rfl (fun hcd => ?_) (fun hcd => ?_); refine s_r ?_; refine a_s rfl rfl ?_; refine a_s rfl rfl ?_; refine n_t ?_; refine r_t ?_; rotate_left; refine s_t ?_; refine s_r ?_; refine tr_val (rk_loadB (.of rfl) (.there (.there .here)) norm_ (by rfl)) rfl ?_; rotate_right)
  · have hE : rdE es f t = 5 := by rw [rdE, if_neg (by rw [hz]; decide), if_pos hcd]
    have hE0 : ¬ rdE es f t = 0 := by rw [hE]; decide
    rw [hE]
    refine tr_rowNil 38 1 ?_
    refine tr_poolQNil (rdR 117 es f) ?_
    first | with_reducible apply tr_retM | with_reducible apply tr_endM
    case he => exact ends2 rfl rfl rfl
    case hR =>
      intro w' hm'
      exact gives_end (.slice none 0 0, []) (show [].length = rdN es f t by rw [rdN, if_neg hE0]; rfl) (show Takes _ [row 38 1 (.slice none 0 0) 0 [], poolQ (rdR 117 es f) []] _ by exact .cons (.there .here) (.cons .here .nil)) hm' rfl
  have hE : rdE es f t = 0 := by rw [rdE, if_neg (by rw [hz]; decide), if_neg hcd]
  have hN : rdN es f t = (t - f).toNat := by rw [rdN, if_pos hE]
  rw [hE, hN]
  obtain ⟨n, hn⟩ : ∃ n : Nat, t - f = n := ⟨(t - f).toNat, by omega⟩
  rw [hn, Int.toNat_natCast]
  with_reducible apply tr_call
  case hr => exact rk_call (.of rfl) (.cons (.of rfl) .nil) inferInstance normc_
  case hd => rfl
  case ht => exact Takes.nil
  case hc =>
    intro w1 fp hm1 _ hs1
    obtain rfl : fp = [] := hs1
    exact spans_c (h1.keeps hm1.keeps) hs.all.ok hs.all.few (hG.keeps hm1.keeps)
  intro v8 _
  dsimp only [id_eq, List.cons_append, List.nil_append]
  (refine a_s rfl rfl ?_; refine n_r ?_; refine f_a rfl rfl norm0_ ?_; refine tr_val (rk_load1 (.of rfl) (At.lit (.there (.there .here)) rfl)) rfl ?_; refine f_a rfl rfl norm0_ ?_; refine tr_val (rk_load1 (.of rfl) (At.lit (.there (.there .here)) rfl)) rfl ?_; refine tr_val (rk_sub (.of rfl) (.of rfl) (ini (by omega))) rfl ?_)
  rw [hn]
  with_reducible apply tr_new
  case hr =>
    with_reducible apply rk_make
    case hx => exact Is.of rfl
    case hy => exact Is.of rfl
    case hl => omega
    case hb => omega
    case hz => rfl
    case hsz => rfl
    case h63 => omega
  case hd => rfl
  intro bg hbg
  rw [show (Value.slice none 0 0).cells.toList = [Value.slice none 0 0] from rfl, rep_flat]
  refine tr_poolQNil (rdR 117 es f) ?_
  (refine a_s rfl rfl ?_; refine n_t ?_; refine tr_seq ?_; refine s_r ?_; refine m_v rfl rfl ?_; refine tr_val (rk_len_slice (.of rfl)) rfl ?_; refine m_v rfl rfl ?_; refine n_t ?_; refine tr_block ?_)
  rename_i b2 hb2 b3 hb3 bq hbq hcx htr
  refine tr_for (ι := Nat × List Value) (fun x => x.1 ≤ n ∧ x.2.length = x.1) (fun x => [(51, .int .i64 (x.1 : Int)), (50, .int .i64 (n : Int)), (9, .slice (some ⟨bg, 0, none⟩) n n), (8, v8), (2, .pointer (some ⟨b2, 0, none⟩)), (3, .pointer (some ⟨b3, 0, none⟩))])
    (fun x => [blk bg (.cells (x.2 ++ List.replicate (n - x.1) (Value.slice none 0 0)).toArray 38), poolQ (rdR 117 es f) x.2, row 191 8 v8 es.length (plR es es.length), blk b2 (.cells #[sv] 33), blk b3 (.cells #[.int .i64 f, .int .i64 t] 66)]) (fun x => n - x.1) ?_ ?_
  · apply tr_start (0, []) ⟨Nat.zero_le _, rfl⟩
    case hs1 => exact .cons rfl (.cons rfl (.cons rfl (.cons rfl (.cons rfl (.cons rfl .nil)))))
    case ht =>
      show Takes _ [blk bg (.cells (List.replicate n (Value.slice none 0 0)).toArray 38), poolQ (rdR 117 es f) [], _, _, _] _
      exact .cons (.there .here) (.cons .here (.cons .here (.cons (.there (.there .here)) (.cons (.there .here) .nil))))
  rintro ⟨k, vs⟩ ⟨hk, hvl⟩
  dsimp only at hk hvl ⊢
  by_cases hlt : k < n
  · (refine s_r ?_; refine tr_val (rk_lss (.of rfl) (.of rfl)) rfl ?_; refine n_t ?_; refine tr_seq ?_; refine c_d rfl (fun hcd => ?_) (fun _ => by omega); refine s_t ?_; refine tr_seq ?_; refine tr_block ?_; refine s_r ?_; refine m_v rfl rfl ?_; refine a_s rfl rfl ?_; refine n_t ?_; refine tr_region ?_; refine m_v rfl rfl ?_; refine m_v rfl rfl ?_; refine m_v rfl rfl ?_; refine f_a rfl rfl norm0_ ?_; refine tr_val (rk_load1 (.of rfl) (At.lit (.there (.there (.there (.there .here)))) rfl)) rfl ?_; refine m_v rfl rfl ?_; refine tr_val (rk_add (.of rfl) (.of rfl) (ini (by omega))) rfl ?_)
    with_reducible apply tr_call
    case hr => exact rk_call (.of rfl) (.cons (.of rfl) (.cons (.of rfl) .nil)) inferInstance normc_
    case hd => rfl
    case ht => exact Takes.nil
    case hc =>
      intro w1 fp hm1 _ hs1
      obtain rfl : fp = [] := hs1
      exact shares_c (rdPl hm1 (by exact Take.there (.there .here))) hs
    intro u _
    dsimp only [id_eq, List.cons_append, List.nil_append]
    refine tr_rowSl (E := 117) (sz := 3) (by exact .here) fun ua uc eu => ?_
    subst eu
    have hsl : k * 1 + 1 ≤ (vs ++ List.replicate (n - k) (Value.slice none 0 0)).length := by rw [List.length_append, List.length_replicate, hvl]; omega
    have hst := set_mid (z := Value.slice none 0 0) (v := Value.slice ua (shF es (f + (k : Int))).length uc) hvl hlt
    (refine tr_val (rk_indexAddr (.of rfl) (.of rfl) rfl (by omega) hcd norm1_) rfl ?_; refine tr_store (.of rfl) (.of rfl) (.there .here) rfl rfl (okc_cons rfl okc_nil) hsl hst ?_; refine tr_nil ?_; refine tr_blk_normal ?_; refine tr_then ?_; refine tr_region ?_; refine tr_val (rk_add (.of rfl) (.of rfl) (ini (by omega))) rfl ?_; refine m_v rfl rfl ?_; refine n_t ?_)
    refine tr_poolQAdd (R := rdR 117 es f) (v := .slice ua (shF es (f + (k : Int))).length uc) (A := row 117 3 (.slice ua (shF es (f + (k : Int))).length uc) (shF es (f + (k : Int))).length ((shF es (f + (k : Int))).flatMap triV)) (by exact Take.there (.there .here)) (by exact Take.there .here) (by rw [rdR, hvl]) ?_
    apply tr_next (k + 1, vs ++ [Value.slice ua (shF es (f + (k : Int))).length uc]) ⟨hlt, by show (vs ++ [Value.slice ua (shF es (f + (k : Int))).length uc]).length = k + 1; rw [List.length_append, hvl]; rfl⟩ (by show n - (k + 1) < n - k; omega)
    case hs1 => exact .cons rfl (.cons rfl (.cons rfl (.cons rfl (.cons rfl (.cons rfl .nil)))))
    case ht =>
      show Takes _ [blk bg (.cells ((vs ++ [Value.slice ua (shF es (f + (k : Int))).length uc]) ++ List.replicate (n - (k + 1)) (Value.slice none 0 0)).toArray 38), poolQ (rdR 117 es f) (vs ++ [Value.slice ua (shF es (f + (k : Int))).length uc]), _, _, _] _
      exact .cons (.there .here) (.cons .here (.cons .here (.cons .here (.cons .here .nil))))
  · obtain rfl : k = n := by omega
    refine tr_rowShut (E := 38) (sz := 1) (g := bg) (n := k) (cap := k) (xs := vs) (cur := List.replicate (k - k) (Value.slice none 0 0)) (by exact .here) (Nat.le_refl _) (by unfold maxLen; omega) (by rw [List.length_append, List.length_replicate, hvl]; omega) (by rw [hvl]; omega) ?_
    (refine s_r ?_; refine tr_val (rk_lss (.of rfl) (.of rfl)) rfl ?_; refine n_t ?_; refine tr_seq ?_; refine c_d rfl (fun _ => by omega) (fun hcd => ?_); refine x_t ?_; refine tr_then_exit ?_; refine tr_blk_exit ?_; refine tr_then ?_; refine s_r ?_; refine m_v rfl rfl ?_; refine a_s rfl rfl ?_; refine a_s rfl rfl ?_; refine n_t ?_; refine tr_ret ?_)
    first | with_reducible apply tr_retM | with_reducible apply tr_endM
    case he => exact ends2 rfl rfl rfl
    case hR =>
      intro w' hm'
      exact gives_end (.slice (some ⟨bg, 0, none⟩) k k, vs) hvl (show Takes _ [row 38 1 (.slice (some ⟨bg, 0, none⟩) k k) vs.length vs, poolQ (rdR 117 es f) vs] _ by rw [hvl]; exact .cons .here (.cons .here .nil)) hm' rfl
end Go.Proofs.A1


/- S71 -/
namespace Go.Proofs.A1
open Go Go.SL

theorem Gives.sub {P : Program} {f : FuncId} {args : List Value} {w : World} {md : List Nat} {ι : Type} {Φ : ι → Prop} {val : ι → Value} {own : ι → List Asn} (h : Gives P f args w md Φ val own) :
    Gives P f args w md (fun _ : { x : ι // Φ x } => True) (fun x => val x.1) (fun x => own x.1) :=
  Calls.mono h fun e w' ⟨x, he, hp, hr⟩ => ⟨⟨x, hp⟩, he, trivial, hr⟩
def glst (N : Nat) : Value → { x : Value × List Value // x.2.length = N }
  | .agg cs => if h : (cs.toList.tail).length = N then ⟨(cs.getD 0 undef, cs.toList.tail), h⟩ else ⟨(undef, List.replicate N undef), by simp⟩
  | _ => ⟨(undef, List.replicate N undef), by simp⟩
theorem glst_of (N : Nat) (x : { x : Value × List Value // x.2.length = N }) : ∃ v, glst N v = x := by
  obtain ⟨⟨v, vs⟩, h⟩ := x
  refine ⟨.agg (v :: vs).toArray, ?_⟩
  have h' : vs.length = N := h
  simp [glst, h']
theorem frE_0 {f t : Int} (h : frE f t = 0) : 0 ≤ f ∧ f ≤ t ∧ t ≤ 10000000 ∧ t - f ≤ 256 := by
  unfold frE at h
  split at h
  · exact absurd h (by decide)
  · rw [whenF_zero (by decide)] at h
    simp only [decide_eq_false_iff_not] at h
    omega
theorem shF_le (es : List En) (f : Int) : (shF es f).length ≤ 2 := by
  unfold shF
  split <;> simp
theorem rd0_eq (es : List En) (f t : Int) : rd0 es f t = if chkF es ≠ 0 then chkF es else if (f < 0 ∨ t < f) ∨ 10000000 < t then 14 else 0 := by
  have e : whenF (decide (f < 0) || decide (t < f) || decide (10000000 < t)) 14 = if (f < 0 ∨ t < f) ∨ 10000000 < t then 14 else 0 := by
    by_cases h : (f < 0 ∨ t < f) ∨ 10000000 < t
    · rw [if_pos h, show (decide (f < 0) || decide (t < f) || decide (10000000 < t)) = true by simpa using h]; rfl
    · rw [if_neg h, show (decide (f < 0) || decide (t < f) || decide (10000000 < t)) = false by simpa using h]; rfl
  rw [rd0, firstF2, e]
theorem rdE_1 {es : List En} {f t : Int} (h : chkF es ≠ 0) : rdE es f t = chkF es := by
  have : rd0 es f t = chkF es := by rw [rd0_eq, if_pos h]
  rw [rdE, this, if_pos h]
theorem rdE_2 {es : List En} {f t : Int} (h : chkF es = 0) : rdE es f t = frE f t := by
  have e := rd0_eq es f t
  rw [if_neg (by rw [h]; decide)] at e
  rw [rdE, frE, e]
  by_cases h2 : (f < 0 ∨ t < f) ∨ 10000000 < t
  · simp only [if_pos h2]; rfl
  · simp only [if_neg h2]
    by_cases h3 : 256 < t - f <;> simp [h3, whenF]
set_option maxHeartbeats 4000000 in
theorem rundowns_law {sv : Value} {es : List En} {f t : Int} {w : World} (h1 : Rd w sv 6 (ensL es)) (hG : Glob w) (hT : Tab10 w) :
    GivesV Tryz.prog 11 [.agg #[sv], .agg #[.int .i64 f, .int .i64 t]] w (.bool true) := by
  have haw : ∀ w', Keeps [] w w' → GivesV Tryz.prog 17 [] w' (.bool true) := fun w' hk => awake_c w' (hG.keeps hk) (hT.keeps hk)
  have hsh : ∀ w', Keeps [] w w' → GivesV Tryz.prog 18 [.agg #[sv]] w' (.bool (shortB es)) := fun w' hk => short_c (h1.keeps hk)
  have hck : ∀ w', Keeps [] w w' → GivesV Tryz.prog 23 [.agg #[sv]] w' (.int .i64 (chkF es)) := fun w' hk => chkQ_c (h1.keeps hk)
  have hone1 := Rd.one h1
  refine givesV_of_tr Tryz.func11 rfl rfl ?_
  (refine s_r ?_; refine tr_new (rk_box (.of rfl) rfl) rfl (fun _ _ => ?_); refine tr_new (rk_box (.of rfl) rfl) rfl (fun _ _ => ?_); refine a_s rfl rfl ?_; refine n_t ?_; refine tr_seq ?_; refine s_r ?_; refine tr_callV (rk_call (.of rfl) .nil inferInstance normc_) rfl (fun w' hm' => (haw w' (Mem.keeps hm'))) ?_; refine tr_val (rk_not (.of rfl)) rfl ?_; refine m_v rfl rfl ?_; refine tr_vG1 rfl rfl inferInstance (fun hg hgp => (rk_loadB (.of rfl) (.there .here) norm_ (by rfl))) rfl ?_; refine tr_callVG1 rfl rfl (fun hg => (rk_call (.of rfl) (.cons (.ofg hg rfl) .nil) inferInstance normc_)) rfl (fun hg w' hm' => (hsh w' (Mem.keeps hm'))) ?_; refine tr_vG1 rfl rfl inferInstance (fun hg hgp => (rk_not (.ofg hgp rfl))) rfl ?_; refine tr_val (rk_pick_or (.of rfl) rfl) rfl ?_; refine n_t ?_; refine c_b rfl (fun hcd => ?_) (fun hcd => ?_); refine s_r ?_; refine tr_callV (rk_call (.of rfl) .nil inferInstance normc_) rfl (fun w' hm' => (haw w' (Mem.keeps hm'))) ?_; refine a_s rfl rfl ?_; refine n_t ?_; refine r_t ?_; refine tr_retE rfl (ends1 rfl rfl) ?_; rotate_left; refine s_t ?_; refine tr_seq ?_; rotate_right)
  · rfl
  rename_i b2 hb2 b3 hb3
  have hfe := shortB_few hcd.2
  clear hcd
  generalize hE : rdE es f t = E
  generalize hN : rdN es f t = N
  have hRd : ∀ (sv' : Value) w', Keeps [] w w' → Rd w' sv' 6 (ensL es) → Gives Tryz.prog 78 [.agg #[sv'], .agg #[.int .i64 f, .int .i64 t]] w' [] (fun _ : { x : Value × List Value // x.2.length = N } => True) (fun x => .tuple #[x.1.1, .int .i64 E]) (fun x => [row 38 1 x.1.1 x.1.2.length x.1.2, poolQ (rdR 117 es f) x.1.2]) := fun sv' w' hk h => by
    have := Gives.sub (rundown_c (f := f) (t := t) h (hG.keeps hk))
    rw [hE, hN] at this
    exact this
  generalize hQ : Exit.then _ _ = Q
  suffices hk : ∀ (v : Value) (vs : List Value), vs.length = N → Tr _ _ [(6, .int .i64 E), (5, v), (2, .pointer (some ⟨b2, 0, none⟩)), (3, .pointer (some ⟨b3, 0, none⟩))] [row 38 1 v vs.length vs, poolQ (rdR 117 es f) vs, blk b2 (.cells #[sv] 24), blk b3 (.cells #[.int .i64 f, .int .i64 t] 66)] (Q .normal) by
    with_reducible refine tr_drawP 7 6 (by kernel_rfl) (pure_at rfl (by kernel_rfl) (by kernel_rfl)) ?_
    refine am_val (fun β => (rk_loadB (.of rfl) (.there .here) norm_ (by rfl))) ind0 rfl ?_
    dsimp only [Nat.zero_add, Nat.reduceAdd]
    with_reducible apply am_call (ι := Value) (Φ := fun _ => True) (val := fun v => .agg #[v]) (own := fun v => [row 138 6 v es.length (enR es es.length)]) (g := id) (B := []) (args := fun _ => [.agg #[sv]])
    case hg => exact fun x => ⟨x, rfl⟩
    case hB => rfl
    case hr => exact fun β => rk_call (.of rfl) (.cons (.of rfl) .nil) inferInstance rfl
    case hd => rfl
    case hc => exact fun β w' hb => own_c (h1.keeps hb.mem.keeps) hfe
    dsimp only [id_eq, Nat.reduceAdd]
    refine am_val (fun β => (rk_loadB (.of rfl) .here norm_ (by rfl))) ind0 rfl ?_
    dsimp only [Nat.reduceAdd]
    with_reducible apply am_call (ι := { x : Value × List Value // x.2.length = N }) (Φ := fun _ => True) (val := fun x => .tuple #[x.1.1, .int .i64 E]) (own := fun x => [row 38 1 x.1.1 x.1.2.length x.1.2, poolQ (rdR 117 es f) x.1.2]) (g := glst N) (B := [1]) (args := fun β => [.agg #[β 1], .agg #[.int .i64 f, .int .i64 t]])
    case hg => exact glst_of N
    case hB => kernel_rfl
    case hr => exact fun β => rk_call (.of rfl) (.cons (.of rfl) (.cons (.of rfl) .nil)) inferInstance rfl
    case hd => rfl
    case hc =>
      intro β w' hb
      have m1 := hb.at 1 (by simp) (s := ⟨fun β => .agg #[β 1], fun β => [row 138 6 (β 1) es.length (enR es es.length)]⟩) (by kernel_rfl)
      dsimp only [List.cons_append, List.nil_append] at m1
      exact hRd _ w' hb.mem.keeps (rdEn m1 (by exact .here))
    dsimp only [Nat.reduceAdd]
    refine am_val (F := fun β => .tuple #[(glst N (β 3)).1.1, .int .i64 E]) (fun β => rk_move (.of rfl)) (fun β β' h => by simp only [h 3 (by kernel_rfl)]) rfl ?_
    refine am_val (F := fun β => (glst N (β 3)).1.1) (fun β => rk_extract (.of rfl) rfl) (fun β β' h => by simp only [h 3 (by kernel_rfl)]) rfl ?_
    refine am_val (F := fun β => .int .i64 E) (fun β => rk_extract (.of rfl) rfl) ind0 rfl ?_
    refine am_end fun β => ?_
    dsimp only [resAll, List.nil_append, List.cons_append, List.append_eq, Nat.reduceAdd]
    generalize glst N (β 3) = y9
    obtain ⟨⟨v, vs⟩, hvl⟩ := y9
    dsimp only
    refine left_ready (rs := [7]) (by kernel_rfl) (by simp) (List.forall_mem_cons.2 ⟨?_, fun _ h => absurd h List.not_mem_nil⟩)
    refine next_step rfl ?_
    (refine a_s rfl rfl ?_; refine n_t ?_)
    refine left_ready (rs := [8]) (by kernel_rfl) (by simp) (List.forall_mem_cons.2 ⟨?_, fun _ h => absurd h List.not_mem_nil⟩)
    refine next_step rfl ?_
    (refine a_s rfl rfl ?_; refine n_t ?_)
    with_reducible refine left_done (by kernel_rfl) ?_
    exact tr_cut _ _ (by exact .cons rfl (.cons rfl (.cons rfl (.cons rfl .nil)))) (by exact .cons (.there .here) (.cons (.there .here) (.cons (.there (.there .here)) (.cons (.there .here) .nil)))) (hk v vs hvl)
  subst hQ
  intro v vs hvl
  refine tr_rowSl (E := 38) (sz := 1) (by exact .here) fun va vc ev => ?_
  subst ev
  have hE1 : chkF es ≠ 0 → E = chkF es := fun h => hE.symm.trans (rdE_1 h)
  have hE2 : chkF es = 0 → E = frE f t := fun h => hE.symm.trans (rdE_2 h)
  have hE3 : E ≠ 0 → vs.length = 0 := fun h => by rw [hvl, ← hN, rdN, if_neg (by rw [hE]; exact h)]
  have hE4 : E = 0 → vs.length = (t - f).toNat := fun h => by rw [hvl, ← hN, rdN, if_pos (by rw [hE]; exact h)]
  (refine tr_then ?_; refine s_r ?_; refine tr_val (rk_loadB (.of rfl) (.there (.there .here)) norm_ (by rfl)) rfl ?_; refine tr_callV (rk_call (.of rfl) (.cons (.of rfl) .nil) inferInstance normc_) rfl (fun w' hm' => (hck w' (Mem.keeps hm'))) ?_; refine a_s rfl rfl ?_; refine n_r ?_; refine a_s rfl rfl ?_; refine n_t ?_; refine tr_seq ?_; refine s_r ?_; refine m_v rfl rfl ?_; refine tr_val (rk_eql (.of rfl) (.of rfl)) rfl ?_; refine n_t ?_; refine c_d rfl (fun hcd => ?_) (fun hcd => ?_); refine tr_region ?_; refine tr_val (rk_loadB (.of rfl) (.there (.there (.there .here))) norm_ (by rfl)) rfl ?_; refine tr_callV (rk_call (.of rfl) (.cons (.of rfl) .nil) inferInstance normc_) rfl (fun w' hm' => (framesQ_c f t w')) ?_; refine a_s rfl rfl ?_; refine n_t ?_; refine tr_seq ?_; refine s_r ?_; refine m_v rfl rfl ?_; refine tr_val (rk_eql (.of rfl) (.of rfl)) rfl ?_; refine n_t ?_; refine c_d rfl (fun hcd => ?_) (fun hcd => ?_); refine tr_region ?_; refine tr_val (rk_loadB (.of rfl) (.there (.there .here)) norm_ (by rfl)) rfl ?_; refine tr_val (rk_loadB (.of rfl) (.there (.there (.there .here))) norm_ (by rfl)) rfl ?_; rotate_left; refine s_t ?_; refine tr_seq ?_; refine s_r ?_; refine m_v rfl rfl ?_; refine m_v rfl rfl ?_; refine tr_val (rk_neq (.of rfl) (.of rfl)) rfl ?_; refine m_v rfl rfl ?_; refine v_g rfl rfl rfl rfl ?_; refine tr_vG1 rfl rfl inferInstance (fun hg hgp => (rk_len_slice (.ofg hg rfl))) rfl ?_; refine v_g rfl rfl rfl rfl ?_; refine tr_vG1 rfl rfl inferInstance (fun hg hgp => (rk_len_slice (.ofg hg rfl))) rfl ?_; refine tr_vG1 rfl rfl inferInstance (fun hg hgp => (rk_neq (.ofg hg rfl) (.ofg hg rfl))) rfl ?_; refine tr_val (rk_pick_or (.of rfl) rfl) rfl ?_; refine n_t ?_; refine c_b rfl (fun _ => by omega) (fun hcd => ?_); refine s_t ?_; refine tr_seq ?_; refine s_r ?_; refine m_v rfl rfl ?_; refine tr_val (rk_len_slice (.of rfl)) rfl ?_; refine m_v rfl rfl ?_; refine n_t ?_; refine tr_block ?_; rotate_right; rotate_left 2; refine s_t ?_; refine tr_seq ?_; refine s_r ?_; refine m_v rfl rfl ?_; refine tr_val (rk_eql (.of rfl) (.of rfl)) rfl ?_; refine n_t ?_; refine c_d rfl (fun _ => by omega) (fun hcd => ?_); refine s_t ?_; refine tr_seq ?_; refine s_r ?_; refine m_v rfl rfl ?_; refine m_v rfl rfl ?_; refine tr_val (rk_neq (.of rfl) (.of rfl)) rfl ?_; refine m_v rfl rfl ?_; refine v_g rfl rfl rfl rfl ?_; refine tr_vG1 rfl rfl inferInstance (fun hg hgp => (rk_len_slice (.ofg hg rfl))) rfl ?_; refine v_g rfl rfl rfl rfl ?_; refine tr_vG1 rfl rfl inferInstance (fun hg hgp => (rk_len_slice (.ofg hg rfl))) rfl ?_; refine tr_vG1 rfl rfl inferInstance (fun hg hgp => (rk_neq (.ofg hg rfl) (.ofg hg rfl))) rfl ?_; refine tr_val (rk_pick_or (.of rfl) rfl) rfl ?_; refine n_t ?_; refine c_b rfl (fun _ => by omega) (fun hcd => ?_); refine s_t ?_; refine tr_seq ?_; refine s_r ?_; refine m_v rfl rfl ?_; refine tr_val (rk_len_slice (.of rfl)) rfl ?_; refine m_v rfl rfl ?_; refine n_t ?_; refine tr_block ?_; rotate_right 2)
  · have hc0 : chkF es = 0 := by omega
    have hf0 : frE f t = 0 := by omega
    obtain ⟨a1, a2, a3, a4⟩ := frE_0 hf0
    have hs := Sound.of hc0
    with_reducible apply tr_call
    case hr => exact rk_call (.of rfl) (.cons (.of rfl) (.cons (.of rfl) .nil)) inferInstance normc_
    case hd => rfl
    case ht => exact Takes.nil
    case hc =>
      intro w1 fp hm1 _ hs1
      obtain rfl : fp = [] := hs1
      exact rundownQ_c (h1.keeps hm1.keeps) hs a1 a2 a3 a4
    rintro ⟨u, ws⟩ hwl
    dsimp only [List.cons_append, List.nil_append] at hwl ⊢
    have hvw : vs.length = ws.length := by rw [hwl]; omega
    refine tr_rowSl (E := 46) (sz := 1) (by exact .here) fun ua uc eu => ?_
    subst eu
    (refine a_s rfl rfl ?_; refine n_t ?_; refine tr_seq ?_; refine s_r ?_; refine m_v rfl rfl ?_; refine m_v rfl rfl ?_; refine tr_val (rk_neq (.of rfl) (.of rfl)) rfl ?_; refine m_v rfl rfl ?_; refine v_g rfl rfl rfl rfl ?_; refine tr_vG1 rfl rfl inferInstance (fun hg hgp => (rk_len_slice (.ofg hg rfl))) rfl ?_; refine v_g rfl rfl rfl rfl ?_; refine tr_vG1 rfl rfl inferInstance (fun hg hgp => (rk_len_slice (.ofg hg rfl))) rfl ?_; refine tr_vG1 rfl rfl inferInstance (fun hg hgp => (rk_neq (.ofg hg rfl) (.ofg hg rfl))) rfl ?_; refine tr_val (rk_pick_or (.of rfl) rfl) rfl ?_; refine n_t ?_; refine c_b rfl (fun _ => by omega) (fun hcd => ?_); refine s_t ?_; refine tr_seq ?_; refine s_r ?_; refine m_v rfl rfl ?_; refine tr_val (rk_len_slice (.of rfl)) rfl ?_; refine m_v rfl rfl ?_; refine n_t ?_; refine tr_block ?_)
    by_cases h0 : vs.length = 0
    · refine tr_for (ι := Unit) (fun _ => True) (fun _ => [(48, .int .i64 0), (47, .int .i64 (vs.length : Int))]) (fun _ => []) (fun _ => 0) ?_ ?_
      · apply tr_start () trivial
        case hs1 => exact .cons rfl (.cons rfl .nil)
        case ht => exact .nil
      rintro ⟨⟩ _
      (refine s_r ?_; refine tr_val (rk_lss (.of rfl) (.of rfl)) rfl ?_; refine n_t ?_; refine tr_seq ?_; refine c_d rfl (fun _ => by omega) (fun hcd => ?_); refine x_t ?_; refine tr_then_exit ?_; refine tr_blk_exit ?_; refine tr_then ?_; refine s_r ?_; refine a_s rfl rfl ?_; refine n_t ?_; refine tr_ret ?_; refine tr_retE rfl (ends1 rfl rfl) ?_)
      rfl
    refine tr_rowOpen (E := 38) (sz := 1) (by exact Take.there (.there .here)) (by omega) fun g1 c1 cur1 e1 hk1 hx1 hz1 hl1 => ?_
    obtain ⟨rfl, -, rfl⟩ := Value.slice.inj e1
    refine tr_rowOpen (E := 46) (sz := 1) (by exact Take.there .here) (by omega) fun g2 c2 cur2 e2 hk2 hx2 hz2 hl2 => ?_
    obtain ⟨rfl, -, rfl⟩ := Value.slice.inj e2
    refine tr_for (ι := Nat) (fun k => k ≤ vs.length) (fun k => [(48, .int .i64 (k : Int)), (47, .int .i64 (vs.length : Int)), (5, .slice (some ⟨g1, 0, none⟩) vs.length vc), (8, .slice (some ⟨g2, 0, none⟩) ws.length uc)])
      (fun _ => [blk g1 (.cells (vs ++ cur1).toArray 38), blk g2 (.cells (ws ++ cur2).toArray 46), poolQ (rdR 117 es f) vs, poolQ (rdR 185 es f) ws]) (fun k => vs.length - k) ?_ ?_
    · apply tr_start 0 (show (fun k : Nat => k ≤ vs.length) 0 from Nat.zero_le _)
      case hs1 => exact .cons rfl (.cons rfl (.cons rfl (.cons rfl .nil)))
      case ht => exact .cons (.there .here) (.cons .here (.cons (.there .here) (.cons .here .nil)))
    rintro k hk
    by_cases hlt : k < vs.length
    · obtain ⟨x, hx⟩ : ∃ x, vs[k]? = some x := ⟨vs[k], List.getElem?_eq_getElem hlt⟩
      obtain ⟨y, hy⟩ : ∃ y, ws[k]? = some y := ⟨ws[k]'(by omega), List.getElem?_eq_getElem (by omega)⟩
      have q1 : (vs ++ cur1)[k * 1]? = some x := by rw [Nat.mul_one, List.getElem?_append_left hlt]; exact hx
      have q2 : (ws ++ cur2)[k * 1]? = some y := by rw [Nat.mul_one, List.getElem?_append_left (by omega)]; exact hy
      (refine s_r ?_; refine tr_val (rk_lss (.of rfl) (.of rfl)) rfl ?_; refine n_t ?_; refine tr_seq ?_; refine c_d rfl (fun hcd => ?_) (fun _ => by omega); refine s_t ?_; refine tr_seq ?_; refine tr_block ?_; refine s_r ?_; refine m_v rfl rfl ?_; refine a_s rfl rfl ?_; refine n_t ?_; refine tr_seq ?_)
      with_reducible refine tr_drawM 11 (by kernel_rfl) ?_
      (refine am_val (fun β => (rk_move (.of rfl))) ind0 rfl ?_; refine am_val (fun β => (rk_move (.of rfl))) ind0 rfl ?_; refine am_val (fun β => (rk_indexAddr (.of rfl) (.of rfl) rfl (by omega) hcd norm1_)) ind0 rfl ?_; refine am_val (fun β => (rk_load1 (.of rfl) (At.blkL .here q1))) ind0 rfl ?_)
      dsimp only [Nat.zero_add, Nat.reduceAdd]
      generalize hLL : shF es (f + (k : Int)) = LL
      have hlen : LL.length ≤ 1000 := by rw [← hLL]; exact Nat.le_trans (shF_le _ _) (by decide)
      have hX : ∀ (c : Cx) (E : TypeId) (vs : List Value) (x : Value) (hs hs' : List Asn) w', vs[k]? = some x → Mem c hs w' → Take hs (poolQ (rdR E es f) vs) hs' → Rd w' x 3 (LL.map triV) := fun c E vs x hs hs' w' hx hm ht => by
        obtain ⟨hs2, r, hm2, ht2⟩ := hm.openQ ht hx
        subst hLL
        exact rdTri hm2 ht2
      with_reducible apply am_call (ι := Value) (Φ := fun _ => True) (val := id) (own := fun v => [row 185 3 v LL.length (LL.flatMap triV)]) (g := id) (B := []) (args := fun _ => [x])
      case hg => exact fun x => ⟨x, rfl⟩
      case hB => rfl
      case hr => exact fun β => rk_call (.of rfl) (.cons (.of rfl) .nil) inferInstance rfl
      case hd => rfl
      case hc => exact fun β w' hb => sharesT_c (hX _ 117 vs x _ _ w' hx hb.mem (by exact Take.there (.there .here))) hlen
      dsimp only [id_eq, Nat.reduceAdd]
      (refine am_val (fun β => (rk_move (.of rfl))) ind0 rfl ?_; refine am_val (fun β => (rk_move (.of rfl))) ind0 rfl ?_; refine am_val (fun β => (rk_indexAddr (.of rfl) (.of rfl) rfl (by omega) (by omega) norm1_)) ind0 rfl ?_; refine am_val (fun β => (rk_load1 (.of rfl) (At.blkL (.there .here) q2))) ind0 rfl ?_)
      dsimp only [Nat.reduceAdd]
      with_reducible apply am_callV (B := [4]) (F := fun _ => .bool true) (args := fun β => [β 4, y])
      case hB => kernel_rfl
      case hr => exact fun β => rk_call (.of rfl) (.cons (.of rfl) (.cons (.of rfl) .nil)) inferInstance rfl
      case hi => exact ind0
      case hd => rfl
      case hc =>
        intro β w' hb
        have m4 := hb.at 4 List.mem_cons_self (s := ⟨fun β => β 4, fun β => [row 185 3 (β 4) LL.length (LL.flatMap triV)]⟩) (by kernel_rfl)
        dsimp only [List.cons_append, List.nil_append] at m4
        have := sameShares_c (rdTri m4 (by exact .here)) (hX _ 185 ws y _ _ w' hy hb.mem (by exact Take.there (.there (.there .here))))
        rwa [decide_eq_true rfl] at this
      refine am_val (fun β => (rk_not (.of rfl))) ind0 rfl ?_
      refine am_end fun β => ?_
      dsimp only [resAll, List.nil_append, List.cons_append, List.append_eq, Nat.reduceAdd]
      with_reducible refine left_done (by kernel_rfl) ?_
      (refine tr_then ?_; refine tr_cond_f (.of rfl) ?_; refine tr_skip ?_; refine tr_blk_normal ?_; refine tr_then ?_; refine tr_region ?_; refine tr_val (rk_add (.of rfl) (.of rfl) (ini (by omega))) rfl ?_; refine m_v rfl rfl ?_; refine n_t ?_)
      apply tr_next (k + 1) (show (fun k : Nat => k ≤ vs.length) (k + 1) from hlt) (by show vs.length - (k + 1) < vs.length - k; omega)
      case hs1 => exact .cons rfl (.cons rfl (.cons rfl (.cons rfl .nil)))
      case ht => exact .cons (.there .here) (.cons (.there .here) (.cons (.there .here) (.cons (.there .here) .nil)))
    · (refine s_r ?_; refine tr_val (rk_lss (.of rfl) (.of rfl)) rfl ?_; refine n_t ?_; refine tr_seq ?_; refine c_d rfl (fun _ => by omega) (fun hcd => ?_); refine x_t ?_; refine tr_then_exit ?_; refine tr_blk_exit ?_; refine tr_then ?_; refine s_r ?_; refine a_s rfl rfl ?_; refine n_t ?_; refine tr_ret ?_; refine tr_retE rfl (ends1 rfl rfl) ?_)
      rfl
  · refine tr_for (ι := Unit) (fun _ => True) (fun _ => [(48, .int .i64 0), (47, .int .i64 (vs.length : Int))]) (fun _ => []) (fun _ => 0) ?_ ?_
    · apply tr_start () trivial
      case hs1 => exact .cons rfl (.cons rfl .nil)
      case ht => exact .nil
    rintro ⟨⟩ _
    (refine s_r ?_; refine tr_val (rk_lss (.of rfl) (.of rfl)) rfl ?_; refine n_t ?_; refine tr_seq ?_; refine c_d rfl (fun _ => by omega) (fun hcd => ?_); refine x_t ?_; refine tr_then_exit ?_; refine tr_blk_exit ?_; refine tr_then ?_; refine s_r ?_; refine a_s rfl rfl ?_; refine n_t ?_; refine tr_ret ?_; refine tr_retE rfl (ends1 rfl rfl) ?_)
    rfl
  · refine tr_for (ι := Unit) (fun _ => True) (fun _ => [(48, .int .i64 0), (47, .int .i64 (vs.length : Int))]) (fun _ => []) (fun _ => 0) ?_ ?_
    · apply tr_start () trivial
      case hs1 => exact .cons rfl (.cons rfl .nil)
      case ht => exact .nil
    rintro ⟨⟩ _
    (refine s_r ?_; refine tr_val (rk_lss (.of rfl) (.of rfl)) rfl ?_; refine n_t ?_; refine tr_seq ?_; refine c_d rfl (fun _ => by omega) (fun hcd => ?_); refine x_t ?_; refine tr_then_exit ?_; refine tr_blk_exit ?_; refine tr_then ?_; refine s_r ?_; refine a_s rfl rfl ?_; refine n_t ?_; refine tr_ret ?_; refine tr_retE rfl (ends1 rfl rfl) ?_)
    rfl
end Go.Proofs.A1

