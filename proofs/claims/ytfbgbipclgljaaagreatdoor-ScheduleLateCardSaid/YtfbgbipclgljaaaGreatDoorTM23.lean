/- Parts of the proof: S91p S82. -/
import Derived.Test.YtfbgbipclgljaaaGreatDoorTM21
import Derived.Test.YtfbgbipclgljaaaGreatDoorTM22
import Derived.Test.YtfbgbipclgljaaaGreatDoorTM17
import Derived.Test.YtfbgbipclgljaaaGreatDoorTM06
set_option linter.unusedSectionVars false
set_option linter.unusedVariables false
set_option linter.unusedSimpArgs false
/- S91p -/
/- A change that is accepted changes nothing up to now; a change is undone by the other one. Plain Lean, no program in sight. -/
namespace Go.Proofs.A1
open Go Go.SL

/-- two schedules that begin with the same entries -/
def Same1 (es cs : List En) (n : Nat) : Prop := n ≤ es.length ∧ n ≤ cs.length ∧ ∀ k, k < n → nth es k = nth cs k
theorem Same1.jn {es cs : List En} {n : Nat} (h : Same1 es cs n) : ∀ k, k ≤ n → jn es k = jn cs k
  | 0, _ => rfl
  | k + 1, hk => by
    have := h.jn k (by omega)
    show frm (nth es k).kd (nth es k).tm (A1.jn es k) + (nth es k).ln - (nth es k).ov = frm (nth cs k).kd (nth cs k).tm (A1.jn cs k) + (nth cs k).ln - (nth cs k).ov
    rw [this, h.2.2 k (by omega)]
theorem Same1.fr {es cs : List En} {n : Nat} (h : Same1 es cs n) {k : Nat} (hk : k < n) : fr es k = fr cs k ∧ to es k = to cs k := by
  have h1 : A1.fr es k = A1.fr cs k := by
    show frm (nth es k).kd (nth es k).tm (A1.jn es k) = frm (nth cs k).kd (nth cs k).tm (A1.jn cs k)
    rw [h.jn k (by omega), h.2.2 k hk]
  refine ⟨h1, ?_⟩
  show A1.fr es k + (nth es k).ln = A1.fr cs k + (nth cs k).ln
  rw [h1, h.2.2 k hk]
theorem onL_fore {es : List En} {f : Int} {n : Nat} : ∀ d, (∀ k, n ≤ k → k < n + d → onB es f k = false) → onL es f (n + d) = onL es f n
  | 0, _ => rfl
  | d + 1, h => by
    rw [show n + (d + 1) = (n + d) + 1 by omega, onL_succ, onL_fore d fun k h1 h2 => h k h1 (by omega), h (n + d) (by omega) (by omega)]
    simp
theorem Sound.far {es : List En} (h : Sound es) {n : Nat} {now : Int} (hn : n < es.length → now < fr es n) {k : Nat} (h1 : n ≤ k) (h2 : k < es.length) : now < fr es k := by
  by_cases e : n = k
  · subst e; exact hn h2
  · have := h.fr_lt (i := n) (k := k) (by omega) h2
    have := hn (by omega)
    omega
theorem shF_of {es cs : List En} {f : Int} (hl : onL es f es.length = onL cs f cs.length) (h : ∀ k ∈ onL es f es.length, fr es k = fr cs k ∧ to es k = to cs k) : shF es f = shF cs f := by
  unfold shF
  rw [← hl]
  generalize onL es f es.length = l at h
  match l, h with
  | [], _ => rfl
  | [i], _ => rfl
  | i :: k :: _, h =>
    have h1 := h i (by simp)
    have h2 := h k (by simp)
    simp only [h1.2, h2.1]
/-- nothing is changed up to now -/
theorem Same1.vw {es cs : List En} {n : Nat} {now f : Int} (h : Same1 es cs n) (hs : Sound es) (hc : Sound cs) (he : n < es.length → now < A1.fr es n) (hce : n < cs.length → now < A1.fr cs n) (hf : f ≤ now) : vwL es f = vwL cs f := by
  have hoff : ∀ (xs : List En), Sound xs → n ≤ xs.length → (n < xs.length → now < A1.fr xs n) → onL xs f xs.length = onL xs f n := fun xs hx hl hn => by
    have := onL_fore (es := xs) (f := f) (n := n) (xs.length - n) fun k h1 h2 => by
      have := hx.far hn h1 (by omega)
      unfold onB
      rw [Bool.and_eq_false_iff, decide_eq_false_iff_not]
      exact .inl (by omega)
    rwa [show n + (xs.length - n) = xs.length by omega] at this
  have h1 := hoff es hs h.1 he
  have h2 := hoff cs hc h.2.1 hce
  have h3 : onL es f n = onL cs f n := by
    unfold onL
    refine List.filter_congr fun k hk => ?_
    have := h.fr (List.mem_range.1 hk)
    unfold onB
    rw [this.1, this.2]
  have hin : ∀ k ∈ onL es f es.length, k < n := fun k hk => by
    rw [h1] at hk
    unfold onL at hk
    exact List.mem_range.1 (List.mem_filter.1 hk).1
  have hsh : shF es f = shF cs f := shF_of (by rw [h1, h2, h3]) fun k hk => h.fr (hin k hk)
  unfold vwL
  rw [← hsh]
  refine List.map_congr_left fun x hx => ?_
  have : x.1.toNat < n := by
    have hm : x.1.toNat ∈ onL es f es.length := by
      revert hx
      unfold shF
      generalize onL es f es.length = l
      match l with
      | [] => intro hx; cases hx
      | [i] => intro hx; simp only [List.mem_singleton] at hx; subst hx; simp
      | i :: k :: r =>
        intro hx
        simp only [List.mem_cons, List.not_mem_nil, or_false] at hx
        rcases hx with rfl | rfl <;> simp
    exact hin _ hm
  rw [h.2.2 _ this]
/-- what 'Changed' answers begins after now -/
theorem Same1.late {es cs : List En} {n : Nat} {now : Int} (h : Same1 es cs n) (hs : Sound es) (hc : Sound cs) (he : n < es.length → now < A1.fr es n) (hce : n < cs.length → now < A1.fr cs n) {x : Int × Int × Int} (hx : ChOk es cs x) : (x.2.2 = 0 ∧ now < x.1 ∧ x.1 < x.2.1) ∨ x.2.2 = 7 := by
  rcases hx with ⟨p, q, rfl, hp⟩ | ⟨rfl, _⟩
  · refine .inl ⟨rfl, ?_, ?_⟩
    · apply Classical.byContradiction
      intro hn
      have := hp.p1
      unfold dfB at this
      rw [h.vw hs hc he hce (show p ≤ now by simpa using hn)] at this
      simp at this
    · apply Classical.byContradiction
      intro hn
      have := hp.q0 p (by simpa using hn)
      rw [hp.p1] at this; cases this
  · exact .inr rfl

/-! ### changes -/
theorem chg_same {es l : List En} {f t : Nat} (hf : f ≤ es.length) : Same1 es (chg es f t l) f := by
  have hl : (es.take f).length = f := by rw [List.length_take]; omega
  refine ⟨hf, ?_, fun k hk => ?_⟩
  · unfold chg
    simp only [List.flatten_cons, List.length_append, hl]; omega
  · unfold nth chg
    simp only [List.flatten_cons, List.getD_eq_getElem?_getD]
    rw [List.getElem?_append_left (by omega), List.getElem?_take, if_pos hk]
theorem chg_nil {es : List En} {n : Nat} (h : n < es.length) : chg (chg es n (n + 1) []) n n [nth es n] = es := by
  have hl : (es.take n).length = n := by rw [List.length_take]; omega
  have h1 : (es.take n ++ es.drop (n + 1)).take n = es.take n := by rw [List.take_append_of_le_length (by omega), List.take_of_length_le (by omega)]
  have h2 : (es.take n ++ es.drop (n + 1)).drop n = es.drop (n + 1) := by
    rw [List.drop_append_of_le_length (by omega), List.drop_of_length_le (by omega)]; rfl
  unfold chg
  simp only [List.flatten_cons, List.flatten_nil, List.append_nil, List.nil_append, h1, h2]
  rw [nth_eq h, List.singleton_append, ← List.drop_eq_getElem_cons h, List.take_append_drop]
theorem chg_one {es : List En} {n : Nat} {x : En} (h : n ≤ es.length) : chg (chg es n n [x]) n (n + 1) [] = es := by
  have hl : (es.take n).length = n := by rw [List.length_take]; omega
  have h1 : (es.take n ++ ([x] ++ es.drop n)).take n = es.take n := by rw [List.take_append_of_le_length (by omega), List.take_of_length_le (by omega)]
  have h2 : (es.take n ++ ([x] ++ es.drop n)).drop (n + 1) = es.drop n := by
    rw [List.drop_append, List.drop_of_length_le (by omega), hl, show n + 1 - n = 1 by omega]; rfl
  unfold chg
  simp only [List.flatten_cons, List.flatten_nil, List.append_nil, List.nil_append, h1, h2]
  exact List.take_append_drop n es
theorem chg_self {es : List En} {n : Nat} (h : n < es.length) : chg es n (n + 1) [rtn (nth es n) (nth es n).kd (nth es n).tm] = es := by
  unfold chg
  simp only [List.flatten_cons, List.flatten_nil, List.append_nil]
  rw [show rtn (nth es n) (nth es n).kd (nth es n).tm = nth es n from rfl, nth_eq h, List.singleton_append, ← List.drop_eq_getElem_cons h, List.take_append_drop]
theorem ccF_of {es : List En} {now at' below : Int} (h : chkF es = 0) (h1 : 0 ≤ now ∧ now ≤ 10000000) (h2 : 0 ≤ at' ∧ at' < below) : ccF es now at' below = 0 := by
  unfold ccF
  rw [firstF_zero]
  simp only [List.mem_cons, List.not_mem_nil, or_false, forall_eq_or_imp, forall_eq, withinF_zero]
  rw [whenF_zero (by decide)]
  refine ⟨h, h1, ?_⟩
  simp only [Bool.or_eq_false_iff, decide_eq_false_iff_not]
  omega
theorem lateE_zero {es : List En} {now : Int} {n : Nat} (h : lateE es now n = 0) : chkF es = 0 ∧ (n < es.length → now < fr es n) := by
  unfold lateE at h
  split at h
  · rename_i h1; exact absurd h h1
  · rename_i h1
    split at h
    · cases h
    · rename_i h2
      exact ⟨Decidable.not_not.1 h1, fun h3 => by
        apply Classical.byContradiction
        intro h4
        exact h2 ⟨h3, by omega⟩⟩
theorem lateE_of {es : List En} {now : Int} {n : Nat} (h : chkF es = 0) (h1 : n < es.length → now < fr es n) : lateE es now n = 0 := by
  unfold lateE
  rw [if_neg (by rw [h]; decide), if_neg]
  intro h2
  have := h1 h2.1
  omega
theorem rm_zero {es : List En} {now : Int} {n : Nat} (h : rmE es now n = 0) : now < fr es n ∧ chkF (chg es n (n + 1) []) = 0 ∧ (n < (chg es n (n + 1) []).length → now < fr (chg es n (n + 1) []) n) := by
  unfold rmE at h
  rw [Int.toNat_natCast] at h
  split at h
  · rename_i h1; exact absurd h h1
  · split at h
    · cases h
    · rename_i h2
      exact ⟨by omega, lateE_zero h⟩
theorem rm_of {es : List En} {now : Int} {n : Nat} (hz : chkF es = 0) (hw : 0 ≤ now ∧ now ≤ 10000000) (hn : n < es.length) : rmE es now n = if fr es n ≤ now then 23 else lateE (chg es n (n + 1) []) now n := by
  unfold rmE
  rw [if_neg (by rw [ccF_of hz hw ⟨by omega, by omega⟩]; decide), Int.toNat_natCast]
theorem in_of {es : List En} {now : Int} {n : Nat} {x : En} (hz : chkF es = 0) (hw : 0 ≤ now ∧ now ≤ 10000000) (hn : n ≤ es.length) (hx : entF x = 0) : inE es now n x = if n < es.length ∧ fr es n ≤ now then 23 else lateE (chg es n n [x]) now n := by
  have h0 : in0 es now n x = 0 := by
    unfold in0
    rw [firstF_zero]
    simp only [List.mem_cons, List.not_mem_nil, or_false, forall_eq_or_imp, forall_eq]
    exact ⟨ccF_of hz hw ⟨by omega, by omega⟩, hx⟩
  unfold inE
  rw [if_neg (by rw [h0]; decide), Int.toNat_natCast]
  simp only [Int.ofNat_lt]
theorem rt_of {es : List En} {now : Int} {n : Nat} {kd : ByteArray} {tm : Int} (hz : chkF es = 0) (hw : 0 ≤ now ∧ now ≤ 10000000) (hn : n < es.length) (hx : startF kd tm = 0) : rtE es now n kd tm = if fr es n ≤ now then 23 else lateE (chg es n (n + 1) [rtn (nth es n) kd tm]) now n := by
  have h0 : rt0 es now n kd tm = 0 := by
    unfold rt0
    rw [firstF_zero]
    simp only [List.mem_cons, List.not_mem_nil, or_false, forall_eq_or_imp, forall_eq]
    exact ⟨ccF_of hz hw ⟨by omega, by omega⟩, hx⟩
  unfold rtE
  rw [if_neg (by rw [h0]; decide), Int.toNat_natCast]
theorem entF_start {x : En} (h : entF x = 0) : startF x.kd x.tm = 0 := by
  unfold entF at h
  rw [firstF_zero] at h
  exact h _ (by simp)
theorem Sound.ent {es : List En} (h : Sound es) {k : Nat} (hk : k < es.length) : entF (nth es k) = 0 := entF_ok.2 (h.all.ok k hk)
/-- what has begun stays as it is -/
theorem late_begun {es : List En} {now : Int} {n : Nat} (hz : chkF es = 0) (hw : 0 ≤ now ∧ now ≤ 10000000) (hn : n < es.length) (hb : fr es n ≤ now) : rmE es now n = 23 ∧ rtE es now n (nth es n).kd (nth es n).tm = 23 := by
  rw [rm_of hz hw hn, rt_of hz hw hn (entF_start ((Sound.of hz).ent hn)), if_pos hb, if_pos hb]
  exact ⟨rfl, rfl⟩
/-- retimed to its own start -/
theorem late_own {es : List En} {now : Int} {n : Nat} (hz : chkF es = 0) (hw : 0 ≤ now ∧ now ≤ 10000000) (hn : n < es.length) (hb : now < fr es n) : rtE es now n (nth es n).kd (nth es n).tm = 0 ∧ rtL es now n (nth es n).kd (nth es n).tm = es := by
  have h : rtE es now n (nth es n).kd (nth es n).tm = 0 := by
    rw [rt_of hz hw hn (entF_start ((Sound.of hz).ent hn)), if_neg (by omega), chg_self hn]
    exact lateE_of hz fun _ => hb
  refine ⟨h, ?_⟩
  rw [rtL, if_pos h, Int.toNat_natCast, chg_self hn]
/-- removed, and inserted again -/
theorem late_again {es : List En} {now : Int} {n : Nat} (hz : chkF es = 0) (hw : 0 ≤ now ∧ now ≤ 10000000) (hn : n < es.length) (h : rmE es now n = 0) : inE (rmL es now n) now n (nth es n) = 0 ∧ inL (rmL es now n) now n (nth es n) = es := by
  obtain ⟨h1, h2, h3⟩ := rm_zero h
  have hL : rmL es now n = chg es n (n + 1) [] := by rw [rmL, if_pos h, Int.toNat_natCast]
  have hs := chg_same (es := es) (l := []) (f := n) (t := n + 1) (by omega)
  have hE : inE (rmL es now n) now n (nth es n) = 0 := by
    rw [hL, in_of h2 hw hs.2.1 ((Sound.of hz).ent hn), if_neg, chg_nil hn]
    · exact lateE_of hz fun _ => h1
    · intro h4
      have := h3 h4.1
      omega
  refine ⟨hE, ?_⟩
  rw [inL, if_pos hE, Int.toNat_natCast, hL, chg_nil hn]
theorem in_zero {es : List En} {now : Int} {n : Nat} {x : En} (h : inE es now n x = 0) : (n < es.length → now < fr es n) ∧ chkF (chg es n n [x]) = 0 ∧ (n < (chg es n n [x]).length → now < fr (chg es n n [x]) n) := by
  unfold inE at h
  rw [Int.toNat_natCast] at h
  split at h
  · rename_i h1; exact absurd h h1
  · split at h
    · cases h
    · rename_i h2
      refine ⟨fun h3 => ?_, lateE_zero h⟩
      apply Classical.byContradiction
      intro h4
      exact h2 ⟨by omega, by omega⟩
theorem rt_zero {es : List En} {now : Int} {n : Nat} {kd : ByteArray} {tm : Int} (h : rtE es now n kd tm = 0) : now < fr es n ∧ chkF (chg es n (n + 1) [rtn (nth es n) kd tm]) = 0 ∧ (n < (chg es n (n + 1) [rtn (nth es n) kd tm]).length → now < fr (chg es n (n + 1) [rtn (nth es n) kd tm]) n) := by
  unfold rtE at h
  rw [Int.toNat_natCast] at h
  split at h
  · rename_i h1; exact absurd h h1
  · split at h
    · cases h
    · rename_i h2
      exact ⟨by omega, lateE_zero h⟩
/-- inserted, and removed again -/
theorem late_back {es : List En} {now : Int} {n : Nat} {x : En} (hz : chkF es = 0) (hw : 0 ≤ now ∧ now ≤ 10000000) (hn : n ≤ es.length) (h : inE es now n x = 0) : rmE (inL es now n x) now n = 0 ∧ rmL (inL es now n x) now n = es := by
  obtain ⟨h1, h2, h3⟩ := in_zero h
  have hL : inL es now n x = chg es n n [x] := by rw [inL, if_pos h, Int.toNat_natCast]
  have hlen : n < (chg es n n [x]).length := by
    unfold chg
    simp only [List.flatten_cons, List.flatten_nil, List.append_nil, List.length_append, List.length_take, List.length_cons, List.length_nil, List.length_drop]
    omega
  have hE : rmE (inL es now n x) now n = 0 := by
    have h4 := h3 hlen
    rw [hL, rm_of h2 hw hlen, if_neg (by omega), chg_one hn]
    exact lateE_of hz h1
  refine ⟨hE, ?_⟩
  rw [rmL, if_pos hE, Int.toNat_natCast, hL, chg_one hn]
/-- a change that is accepted: a valid schedule, and nothing changes up to now -/
structure LateOk (es cs : List En) (now : Int) : Prop where
  sound : chkF cs = 0
  late : ∀ x, ChOk es cs x → (x.2.2 = 0 ∧ now < x.1 ∧ x.1 < x.2.1) ∨ x.2.2 = 7
theorem late_rm {es : List En} {now : Int} {n : Nat} (hz : chkF es = 0) (hn : n < es.length) (h : rmE es now n = 0) : LateOk es (rmL es now n) now := by
  obtain ⟨h1, h2, h3⟩ := rm_zero h
  have hL : rmL es now n = chg es n (n + 1) [] := by rw [rmL, if_pos h, Int.toNat_natCast]
  rw [hL]
  exact ⟨h2, fun x hx => (chg_same (by omega)).late (Sound.of hz) (Sound.of h2) (fun _ => h1) h3 hx⟩
theorem late_in {es : List En} {now : Int} {n : Nat} {x : En} (hz : chkF es = 0) (hn : n ≤ es.length) (h : inE es now n x = 0) : LateOk es (inL es now n x) now := by
  obtain ⟨h1, h2, h3⟩ := in_zero h
  have hL : inL es now n x = chg es n n [x] := by rw [inL, if_pos h, Int.toNat_natCast]
  rw [hL]
  exact ⟨h2, fun x hx => (chg_same hn).late (Sound.of hz) (Sound.of h2) h1 h3 hx⟩
theorem late_rt {es : List En} {now : Int} {n : Nat} {kd : ByteArray} {tm : Int} (hz : chkF es = 0) (hn : n < es.length) (h : rtE es now n kd tm = 0) : LateOk es (rtL es now n kd tm) now := by
  obtain ⟨h1, h2, h3⟩ := rt_zero h
  have hL : rtL es now n kd tm = chg es n (n + 1) [rtn (nth es n) kd tm] := by rw [rtL, if_pos h, Int.toNat_natCast]
  rw [hL]
  exact ⟨h2, fun x hx => (chg_same (by omega)).late (Sound.of hz) (Sound.of h2) (fun _ => h1) h3 hx⟩
end Go.Proofs.A1


/- S82 -/
namespace Go.Proofs.A1
open Go Go.SL

abbrev Sn := ByteArray × Int × Int
def senV (x : Sn) : List Value := [.string x.1, .int .i64 x.2.1, .int .i64 x.2.2]
theorem view1_c {bx : Nat} {lv : Value} {es : List En} {x : Int × Int × Int} {w : World} (hb : w.cell? ⟨bx, 0, none⟩ = some lv) (h : Rd w lv 8 (plRows es)) (hx : 0 ≤ x.1 ∧ x.1 < es.length) :
    GivesV Tryz.prog 207 [.agg (triV x).toArray, .pointer (some ⟨bx, 0, none⟩)] w (.agg (senV ((nth es x.1.toNat).nm, x.2)).toArray) := by
  obtain ⟨a, cp, b, o, rfl, hcap, hmax, ha, hc⟩ := h
  rw [plRows_length] at *
  unfold maxLen at hmax
  obtain ⟨i, p, q⟩ := x
  dsimp only at hx ⊢
  have hlt : i.toNat < es.length := by omega
  have ha' := ha (plRows_ne hlt)
  have hcell := (hc i.toNat _ (plRows_get hlt)).2
  have c0 : w.cell? ⟨b, o + i.toNat * 8, none⟩ = some (.string (nth es i.toNat).nm) := hcell 0 _ rfl
  unfold triV senV
  dsimp only
  refine givesV_of_tr Tryz.func207 rfl rfl ?_
  (refine s_r ?_; refine tr_new (rk_box (.of rfl) rfl) rfl (fun _ _ => ?_); refine tr_new (rk_alloc rfl) rfl (fun _ _ => ?_); refine n_t ?_; refine tr_seq ?_)
  with_reducible refine tr_draw 10 (by kernel_rfl) ?_
  (refine any_val (rk_load1 (.of rfl) (At.base hb rfl)) rfl ?_; refine a_f rfl rfl norm0_ ?_; refine any_val (rk_load1 (.of rfl) (At.lit (.there .here) rfl)) rfl ?_; refine any_val (rk_indexAddr (.of rfl) (.of rfl) ha' (by omega) (by omega) norm1_) rfl ?_; refine a_f rfl rfl norm0_ ?_; refine a_f rfl rfl norm0_ ?_; refine any_val (rk_load1 (.of rfl) (At.base c0 rfl)) rfl ?_; refine a_f rfl rfl norm0_ ?_; refine any_val (rk_loadB (.of rfl) (.there .here) norm_ (by rfl)) rfl ?_; refine any_val (rk_buildL (.cons (.of rfl) (.cons (.of rfl) .nil)) norm_) rfl ?_)
  with_reducible refine any_end ?_
  (refine tr_store (.of rfl) (.of rfl) .here rfl rfl (okc_cons rfl (okc_cons rfl (okc_cons rfl okc_nil))) (lenb rfl) norm_ ?_; refine n_t ?_; refine tr_ret ?_; refine tr_retE rfl (ends1cB rfl inferInstance rfl .here norm_ (by rfl)) ?_)
  rfl
def snsL (l : List Sn) : List (List Value) := l.map senV
theorem snsL_length (l : List Sn) : (snsL l).length = l.length := by simp [snsL]
theorem snsL_get {l : List Sn} {k : Nat} (h : k < l.length) : (snsL l)[k]? = some (senV l[k]) := by simp [snsL, h]
theorem snsL_ne {l : List Sn} {k : Nat} (h : k < l.length) : snsL l ≠ [] := by intro e; have := snsL_length l; rw [e] at this; simp at this; omega
theorem snsL_sz (l : List Sn) : ∀ r ∈ snsL l, r.length = 3 := by
  intro r hr
  obtain ⟨x, _, rfl⟩ := List.mem_map.1 hr
  rfl
theorem rdSns {c : Cx} {hs hs' : List Asn} {w : World} {E : TypeId} {v : Value} {l : List Sn} {n : Nat} (hm : Mem c hs w) (ht : Take hs (row E 3 v n (snsL l).flatten) hs') (hn : n = l.length) : Rd w v 3 (snsL l) :=
  hm.rdRow ht rfl (snsL_sz l) (by rw [hn]; exact snsL_length l)
theorem snsL_take {l : List Sn} {k : Nat} (h : k < l.length) : (snsL (l.take (k + 1))).flatten = (snsL (l.take k)).flatten ++ senV l[k] := by
  rw [List.take_add_one, List.getElem?_eq_getElem h, snsL, List.map_append, List.flatten_append]; simp [snsL]
theorem mapSn_c {lv : Value} {l : List (Int × Int × Int)} {F : Int × Int × Int → Sn} {cap : List Value} {w : World} (h : Rd w lv 3 (l.map triV)) (hn : l.length ≤ 1000)
    (hcall : ∀ x ∈ l, ∀ w', Keeps [] w w' → GivesV Tryz.prog 207 ([.agg (triV x).toArray] ++ cap) w' (.agg (senV (F x)).toArray)) :
    Gives Tryz.prog 206 [lv, .func (.func 207) #[] cap.toArray] w [] (fun _ : Value => True) id (fun v => [row 271 3 v l.length (snsL (l.map F)).flatten]) := by
  obtain ⟨a, cp, b, o, rfl, hcap, hmax, ha, hc⟩ := h
  rw [lenV triV l] at *
  unfold maxLen at hmax
  have hFl : (l.map F).length = l.length := List.length_map _
  refine gives_of_tr Tryz.func206 rfl rfl ?_
  (refine s_r ?_; refine a_s rfl rfl ?_; refine n_r ?_; refine a_s rfl rfl ?_; refine n_t ?_; refine tr_seq ?_; refine s_r ?_; refine m_v rfl rfl ?_; refine tr_val (rk_len_slice (.of rfl)) rfl ?_; refine m_v rfl rfl ?_; refine n_t ?_; refine tr_block ?_)
  refine tr_rowNil 271 3 ?_
  refine tr_for (ι := Nat × Value) (fun x => x.1 ≤ l.length) (fun x => [(10, .int .i64 x.1), (9, .int .i64 l.length), (8, .slice a l.length cp), (5, x.2), (1, .func (.func 207) #[] cap.toArray)]) (fun x => [row 271 3 x.2 x.1 (snsL ((l.map F).take x.1)).flatten]) (fun x => l.length - x.1) ?_ ?_
  · apply tr_start (0, .slice none 0 0) (Nat.zero_le _)
    case hs1 => exact .cons rfl (.cons rfl (.cons rfl (.cons rfl (.cons rfl .nil))))
    case ht =>
      show Takes _ [row 271 3 (.slice none 0 0) 0 []] _
      exact .cons .here .nil
  rintro ⟨k, v⟩ hk
  dsimp only at hk ⊢
  by_cases hlt : k < l.length
  · have ha' := ha (by intro e; rw [List.map_eq_nil_iff] at e; subst e; simp at hlt)
    have hcell := (hc k (triV l[k]) (by rw [List.getElem?_map, List.getElem?_eq_getElem hlt]; rfl)).2
    have hcl := hcall _ (List.getElem_mem hlt)
    have htk := snsL_take (l := l.map F) (k := k) (by rw [hFl]; exact hlt)
    rw [List.getElem_map] at htk
    generalize F l[k] = y at hcl htk
    obtain ⟨y0, y1, y2⟩ := y
    generalize l[k] = x at hcell hcl
    obtain ⟨x0, x1, x2⟩ := x
    unfold triV at hcell hcl
    unfold senV at hcl htk
    dsimp only at hcell hcl htk
    (refine s_r ?_; refine tr_val (rk_lss (.of rfl) (.of rfl)) rfl ?_; refine n_t ?_; refine tr_seq ?_; refine c_d rfl (fun hcd => ?_) (fun _ => by omega); refine s_t ?_; refine tr_seq ?_; refine tr_block ?_; refine s_r ?_; refine tr_val (rk_indexAddr (.of rfl) (.of rfl) ha' (by omega) hcd norm1_) rfl ?_; refine tr_val (rk_loadN (.of rfl) (Ats.base hcell rfl) rfl) rfl ?_; refine tr_new (rk_alloc rfl) rfl (fun _ _ => ?_); refine tr_store (.of rfl) (.of rfl) .here rfl rfl (okc_cons rfl (okc_cons rfl (okc_cons rfl okc_nil))) (lenb rfl) norm_ ?_; refine n_t ?_; refine tr_region ?_; refine m_v rfl rfl ?_; refine m_v rfl rfl ?_; refine tr_val (rk_loadB (.of rfl) .here norm_ (by rfl)) rfl ?_; refine tr_callV (rk_call (.of rfl) (.cons (.of rfl) .nil) inferInstance normc_) rfl (fun w' hm' => (hcl w' (Mem.keeps hm'))) ?_; refine tr_new (rk_sliceLitN (.cons (.of rfl) .nil) rfl rfl normp_ normp_ norm_) rfl (fun _ _ => ?_))
    refine tr_appendB (.of rfl) (.of rfl) (.there (.there .here)) .here norm_ (by rfl) (okc_cons rfl (okc_cons rfl (okc_cons rfl okc_nil))) (by rfl) (by rfl) (by rfl) lenx_ (by rfl) ?_
    intro v'
    (refine a_s rfl rfl ?_; refine tr_nil ?_; refine tr_blk_normal ?_; refine tr_then ?_; refine tr_region ?_; refine tr_val (rk_add (.of rfl) (.of rfl) (ini (by omega))) rfl ?_; refine m_v rfl rfl ?_; refine n_t ?_)
    apply tr_next (k + 1, v') (show k + 1 ≤ l.length by omega) (show l.length - (k + 1) < l.length - k by omega)
    case hs1 => exact .cons rfl (.cons rfl (.cons rfl (.cons rfl (.cons rfl .nil))))
    case ht =>
      show Takes _ [row 271 3 v' (k + 1) (snsL ((l.map F).take (k + 1))).flatten] _
      rw [htk]
      exact .cons .here .nil
  · obtain rfl : k = l.length := by omega
    rw [List.take_of_length_le (by omega)]
    (refine s_r ?_; refine tr_val (rk_lss (.of rfl) (.of rfl)) rfl ?_; refine n_t ?_; refine tr_seq ?_; refine c_d rfl (fun _ => by omega) (fun hcd => ?_); refine x_t ?_; refine tr_then_exit ?_; refine tr_blk_exit ?_; refine tr_then ?_; refine s_r ?_; refine m_v rfl rfl ?_; refine a_s rfl rfl ?_; refine n_t ?_; refine tr_ret ?_)
    first | with_reducible apply tr_retM | with_reducible apply tr_endM
    case he => exact ends1 rfl rfl
    case hR =>
      intro w' hm'
      exact gives_end v trivial (by exact .cons .here .nil) hm' rfl
theorem shF_ent {es : List En} (h : Sound es) (f : Int) : ∀ x ∈ shF es f, 0 ≤ x.1 ∧ x.1 < es.length := by
  intro x hx
  rcases h.air f with e | ⟨i, hi, hb, e⟩ | ⟨i, p, q, hi, e, _⟩
  · rw [e] at hx; cases hx
  · rw [e] at hx
    simp only [List.mem_singleton] at hx
    subst hx; dsimp only; omega
  · rw [e] at hx
    simp only [List.mem_cons, List.not_mem_nil, or_false] at hx
    rcases hx with rfl | rfl <;> dsimp only <;> omega
theorem shF_two {es : List En} (h : Sound es) (f : Int) : (shF es f).length ≤ 2 := by
  rcases h.air f with e | ⟨i, hi, hb, e⟩ | ⟨i, p, q, hi, e, _⟩ <;> rw [e] <;> simp
theorem vwL_len (es : List En) (f : Int) : (vwL es f).length = (shF es f).length := by rw [vwL, List.length_map]
theorem view_c {lv : Value} {es : List En} {f : Int} {w : World} (h : Rd w lv 8 (plRows es)) (hs : Sound es) :
    Gives Tryz.prog 170 [lv, .int .i64 f] w [] (fun _ : Value => True) id (fun v => [row 271 3 v (vwL es f).length (snsL (vwL es f)).flatten]) := by
  obtain ⟨a, n, cp, rfl⟩ := Rd.shape h
  refine gives_of_tr Tryz.func170 rfl rfl ?_
  (refine s_r ?_; refine tr_new (rk_box (.of rfl) rfl) rfl (fun _ _ => ?_); refine a_s rfl rfl ?_; refine n_r ?_; refine tr_val (rk_load1 (.of rfl) (At.lit .here rfl)) rfl ?_; refine m_v rfl rfl ?_)
  rename_i b2 hb2
  with_reducible apply tr_call
  case hr => exact rk_call (.of rfl) (.cons (.of rfl) (.cons (.of rfl) .nil)) inferInstance normc_
  case hd => rfl
  case ht => exact Takes.nil
  case hc =>
    intro w1 fp hm1 _ hs1
    obtain rfl : fp = [] := hs1
    exact shares_c (h.keeps hm1.keeps) hs
  intro v1 _
  dsimp only [id_eq, List.cons_append, List.nil_append]
  refine tr_val (rk_makeFunc' .nil (.cons (.of rfl) .nil)) rfl ?_
  with_reducible apply tr_call
  case hr => exact rk_call (.of rfl) (.cons (.of rfl) (.cons (.of rfl) .nil)) inferInstance normc_
  case hd => rfl
  case ht => exact Takes.nil
  case hc =>
    intro w1 fp hm1 _ hs1
    obtain rfl : fp = [] := hs1
    have hrd := rdTri (v := v1) hm1 (by exact .here)
    have key : Gives Tryz.prog 206 [v1, .func (.func 207) #[] #[.pointer (some ⟨b2, 0, none⟩)]] w1 [] (fun _ : Value => True) id (fun v => [row 271 3 v (vwL es f).length (snsL (vwL es f)).flatten]) := by
      rw [vwL_len]
      exact mapSn_c (F := fun x => ((nth es x.1.toNat).nm, x.2)) (cap := [.pointer (some ⟨b2, 0, none⟩)]) hrd (Nat.le_trans (shF_two hs f) (by decide)) fun x hx w2 hk2 => by
        have hm2 := hm1.keepsOn hk2
        refine view1_c (es := es) ?_ (h.keeps hm2.keeps) (shF_ent hs f x hx)
        have hb := hm2.blk (b := b2) (by exact Take.there .here)
        rw [cell_of_block hb]; rfl
    exact key
  intro v2 _
  dsimp only [id_eq, List.cons_append, List.nil_append]
  (refine a_s rfl rfl ?_; refine n_t ?_; refine tr_ret ?_)
  first | with_reducible apply tr_retM | with_reducible apply tr_endM
  case he => exact ends1 rfl rfl
  case hR =>
    intro w' hm'
    exact gives_end v2 trivial (by exact .cons .here .nil) hm' rfl
theorem sen_eq (x y : Sn) : decide (x = y) = (decide (x.1 = y.1) && (decide (x.2.1 = y.2.1) && (decide (x.2.2 = y.2.2) && true))) := by
  obtain ⟨a, b, c⟩ := x
  obtain ⟨d, e, f⟩ := y
  rw [Bool.and_true, ← Bool.decide_and, ← Bool.decide_and]
  exact decide_eq_decide.2 (by simp)
theorem senEq_c (x y : Sn) (w : World) : GivesV Tryz.prog 171 [.agg (senV x).toArray, .agg (senV y).toArray] w (.bool (decide (x = y))) := by
  rw [sen_eq]
  obtain ⟨a, b, c⟩ := x
  obtain ⟨d, e, f⟩ := y
  unfold senV
  dsimp only
  refine givesV_of_tr Tryz.func171 rfl rfl ?_
  (refine s_r ?_; refine tr_new (rk_box (.of rfl) rfl) rfl (fun _ _ => ?_); refine tr_new (rk_box (.of rfl) rfl) rfl (fun _ _ => ?_); refine a_s rfl rfl ?_; refine n_r ?_; refine tr_val (rk_loadB (.of rfl) (.there .here) norm_ (by rfl)) rfl ?_; refine tr_val (rk_loadB (.of rfl) .here norm_ (by rfl)) rfl ?_; refine tr_val (rk_eqlA (.of rfl) (.of rfl) (okL_string (okL_int (okL_int okL_nil))) rfl) rfl ?_; refine a_s rfl rfl ?_; refine n_t ?_; refine tr_ret ?_; refine tr_retE rfl (ends1 rfl rfl) ?_)
  rfl
theorem drop_eq_of {α : Type} {l m : List α} {k : Nat} (hl : k < l.length) (hm : k < m.length) (h : l[k] = m[k]) : (l.drop k = m.drop k) ↔ l.drop (k + 1) = m.drop (k + 1) := by
  rw [List.drop_eq_getElem_cons hl, List.drop_eq_getElem_cons hm, h]
  exact ⟨fun e => (List.cons.inj e).2, fun e => by rw [e]⟩
theorem eqSn_c {v1 v2 : Value} {l m : List Sn} {w : World} (h1 : Rd w v1 3 (snsL l)) (h2 : Rd w v2 3 (snsL m)) :
    GivesV Tryz.prog 169 [v1, v2, .func (.func 171) #[] #[]] w (.bool (decide (l = m))) := by
  obtain ⟨a1, cp1, b1, o1, rfl, hcap1, hmax1, ha1, hc1⟩ := h1
  obtain ⟨a2, cp2, b2, o2, rfl, hcap2, hmax2, ha2, hc2⟩ := h2
  rw [snsL_length] at *
  rw [snsL_length] at *
  unfold maxLen at hmax1 hmax2
  refine givesV_of_tr Tryz.func169 rfl rfl ?_
  (refine s_r ?_; refine a_s rfl rfl ?_; refine n_t ?_; refine tr_seq ?_; refine s_r ?_; refine m_v rfl rfl ?_; refine tr_val (rk_len_slice (.of rfl)) rfl ?_; refine m_v rfl rfl ?_; refine tr_val (rk_len_slice (.of rfl)) rfl ?_; refine tr_val (rk_neq (.of rfl) (.of rfl)) rfl ?_; refine n_t ?_; refine c_d rfl (fun hcd => ?_) (fun hcd => ?_); refine s_r ?_; refine a_s rfl rfl ?_; refine n_t ?_; refine r_t ?_; refine tr_retE rfl (ends1 rfl rfl) ?_; rotate_left; refine s_t ?_; refine tr_seq ?_; refine s_r ?_; refine m_v rfl rfl ?_; refine tr_val (rk_len_slice (.of rfl)) rfl ?_; refine m_v rfl rfl ?_; refine n_t ?_; refine tr_block ?_; rotate_right)
  · rw [decide_eq_false fun e => hcd (by rw [e])]
  have hlm : l.length = m.length := by omega
  refine tr_for (ι := Nat) (fun k => k ≤ l.length ∧ (l = m ↔ l.drop k = m.drop k)) (fun k => [(17, .int .i64 (k : Int)), (16, .int .i64 l.length), (15, .slice a1 l.length cp1), (1, .slice a2 m.length cp2), (2, .func (.func 171) #[] #[])]) (fun _ => []) (fun k => l.length - k) ?_ ?_
  · apply tr_start (0 : Nat) ⟨Nat.zero_le _, Iff.rfl⟩
    case hs1 => exact .cons rfl (.cons rfl (.cons rfl (.cons rfl (.cons rfl .nil))))
    case ht => (try simp only [List.take_zero, List.map_nil, List.nil_append]); exact .nil
  rintro k ⟨hk, hf⟩
  by_cases hlt : k < l.length
  · have hlt2 : k < m.length := by omega
    have ha1' := ha1 (snsL_ne hlt)
    have ha2' := ha2 (snsL_ne hlt2)
    have hcell1 := (hc1 k _ (snsL_get hlt)).2
    have hcell2 := (hc2 k _ (snsL_get hlt2)).2
    have hd := drop_eq_of (l := l) (m := m) hlt hlt2
    have hdn : l[k] ≠ m[k] → l.drop k ≠ m.drop k := fun hne e => hne (by
      rw [List.drop_eq_getElem_cons hlt, List.drop_eq_getElem_cons hlt2] at e
      exact (List.cons.inj e).1)
    generalize l[k] = x at hcell1 hd hdn
    generalize m[k] = y at hcell2 hd hdn
    obtain ⟨x0, x1, x2⟩ := x
    obtain ⟨y0, y1, y2⟩ := y
    have hse : ∀ w', GivesV Tryz.prog 171 [.agg #[.string x0, .int .i64 x1, .int .i64 x2], .agg #[.string y0, .int .i64 y1, .int .i64 y2]] w' (.bool (decide ((x0, x1, x2) = (y0, y1, y2)))) := fun w' => senEq_c (x0, x1, x2) (y0, y1, y2) w'
    unfold senV at hcell1 hcell2
    dsimp only at hcell1 hcell2
    (refine s_r ?_; refine tr_val (rk_lss (.of rfl) (.of rfl)) rfl ?_; refine n_t ?_; refine tr_seq ?_; refine c_d rfl (fun hcd => ?_) (fun _ => by omega); refine s_t ?_; refine tr_seq ?_; refine tr_block ?_; refine s_r ?_; refine m_v rfl rfl ?_; refine tr_val (rk_indexAddr (.of rfl) (.of rfl) ha1' (by omega) hcd norm1_) rfl ?_; refine tr_val (rk_loadN (.of rfl) (Ats.base hcell1 rfl) rfl) rfl ?_; refine tr_new (rk_alloc rfl) rfl (fun _ _ => ?_); refine a_s rfl rfl ?_; refine tr_store (.of rfl) (.of rfl) .here rfl rfl (okc_cons rfl (okc_cons rfl (okc_cons rfl okc_nil))) (lenb rfl) norm_ ?_; refine n_r ?_; refine m_v rfl rfl ?_; refine m_v rfl rfl ?_; refine tr_val (rk_indexAddr (.of rfl) (.of rfl) ha2' (by omega) (by omega) norm1_) rfl ?_; refine tr_val (rk_loadN (.of rfl) (Ats.base hcell2 rfl) rfl) rfl ?_; refine tr_new (rk_alloc rfl) rfl (fun _ _ => ?_); refine tr_store (.of rfl) (.of rfl) .here rfl rfl (okc_cons rfl (okc_cons rfl (okc_cons rfl okc_nil))) (lenb rfl) norm_ ?_; refine n_r ?_; refine m_v rfl rfl ?_; refine tr_val (rk_loadB (.of rfl) (.there .here) norm_ (by rfl)) rfl ?_; refine tr_val (rk_loadB (.of rfl) .here norm_ (by rfl)) rfl ?_; refine tr_callV (rk_call (.of rfl) (.cons (.of rfl) (.cons (.of rfl) .nil)) inferInstance normc_) rfl (fun w' hm' => (hse w')) ?_; refine tr_val (rk_not (.of rfl)) rfl ?_; refine n_t ?_; refine c_b rfl (fun hcd => ?_) (fun hcd => ?_); refine s_r ?_; refine a_s rfl rfl ?_; refine n_t ?_; refine tr_ret ?_; refine tr_blk_ret ?_; refine tr_then_ret ?_; refine tr_then_ret ?_; refine tr_blk_ret ?_; refine tr_then_ret ?_; refine tr_retE rfl (ends1 rfl rfl) ?_; rotate_left; refine tr_skip ?_; refine tr_blk_normal ?_; refine tr_then ?_; refine tr_region ?_; refine tr_val (rk_add (.of rfl) (.of rfl) (ini (by omega))) rfl ?_; refine m_v rfl rfl ?_; refine n_t ?_; rotate_right)
    · rw [decide_eq_false fun e => hdn hcd (hf.1 e)]
    · have he : ((x0, x1, x2) : Sn) = (y0, y1, y2) := by
        simpa using hcd
      clear hcd
      apply tr_next (k + 1) ⟨(show k + 1 ≤ l.length from hlt), hf.trans (hd he)⟩ (show l.length - (k + 1) < l.length - k by omega)
      case hs1 => exact .cons rfl (.cons rfl (.cons rfl (.cons rfl (.cons rfl .nil))))
      case ht => (try simp only [List.take_zero, List.map_nil, List.nil_append]); exact .nil
  · obtain rfl : k = l.length := by omega
    have : l = m := hf.2 (by rw [List.drop_length, hlm, List.drop_length])
    (refine s_r ?_; refine tr_val (rk_lss (.of rfl) (.of rfl)) rfl ?_; refine n_t ?_; refine tr_seq ?_; refine c_d rfl (fun _ => by omega) (fun hcd => ?_); refine x_t ?_; refine tr_then_exit ?_; refine tr_blk_exit ?_; refine tr_then ?_; refine s_r ?_; refine a_s rfl rfl ?_; refine n_t ?_; refine tr_ret ?_; refine tr_retE rfl (ends1 rfl rfl) ?_)
    rw [decide_eq_true this]
/-- the index of the first one with a property, or -1 -/
def idxD (D : Int → Bool) (l : List Int) : Int := ((List.range l.length).find? fun i => (l[i]?.map D).getD false).elim (-1) (fun i => (i : Int))
theorem idxD_at {D : Int → Bool} {l : List Int} {k : Nat} (h : ∀ i, i < k → (l[i]?.map D).getD false = false) (hk : k < l.length) (hp : D l[k] = true) : idxD D l = k := by
  unfold idxD
  have : (List.range l.length).find? (fun i => (l[i]?.map D).getD false) = some k := by
    rw [List.find?_range_eq_some]
    exact ⟨by simp [hk, hp], by simpa using hk, fun i hi => by simpa using h i hi⟩
  rw [this]; rfl
theorem idxD_none {D : Int → Bool} {l : List Int} (h : ∀ i, i < l.length → (l[i]?.map D).getD false = false) : idxD D l = -1 := by
  unfold idxD
  have : (List.range l.length).find? (fun i => (l[i]?.map D).getD false) = none := by
    rw [List.find?_eq_none]
    intro i hi
    simp [h i (List.mem_range.1 hi)]
  rw [this]; rfl
theorem idxD_cases (D : Int → Bool) (l : List Int) : (idxD D l = -1 ∧ ∀ x ∈ l, D x = false) ∨ ∃ k : Nat, ∃ hk : k < l.length, idxD D l = k ∧ D l[k] = true ∧ ∀ i (hi : i < k), D (l[i]'(by omega)) = false := by
  by_cases h : ∀ i, i < l.length → (l[i]?.map D).getD false = false
  · left
    refine ⟨idxD_none h, fun x hx => ?_⟩
    obtain ⟨i, hi, rfl⟩ := List.getElem_of_mem hx
    simpa [hi] using h i hi
  · right
    have : ∃ k, k < l.length ∧ (l[k]?.map D).getD false = true ∧ ∀ i, i < k → (l[i]?.map D).getD false = false := by
      apply Classical.byContradiction
      intro hc
      apply h
      intro i
      induction i using Nat.strongRecOn with
      | _ i ih =>
        intro hi
        cases hb : (l[i]?.map D).getD false with
        | false => rfl
        | true => exact absurd ⟨i, hi, hb, fun k hk => ih k hk (by omega)⟩ hc
    obtain ⟨k, hk, h1, h2⟩ := this
    have h3 : D l[k] = true := by simpa [hk] using h1
    exact ⟨k, hk, idxD_at h2 hk h3, h3, fun i hi => by have := h2 i hi; simpa [show i < l.length by omega] using this⟩
theorem idxI_c {lv : Value} {l : List Int} {D : Int → Bool} {f : FuncId} {first cap : List Value} [Bod Tryz.prog f] {w : World} (h : Rd w lv 1 (ints l)) (hcall : ∀ x ∈ l, ∀ w', Keeps [] w w' → GivesV Tryz.prog f (first ++ [.int .i64 x] ++ cap) w' (.bool (D x))) :
    GivesV Tryz.prog 172 [lv, .func (.func f) first.toArray cap.toArray] w (.int .i64 (idxD D l)) := by
  obtain ⟨a, cp, b, o, rfl, hcap, hmax, ha, hc⟩ := h
  rw [ints_length] at *
  unfold maxLen at hmax
  refine givesV_of_tr Tryz.func172 rfl rfl ?_
  (refine s_r ?_; refine a_s rfl rfl ?_; refine n_t ?_; refine tr_seq ?_; refine s_r ?_; refine m_v rfl rfl ?_; refine tr_val (rk_len_slice (.of rfl)) rfl ?_; refine m_v rfl rfl ?_; refine n_t ?_; refine tr_block ?_)
  refine tr_for (fun k : Nat => k ≤ l.length ∧ ∀ i, i < k → (l[i]?.map D).getD false = false) (fun k => [(8, .int .i64 k), (7, .int .i64 l.length), (0, .slice a l.length cp), (1, .func (.func f) first.toArray cap.toArray)]) (fun _ => []) (fun k => l.length - k) ?_ ?_
  · apply tr_start 0 ⟨Nat.zero_le _, fun i h => by omega⟩
    case hs1 => exact .cons rfl (.cons rfl (.cons rfl (.cons rfl .nil)))
    case ht => (try simp only [List.take_zero, List.map_nil, List.nil_append]); exact .nil
  rintro k ⟨hk, hf⟩
  by_cases hlt : k < l.length
  · have ha' := ha (ints_ne hlt)
    have c0 : w.cell? ⟨b, o + k * 1, none⟩ = some (.int .i64 l[k]) := (hc k _ (ints_get hlt)).2 0 _ rfl
    have hcl := hcall _ (List.getElem_mem hlt)
    have hps : (l[k]?.map D).getD false = D l[k] := by simp [hlt]
    (refine s_r ?_; refine tr_val (rk_lss (.of rfl) (.of rfl)) rfl ?_; refine n_t ?_; refine tr_seq ?_; refine c_d rfl (fun hcd => ?_) (fun _ => by omega); refine s_t ?_; refine tr_seq ?_; refine tr_block ?_; refine s_r ?_; refine m_v rfl rfl ?_; refine a_s rfl rfl ?_; refine n_r ?_; refine m_v rfl rfl ?_; refine m_v rfl rfl ?_; refine m_v rfl rfl ?_; refine tr_val (rk_indexAddr (.of rfl) (.of rfl) ha' (by omega) hcd norm1_) rfl ?_; refine tr_val (rk_load1 (.of rfl) (At.base c0 rfl)) rfl ?_; refine tr_callV (rk_call (.of rfl) (.cons (.of rfl) .nil) inferInstance normc_) rfl (fun w' hm' => (hcl w' (Mem.keeps hm'))) ?_; refine n_t ?_; refine c_b rfl (fun hcd => ?_) (fun hcd => ?_); refine s_r ?_; refine m_v rfl rfl ?_; refine a_s rfl rfl ?_; refine n_t ?_; refine tr_ret ?_; refine tr_blk_ret ?_; refine tr_then_ret ?_; refine tr_then_ret ?_; refine tr_blk_ret ?_; refine tr_then_ret ?_; refine tr_retE rfl (ends1 rfl rfl) ?_; rotate_left; refine tr_skip ?_; refine tr_blk_normal ?_; refine tr_then ?_; refine tr_region ?_; refine tr_val (rk_add (.of rfl) (.of rfl) (ini (by omega))) rfl ?_; refine m_v rfl rfl ?_; refine n_t ?_; rotate_right)
    · rw [idxD_at hf hlt hcd]
    · apply tr_next (k + 1) ⟨by omega, fun i hi => by
        by_cases e : i = k
        · rw [e, hps]; exact hcd
        · exact hf i (by omega)⟩ (by omega)
      case hs1 => exact .cons rfl (.cons rfl (.cons rfl (.cons rfl .nil)))
      case ht => (try simp only [List.take_zero, List.map_nil, List.nil_append]); exact .nil
  · obtain rfl : k = l.length := by omega
    (refine s_r ?_; refine tr_val (rk_lss (.of rfl) (.of rfl)) rfl ?_; refine n_t ?_; refine tr_seq ?_; refine c_d rfl (fun _ => by omega) (fun hcd => ?_); refine x_t ?_; refine tr_then_exit ?_; refine tr_blk_exit ?_; refine tr_then ?_; refine s_r ?_; refine a_s rfl rfl ?_; refine n_t ?_; refine tr_ret ?_; refine tr_retE rfl (ends1 rfl rfl) ?_)
    rw [idxD_none hf]
theorem ind0x {α : Type} {l : List Oper} {i : Nat} {v : α} : Indep l i (fun _ => v) := fun _ _ _ => rfl
theorem differs_c {va vb : Value} {a b : List En} {n : Int} {pa pb : Nat} {w : World} (ca : w.cell? ⟨pa, 0, none⟩ = some va) (cb : w.cell? ⟨pb, 0, none⟩ = some vb) (ha : Rd w va 8 (plRows a)) (hb : Rd w vb 8 (plRows b)) (hsa : Sound a) (hsb : Sound b) :
    GivesV Tryz.prog 168 [.int .i64 n, .pointer (some ⟨pa, 0, none⟩), .pointer (some ⟨pb, 0, none⟩)] w (.bool (dfB a b n)) := by
  obtain ⟨aa, na, cpa, rfl⟩ := Rd.shape ha
  obtain ⟨ab, nb, cpb, rfl⟩ := Rd.shape hb
  refine givesV_of_tr Tryz.func168 rfl rfl ?_
  (refine s_r ?_; refine a_s rfl rfl ?_; refine n_t ?_; refine tr_seq ?_)
  with_reducible refine tr_drawM 9 (by kernel_rfl) ?_
  (refine am_val (fun β => (rk_load1 (.of rfl) (At.base ca rfl))) ind0x rfl ?_; refine am_val (fun β => (rk_move (.of rfl))) ind0x rfl ?_)
  dsimp only [Nat.zero_add, Nat.reduceAdd]
  with_reducible apply am_call (ι := Value) (Φ := fun _ => True) (val := id) (own := fun v => [row 271 3 v (vwL a n).length (snsL (vwL a n)).flatten]) (g := id) (B := []) (args := fun _ => [.slice aa na cpa, .int .i64 n])
  case hg => exact fun x => ⟨x, rfl⟩
  case hB => rfl
  case hr => exact fun β => rk_call (.of rfl) (.cons (.of rfl) (.cons (.of rfl) .nil)) inferInstance rfl
  case hd => rfl
  case hc => exact fun β w' hb' => view_c (ha.keeps hb'.mem.keeps) hsa
  dsimp only [id_eq, Nat.reduceAdd]
  (refine am_val (fun β => (rk_load1 (.of rfl) (At.base cb rfl))) ind0x rfl ?_; refine am_val (fun β => (rk_move (.of rfl))) ind0x rfl ?_)
  dsimp only [Nat.reduceAdd]
  with_reducible apply am_call (ι := Value) (Φ := fun _ => True) (val := id) (own := fun v => [row 271 3 v (vwL b n).length (snsL (vwL b n)).flatten]) (g := id) (B := []) (args := fun _ => [.slice ab nb cpb, .int .i64 n])
  case hg => exact fun x => ⟨x, rfl⟩
  case hB => rfl
  case hr => exact fun β => rk_call (.of rfl) (.cons (.of rfl) (.cons (.of rfl) .nil)) inferInstance rfl
  case hd => rfl
  case hc => exact fun β w' hb' => view_c (hb.keeps hb'.mem.keeps) hsb
  dsimp only [id_eq, Nat.reduceAdd]
  with_reducible apply am_callV (B := [2, 5]) (F := fun _ => .bool (decide (vwL a n = vwL b n))) (args := fun β => [β 2, β 5, .func (.func 171) #[] #[]])
  case hB => kernel_rfl
  case hr => exact fun β => rk_call (.of rfl) (.cons (.of rfl) (.cons (.of rfl) (.cons (.of rfl) .nil))) inferInstance rfl
  case hi => exact ind0x
  case hd => rfl
  case hc =>
    intro β w' hb'
    have m2 := hb'.at 2 (by simp) (s := ⟨fun β => β 2, fun β => [row 271 3 (β 2) (vwL a n).length (snsL (vwL a n)).flatten]⟩) (by kernel_rfl)
    have m5 := hb'.at 5 (by simp) (s := ⟨fun β => β 5, fun β => [row 271 3 (β 5) (vwL b n).length (snsL (vwL b n)).flatten]⟩) (by kernel_rfl)
    dsimp only [List.cons_append, List.nil_append] at m2 m5
    exact eqSn_c (rdSns m2 (by exact .here) rfl) (rdSns m5 (by exact .here) rfl)
  (refine am_val (fun β => (rk_not (.of rfl))) ind0x rfl ?_; refine am_val (fun β => (rk_assign (.of rfl))) ind0x rfl ?_)
  refine am_end fun β => ?_
  dsimp only [resAll, List.nil_append, List.cons_append, List.append_eq, Nat.reduceAdd]
  with_reducible refine left_done (by kernel_rfl) ?_
  (refine tr_then ?_; refine tr_ret ?_; refine tr_retE rfl (ends1 rfl rfl) ?_)
  unfold dfB
  rw [decide_not]
end Go.Proofs.A1

