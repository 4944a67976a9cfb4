/- Parts of the proof: S72 S74p. -/
import Derived.Test.YtfbgbipclgljaaaGreatDoorEM21
import Derived.Test.YtfbgbipclgljaaaGreatDoorEM06
import Derived.Test.YtfbgbipclgljaaaGreatDoorEM15
set_option linter.unusedSectionVars false
set_option linter.unusedVariables false
set_option linter.unusedSimpArgs false
/- S72 -/
namespace Go.Proofs.A1
open Go Go.SL

/-- the greatest length of some fillings -/
def fullL (b : Br) (l : List (List Nat)) : Int := l.foldl (fun m o => max m (tL b.sp o o.length)) 0
theorem fullL_snoc (b : Br) (l : List (List Nat)) (x : List Nat) : fullL b (l ++ [x]) = max (fullL b l) (tL b.sp x x.length) := by
  unfold fullL
  rw [List.foldl_append]; rfl
def fuF (b : Br) : Int := if brE b = 0 then fullL b (fillsA b) else 0
set_option maxHeartbeats 1000000 in
theorem fullest_c {b : Br} {sv cv xv : Value} {w : World} (h1 : Rd w sv 4 (spsL b.sp)) (h2 : Rd w cv 1 (ints b.cm)) (h3 : Rd w xv 2 (prsL b.ex)) :
    GivesV Tryz.prog 63 [.agg #[.int .i64 b.n, sv, cv, xv]] w (.tuple #[.int .i64 (fuF b), .int .i64 (brE b)]) := by
  have hone1 := Rd.one h1
  have hone2 := Rd.one h2
  have hone3 := Rd.one h3
  refine givesV_of_tr Tryz.func63 rfl rfl ?_
  (refine s_r ?_; refine tr_new (rk_box (.of rfl) rfl) rfl (fun _ _ => ?_); refine a_s rfl rfl ?_; refine a_s rfl rfl ?_; refine n_t ?_; refine tr_seq ?_; refine s_r ?_; refine tr_val (rk_loadB (.of rfl) .here norm_ (by rfl)) rfl ?_; refine tr_callV (rk_call (.of rfl) (.cons (.of rfl) .nil) inferInstance normc_) rfl (fun w' hm' => (brk_c (Rd.keeps h1 (Mem.keeps hm')) (Rd.keeps h2 (Mem.keeps hm')) (Rd.keeps h3 (Mem.keeps hm')))) ?_; refine a_s rfl rfl ?_; refine n_r ?_; refine m_v rfl rfl ?_; refine tr_val (rk_neq (.of rfl) (.of rfl)) rfl ?_; refine n_t ?_; refine c_d rfl (fun hcd => ?_) (fun hcd => ?_); refine s_r ?_; refine m_v rfl rfl ?_; refine a_s rfl rfl ?_; refine a_s rfl rfl ?_; refine n_t ?_; refine r_t ?_; refine tr_retE rfl (ends2 rfl rfl rfl) ?_; rotate_left; refine s_t ?_; refine s_r ?_; refine tr_new (rk_alloc rfl) rfl (fun _ _ => ?_); refine tr_store (.of rfl) (.of rfl) .here rfl rfl (okc_cons rfl okc_nil) (lenb rfl) norm_ ?_; refine n_t ?_; refine tr_seq ?_; refine s_r ?_; refine tr_val (rk_loadB (.of rfl) (.there .here) norm_ (by rfl)) rfl ?_; rotate_right)
  · rw [fuF, if_neg hcd]
  have hz : brE b = 0 := Decidable.not_not.1 hcd
  have hok := BrOk.of hz
  rename_i b1 hb1 b5 hb5
  rw [fuF, if_pos hz, hz]
  with_reducible apply tr_call
  case hr => exact rk_call (.of rfl) (.cons (.of rfl) .nil) inferInstance normc_
  case hd => rfl
  case ht => exact Takes.nil
  case hc =>
    intro w1 fp hm1 _ hs1
    obtain rfl : fp = [] := hs1
    exact fillings_c _ _ _ _ hone1 hone2 hone3
  intro x1 _
  dsimp only [id_eq, List.cons_append, List.nil_append]
  (refine n_t ?_; refine tr_block ?_)
  refine tr_rangePool (p := 14) (f := 188) (first := []) (cap := [.pointer (some ⟨x1, 0, none⟩)]) (ι := Int) (rst := []) ?hg
    [blk x1 (.cells #[.int .i64 b.n, sv, cv, xv] 91 (0, 0))] 3 ((fillsA b).map natsV) ?hit (fun vs x => x = fullL b ((fillsA b).take vs.length))
    (fun x => [blk b5 (.cells #[.int .i64 x] 3 (0, 0)), blk b1 (.cells #[.int .i64 b.n, sv, cv, xv] 91 (0, 0))]) 0 ?h0 ?ht ?hp' ?round ?kn
  case hg => exact Is.of rfl
  case hit => intro w' hm'; exact fillsI_c hok h1 h2 h3 (Out.nil _ _) (Out.nil _ _) (Out.nil _ _)
  case h0 => exact rfl
  case ht =>
    show Takes _ [blk b5 (.cells #[.int .i64 0] 3 (0, 0)), blk b1 (.cells #[.int .i64 b.n, sv, cv, xv] 91 (0, 0)), blk x1 _] _
    exact .cons (.there .here) (.cons (.there .here) (.cons .here .nil))
  case hp' => exact Nat.le_of_ble_eq_true rfl
  case kn =>
    intro mo vs D hvl hmo
    dsimp only [List.cons_append, List.nil_append]
    rw [List.length_map] at hvl
    rw [hvl, List.take_length] at hmo
    subst hmo
    (refine tr_blk_normal ?_; refine tr_then ?_; refine s_r ?_; refine tr_val (rk_load1 (.of rfl) (At.lit .here rfl)) rfl ?_; refine a_s rfl rfl ?_; refine a_s rfl rfl ?_; refine n_t ?_; refine tr_ret ?_)
    first | with_reducible apply tr_retM | with_reducible apply tr_endM
    case he => exact ends2 rfl rfl rfl
    case hR =>
      intro w' hm'
      exact ⟨rfl, hm'.keeps⟩
  case round =>
    intro l rc W fp vs v mo hsz hvl hmo hB hF
    rw [List.length_map] at hvl
    have hx0 : (fillsA b)[vs.length]? = some (fillsA b)[vs.length] := List.getElem?_eq_getElem hvl
    generalize ho : (fillsA b)[vs.length] = o at hx0
    have hdN : Dif b.sp.length o := fillsF_dif (Dif.nil _) _ (List.mem_of_getElem? hx0)
    have hlN : o.length ≤ 1000 := by have := hdN.len; have := hok.few; omega
    have hvN : (vs ++ [v])[vs.length]? = some v := by simp
    have hxN : (((fillsA b).map natsV).take (vs.length + 1))[vs.length]? = some (natsV o) := by
      rw [List.getElem?_take, if_pos (by omega), List.getElem?_map, hx0]; rfl
    have h1W : Rd W sv 4 (spsL b.sp) := h1.keepsN (Out.nil _ _) hB
    have o1W : Out fp sv (spsL b.sp) := h1.out (by omega) (Out.nil _ _) hF
    have hsn : fullL b ((fillsA b).take (vs.length + 1)) = max mo (tL b.sp o o.length) := by
      rw [fills_len hx0, fullL_snoc, ← hmo]
    have hvl1 : ∀ u : Value, (vs ++ [u]).length = vs.length + 1 := fun u => by simp
    dsimp only [List.cons_append, List.nil_append]
    refine tr_fact (fun w hm => Rd.shape (rdPoolN hm (by exact Take.there (.there (.there .here))) hvN hxN)) fun hsh => ?_
    obtain ⟨av, nv, cpv, e⟩ := hsh
    subst e
    (refine tr_region ?_; refine a_s rfl rfl ?_; refine n_t ?_)
    with_reducible apply tr_begin
    case ht => exact .here
    refine tr_block ?_
    with_reducible refine tr_draw 6 (by kernel_rfl) ?_
    (refine any_val (rk_load1 (.of rfl) (At.lit (.there .here) rfl)) rfl ?_; refine any_val (rk_loadB (.of rfl) (.there (.there .here)) norm_ (by rfl)) rfl ?_; refine a_m rfl rfl ?_; refine any_call (rk_call (.of rfl) (.cons (.of rfl) (.cons (.of rfl) .nil)) inferInstance normc_) rfl (fun w' hm' => (told9_c (Rd.keepsN h1W o1W (Mem.keeps hm')) (rdPoolN hm' (.there (.there (.there .here))) hvN hxN) hone2 hone3 (BrOk.spOk hok) (Dif.lt hdN) hlN)) ?_; refine any_val (rk_index (.of rfl) (.of rfl) (by omega) (by omega) norm_) rfl ?_; refine any_val (rk_max2 (.of rfl) (.of rfl)) rfl ?_)
    with_reducible refine any_end ?_
    (refine tr_store (.of rfl) (.of rfl) (.there .here) rfl rfl (okc_cons rfl okc_nil) (lenb rfl) norm_ ?_; refine tr_nil ?_; refine tr_blk_normal ?_)
    apply tr_poolN (max mo (tL b.sp o o.length))
    case ht => exact Take.there .here
    case hx =>
      show max mo (tL b.sp o o.length) = fullL b ((fillsA b).take (vs ++ [Value.slice av nv cpv]).length)
      rw [hvl1]; exact hsn.symm
    case h2 =>
      show Takes _ [blk b5 (.cells #[.int .i64 (max mo (tL b.sp o o.length))] 3 (0, 0)), blk b1 (.cells #[.int .i64 b.n, sv, cv, xv] 91 (0, 0)), pool 3 (vs ++ [.slice av nv cpv]) (((fillsA b).map natsV).take (vs ++ [Value.slice av nv cpv]).length)] _
      rw [hvl1]
      exact .cons .here (.cons .here (.cons .here .nil))
end Go.Proofs.A1


/- S74p -/
/- The best filling of a break, and what a price proves. Plain Lean, no program in sight. -/
namespace Go.Proofs.A1
open Go Go.SL

theorem nthN_pre {o r : List Nat} {k : Nat} (h : k < o.length) : nthN (o ++ r) k = nthN o k := by
  simp [nthN, List.getD_eq_getElem?_getD, List.getElem?_append_left h]
theorem tL_pre (l : List Sp) (o r : List Nat) : ∀ k, k ≤ o.length → tL l (o ++ r) k = tL l o k
  | 0, _ => rfl
  | k + 1, h => by rw [tL, tL, tL_pre l o r k (by omega), nthN_pre (by omega)]
theorem cpO_pre {b : Br} {o r : List Nat} {k : Nat} (h : k < o.length) : cpO b (o ++ r) k = cpO b o k := by
  unfold cpO; rw [nthN_pre h]
theorem lastO_pre {b : Br} {o r : List Nat} : ∀ {k : Nat}, k ≤ o.length → lastO b (o ++ r) k = lastO b o k
  | 0, _ => rfl
  | k + 1, h => by rw [lastO, lastO, cpO_pre (by omega)]
theorem cntO_pre {b : Br} {o r : List Nat} {c : Int} : ∀ {k : Nat}, k ≤ o.length → cntO b (o ++ r) c k = cntO b o c k
  | 0, _ => rfl
  | k + 1, h => by rw [cntO, cntO, cntO_pre (by omega), cpO_pre (by omega)]
theorem badO_pre {b : Br} {o r : List Nat} {k : Nat} (h : k < o.length) : badO b (o ++ r) k = badO b o k := by
  unfold badO; rw [cpO_pre h, lastO_pre (by omega), cntO_pre (by omega)]
theorem fitE_zero {b : Br} {o : List Nat} : fitE b o = 0 ↔ (∀ k, k < o.length → badO b o k = false) ∧ (∀ i j, i < o.length → j < o.length → exclB b (cpO b o i) (cpO b o j) = false) ∧ tL b.sp o o.length ≤ b.n := by
  unfold fitE
  by_cases h1 : (List.range o.length).any (badO b o) = true
  · rw [if_pos h1]
    refine ⟨fun h => absurd h (by decide), fun h => ?_⟩
    obtain ⟨k, hk, h2⟩ := List.any_eq_true.1 h1
    rw [h.1 k (List.mem_range.1 hk)] at h2
    cases h2
  · rw [if_neg h1]
    have h1' : ∀ k, k < o.length → badO b o k = false := fun k hk => by
      cases hb : badO b o k with
      | false => rfl
      | true => exact absurd (List.any_eq_true.2 ⟨k, List.mem_range.2 hk, hb⟩) h1
    by_cases h2 : exclO b o = true
    · rw [if_pos h2]
      refine ⟨fun h => absurd h (by decide), fun h => ?_⟩
      unfold exclO at h2
      obtain ⟨i, hi, h3⟩ := List.any_eq_true.1 h2
      obtain ⟨j, hj, h4⟩ := List.any_eq_true.1 h3
      rw [h.2.1 i j (List.mem_range.1 hi) (List.mem_range.1 hj)] at h4
      cases h4
    · rw [if_neg h2, whenF_zero (by decide), decide_eq_false_iff_not]
      refine ⟨fun h => ⟨h1', fun i j hi hj => ?_, by omega⟩, fun h => by have := h.2.2; omega⟩
      cases hx : exclB b (cpO b o i) (cpO b o j) with
      | false => rfl
      | true => exact absurd (List.any_eq_true.2 ⟨i, List.mem_range.2 hi, List.any_eq_true.2 ⟨j, List.mem_range.2 hj, hx⟩⟩) h2
theorem tL_mono {l : List Sp} {o : List Nat} (hb : ∀ x ∈ l, SpOk x) (ho : ∀ i ∈ o, i < l.length) (k : Nat) : ∀ m, k + m ≤ o.length → tL l o k ≤ tL l o (k + m)
  | 0, _ => Int.le_refl _
  | m + 1, h => by
    have h1 := tL_mono hb ho k m (by omega)
    have h2 := (hb _ (nthS_mem (ho _ (nthN_mem (show k + m < o.length by omega))))).ln
    rw [← Nat.add_assoc, tL]
    omega
theorem fitE_pre {b : Br} (hb : BrOk b) {o r : List Nat} (hd : Dif b.sp.length (o ++ r)) (h : fitE b (o ++ r) = 0) : fitE b o = 0 := by
  rw [fitE_zero] at h ⊢
  have hl : (o ++ r).length = o.length + r.length := List.length_append
  refine ⟨fun k hk => ?_, fun i j hi hj => ?_, ?_⟩
  · rw [← badO_pre (r := r) hk]; exact h.1 k (by omega)
  · rw [← cpO_pre (r := r) hi, ← cpO_pre (r := r) hj]; exact h.2.1 i j (by omega) (by omega)
  · have h1 := tL_mono hb.spOk hd.lt o.length r.length (by omega)
    rw [tL_pre b.sp o r o.length (Nat.le_refl _), ← hl] at h1
    have := h.2.2
    omega
theorem fills_self {b : Br} {f : Nat} {o : List Nat} (h : fitE b o = 0) : o ∈ fillsF b f o := by
  cases f with
  | zero => rw [fillsF, if_neg (by rw [h]; decide)]; exact List.mem_singleton.2 rfl
  | succ f => rw [fillsF, if_neg (by rw [h]; decide)]; exact List.mem_cons_self
theorem mem_fills {b : Br} (hb : BrOk b) : ∀ (r o : List Nat) (f : Nat), Dif b.sp.length (o ++ r) → fitE b (o ++ r) = 0 → r.length ≤ f → o ++ r ∈ fillsF b f o
  | [], o, f, _, h, _ => by rw [List.append_nil] at h ⊢; exact fills_self h
  | i :: r, o, 0, _, _, hf => by simp at hf
  | i :: r, o, f + 1, hd, h, hf => by
    have h0 := fitE_pre hb hd h
    have e : o ++ i :: r = (o ++ [i]) ++ r := by simp
    rw [fillsF, if_neg (by rw [h0]; decide)]
    refine List.mem_cons_of_mem _ (List.mem_flatMap.2 ⟨i, List.mem_range.2 (hd.lt i (by simp)), ?_⟩)
    have hn : i ∉ o := fun hi => by
      have := (List.nodup_append.1 hd.nd).2.2 i hi i (by simp)
      exact this rfl
    rw [if_neg (by simpa using hn)]
    rw [e] at hd h ⊢
    exact mem_fills hb r (o ++ [i]) f hd h (by simp at hf; omega)
theorem mem_fillsA {b : Br} (hb : BrOk b) {o : List Nat} (hd : Dif b.sp.length o) (h : fitE b o = 0) : o ∈ fillsA b :=
  mem_fills hb o [] b.sp.length (by simpa using hd) (by simpa using h) hd.len
theorem fills_fit {b : Br} : ∀ {f : Nat} {o : List Nat}, ∀ q ∈ fillsF b f o, fitE b q = 0
  | 0, o, q, hq => by
    rw [fillsF] at hq
    split at hq
    · cases hq
    · rename_i h
      simp only [List.mem_singleton] at hq; subst hq; exact Decidable.not_not.1 h
  | f + 1, o, q, hq => by
    rw [fillsF] at hq
    split at hq
    · cases hq
    · rename_i h
      rcases List.mem_cons.1 hq with e | hq
      · subst e; exact Decidable.not_not.1 h
      · obtain ⟨i, hi, hq⟩ := List.mem_flatMap.1 hq
        split at hq
        · cases hq
        · exact fills_fit q hq
/-- a filling -/
structure Filling (b : Br) (o : List Nat) : Prop where
  dif : Dif b.sp.length o
  fit : fitE b o = 0
theorem fillsA_iff {b : Br} (hb : BrOk b) {o : List Nat} : o ∈ fillsA b ↔ Filling b o :=
  ⟨fun h => ⟨fillsF_dif (Dif.nil _) _ h, fills_fit _ h⟩, fun h => mem_fillsA hb h.dif h.fit⟩
theorem Filling.nil {b : Br} (hb : BrOk b) : Filling b [] := by
  refine ⟨Dif.nil _, fitE_zero.2 ⟨fun k h => absurd h (Nat.not_lt_zero _), fun i j h => absurd h (Nat.not_lt_zero _), ?_⟩⟩
  have := hb.n; show (0 : Int) ≤ b.n; omega
theorem betterB_false {b : Br} {x y : List Nat} : betterB b x y = false ↔ tV b.sp x x.length < tV b.sp y y.length ∨ (tV b.sp x x.length = tV b.sp y y.length ∧ tL b.sp x x.length ≤ tL b.sp y y.length) := by
  unfold betterB
  rw [Bool.or_eq_false_iff, Bool.and_eq_false_iff]
  simp only [decide_eq_false_iff_not]
  omega
theorem betterB_true {b : Br} {x y : List Nat} : betterB b x y = true ↔ tV b.sp y y.length < tV b.sp x x.length ∨ (tV b.sp x x.length = tV b.sp y y.length ∧ tL b.sp y y.length < tL b.sp x x.length) := by
  unfold betterB
  rw [Bool.or_eq_true, Bool.and_eq_true]
  simp only [decide_eq_true_eq]
theorem best_fold (b : Br) : ∀ (l : List (List Nat)) (a : List Nat), (l.foldl (fun y x => if betterB b x y then x else y) a = a ∨ l.foldl (fun y x => if betterB b x y then x else y) a ∈ l) ∧ betterB b a (l.foldl (fun y x => if betterB b x y then x else y) a) = false ∧ ∀ x ∈ l, betterB b x (l.foldl (fun y x => if betterB b x y then x else y) a) = false
  | [], a => ⟨.inl rfl, by rw [betterB_false]; exact .inr ⟨rfl, Int.le_refl _⟩, by simp⟩
  | z :: l, a => by
    rw [List.foldl_cons]
    by_cases h : betterB b z a = true
    · rw [if_pos h]
      obtain ⟨h1, h2, h3⟩ := best_fold b l z
      generalize l.foldl (fun y x => if betterB b x y then x else y) z = q at h1 h2 h3
      refine ⟨.inr ?_, ?_, ?_⟩
      · rcases h1 with h1 | h1
        · rw [h1]; exact List.mem_cons_self
        · exact List.mem_cons_of_mem _ h1
      · rw [betterB_true] at h
        rw [betterB_false] at h2 ⊢
        omega
      · intro x hx
        rcases List.mem_cons.1 hx with e | hx
        · subst e; exact h2
        · exact h3 x hx
    · rw [if_neg h]
      obtain ⟨h1, h2, h3⟩ := best_fold b l a
      generalize l.foldl (fun y x => if betterB b x y then x else y) a = q at h1 h2 h3
      refine ⟨?_, h2, ?_⟩
      · rcases h1 with h1 | h1
        · exact .inl h1
        · exact .inr (List.mem_cons_of_mem _ h1)
      · intro x hx
        rcases List.mem_cons.1 hx with e | hx
        · subst e
          have h' := Bool.eq_false_iff.2 h
          rw [betterB_false] at h' h2 ⊢
          omega
        · exact h3 x hx
theorem fillF_ok {b : Br} (hb : BrOk b) : Filling b (fillF b) := by
  have := (best_fold b (fillsA b) []).1
  rcases this with h | h
  · have e : fillF b = [] := h
    rw [e]; exact Filling.nil hb
  · exact (fillsA_iff hb).1 h
theorem fillF_max {b : Br} (hb : BrOk b) {o : List Nat} (ho : Filling b o) : tV b.sp o o.length < tV b.sp (fillF b) (fillF b).length ∨ (tV b.sp o o.length = tV b.sp (fillF b) (fillF b).length ∧ tL b.sp o o.length ≤ tL b.sp (fillF b) (fillF b).length) :=
  betterB_false.1 ((best_fold b (fillsA b) []).2.2 o ((fillsA_iff hb).2 ho))
theorem full_fold (b : Br) : ∀ (l : List (List Nat)) (a : Int), a ≤ l.foldl (fun m o => max m (tL b.sp o o.length)) a ∧ (∀ x ∈ l, tL b.sp x x.length ≤ l.foldl (fun m o => max m (tL b.sp o o.length)) a) ∧ ∀ M, a ≤ M → (∀ x ∈ l, tL b.sp x x.length ≤ M) → l.foldl (fun m o => max m (tL b.sp o o.length)) a ≤ M
  | [], a => ⟨Int.le_refl _, by simp, fun M h _ => h⟩
  | z :: l, a => by
    rw [List.foldl_cons]
    obtain ⟨h1, h2, h3⟩ := full_fold b l (max a (tL b.sp z z.length))
    generalize l.foldl (fun m o => max m (tL b.sp o o.length)) (max a (tL b.sp z z.length)) = q at h1 h2 h3
    refine ⟨by omega, ?_, fun M ha hM => h3 M ?_ fun x hx => hM x (List.mem_cons_of_mem _ hx)⟩
    · intro x hx
      rcases List.mem_cons.1 hx with e | hx
      · subst e; omega
      · exact h2 x hx
    · have := hM z List.mem_cons_self; omega
theorem full_ge {b : Br} (hb : BrOk b) {o : List Nat} (ho : Filling b o) : tL b.sp o o.length ≤ fullL b (fillsA b) :=
  (full_fold b (fillsA b) 0).2.1 o ((fillsA_iff hb).2 ho)
theorem full_le {b : Br} (hb : BrOk b) {M : Int} (h0 : 0 ≤ M) (h : ∀ o, Filling b o → tL b.sp o o.length ≤ M) : fullL b (fillsA b) ≤ M :=
  (full_fold b (fillsA b) 0).2.2 M h0 fun o ho => h o ((fillsA_iff hb).1 ho)
theorem full_nn (b : Br) : 0 ≤ fullL b (fillsA b) := (full_fold b (fillsA b) 0).1
theorem Filling.le {b : Br} {o : List Nat} (h : Filling b o) : tL b.sp o o.length ≤ b.n := (fitE_zero.1 h.fit).2.2

/-! orders -/
theorem Filling.few {b : Br} (hb : BrOk b) {o : List Nat} (h : Filling b o) : o.length ≤ 8 := by
  have := h.dif.len; have := hb.few; omega
theorem orderE_nat {b : Br} {o : List Nat} (hd : Dif b.sp.length o) (h8 : o.length ≤ 8) : orderE b (o.map fun (i : Nat) => (i : Int)) = fitE b o := by
  have hz : errE (ordE b (o.map fun (i : Nat) => (i : Int))) (o.map fun (i : Nat) => (i : Int)).length = 0 := by
    refine errE_ok.2 fun k hk => ?_
    have hk' : k < o.length := by simpa using hk
    rw [ordE_eq hk, firstF_zero]
    have hlt := hd.lt _ (List.getElem_mem hk')
    have hc : ((o.map fun (i : Nat) => (i : Int)).take k).contains ((o.map fun (i : Nat) => (i : Int))[k]) = false := by
      rw [List.getElem_map, ← List.map_take, contains_nat]
      have hnd := hd.nd
      rw [← List.take_append_drop k o] at hnd
      have h3 := (List.nodup_append.1 hnd).2.2
      rw [List.drop_eq_getElem_cons hk'] at h3
      have : o[k] ∉ o.take k := fun hm => h3 _ hm _ List.mem_cons_self rfl
      simpa using this
    intro e he
    simp only [List.mem_cons, List.not_mem_nil, or_false] at he
    rcases he with rfl | rfl
    · rw [whenF_zero (by decide), List.getElem_map, Bool.or_eq_false_iff, decide_eq_false_iff_not, decide_eq_false_iff_not]
      omega
    · rw [whenF_zero (by decide)]; exact hc
  rw [orderE, if_neg (by rw [List.length_map]; omega), hz, if_neg (by decide)]
  congr 1
  rw [List.map_map]
  conv => rhs; rw [← List.map_id o]
  exact List.map_congr_left fun i _ => by simp
theorem Filling.of_order {b : Br} {ol : List Int} (h : orderE b ol = 0) : Filling b (cfO ol) := by
  obtain ⟨_, h2, h3⟩ := orderE_ok h
  refine ⟨⟨?_, fun i hi => ?_⟩, h3⟩
  · unfold cfO
    rw [List.Nodup, List.pairwise_iff_getElem]
    intro i j hi hj hij e
    rw [List.length_map] at hi hj
    rw [List.getElem_map, List.getElem_map] at e
    have a1 := h2 i hi
    have a2 := h2 j hj
    have e' : ol[i] = ol[j] := by omega
    have hm : ol[j] ∈ ol.take j := by
      rw [← e', List.mem_iff_getElem]
      exact ⟨i, by rw [List.length_take]; omega, by rw [List.getElem_take]⟩
    have := a2.2.2
    rw [List.contains_eq_mem, decide_eq_false_iff_not] at this
    exact this hm
  · obtain ⟨q, hq, rfl⟩ := List.mem_map.1 hi
    obtain ⟨k, hk, rfl⟩ := List.getElem_of_mem hq
    have := h2 k hk
    omega
theorem orderE_one {b : Br} (hb : BrOk b) {i : Nat} (hi : i < b.sp.length) (hn : (nthS b.sp i).ln ≤ b.n) (hc : 0 < cmO b (nthS b.sp i).cp) : Filling b [i] := by
  have hm := nthS_mem hi
  have hcp := hb.cp _ hm
  have e0 : ∀ k, k < [i].length → cpO b [i] k = (nthS b.sp i).cp := fun k hk => by
    obtain rfl : k = 0 := by simp at hk; omega
    rfl
  refine ⟨⟨List.nodup_cons.2 ⟨List.not_mem_nil, List.nodup_nil⟩, fun j hj => by simp at hj; omega⟩, fitE_zero.2 ⟨fun k hk => ?_, fun k j hk hj => ?_, ?_⟩⟩
  · obtain rfl : k = 0 := by simp at hk; omega
    unfold badO
    rw [e0 0 (by simp), Bool.or_eq_false_iff, decide_eq_false_iff_not, decide_eq_false_iff_not]
    refine ⟨by show ¬ (nthS b.sp i).cp = -1; omega, ?_⟩
    show ¬ cmO b (nthS b.sp i).cp < 0 + if (nthS b.sp i).cp = (nthS b.sp i).cp then 1 else 0
    rw [if_pos rfl]; omega
  · rw [e0 k hk, e0 j hj]
    unfold exclB
    rw [List.any_eq_false]
    intro p hp
    have := (hb.ex p hp).2.2
    simp only [Bool.or_eq_true, Bool.and_eq_true, decide_eq_true_eq]
    omega
  · show 0 + (nthS b.sp i).ln ≤ b.n
    omega

/-! what a price proves -/
def sm (m : Nat → Int) : List Nat → Int
  | [] => 0
  | i :: r => m i + sm m r
theorem sm_snoc (m : Nat → Int) (i : Nat) : ∀ o, sm m (o ++ [i]) = sm m o + m i
  | [] => by simp [sm]
  | j :: o => by rw [List.cons_append, sm, sm, sm_snoc m i o]; omega
theorem tV_sm (l : List Sp) (o : List Nat) : ∀ k, k ≤ o.length → tV l o k = sm (fun i => (nthS l i).vl) (o.take k)
  | 0, _ => rfl
  | k + 1, h => by
    have hg : nthN o k = o[k] := by rw [nthN, List.getD_eq_getElem?_getD, List.getElem?_eq_getElem (show k < o.length from h)]; rfl
    rw [tV, tV_sm l o k (by omega), List.take_succ_eq_append_getElem h, sm_snoc, hg]
theorem tL_sm (l : List Sp) (o : List Nat) : ∀ k, k ≤ o.length → tL l o k = sm (fun i => (nthS l i).ln) (o.take k)
  | 0, _ => rfl
  | k + 1, h => by
    have hg : nthN o k = o[k] := by rw [nthN, List.getD_eq_getElem?_getD, List.getElem?_eq_getElem (show k < o.length from h)]; rfl
    rw [tL, tL_sm l o k (by omega), List.take_succ_eq_append_getElem h, sm_snoc, hg]
theorem sm_erase (m : Nat → Int) {i : Nat} : ∀ {o : List Nat}, i ∈ o → sm m o = m i + sm m (o.erase i)
  | [], h => by cases h
  | j :: o, h => by
    by_cases e : j = i
    · subst e; rw [List.erase_cons_head, sm]
    · rw [List.erase_cons_tail (by simpa using e), sm, sm, sm_erase m (o := o) (by
        rcases List.mem_cons.1 h with h | h
        · exact absurd h.symm e
        · exact h)]
      omega
def smR (m : Nat → Int) : Nat → Int
  | 0 => 0
  | n + 1 => smR m n + m n
theorem sm_le {m : Nat → Int} (hm : ∀ i, 0 ≤ m i) : ∀ (n : Nat) (o : List Nat), Dif n o → sm m o ≤ smR m n
  | 0, o, h => by
    cases o with
    | nil => exact Int.le_refl _
    | cons x r => have := h.lt x (by simp); omega
  | n + 1, o, h => by
    rw [smR]
    by_cases hn : n ∈ o
    · have hd : Dif n (o.erase n) := by
        refine ⟨h.nd.erase n, fun i hi => ?_⟩
        have h1 := h.lt i (List.mem_of_mem_erase hi)
        have h2 : i ≠ n := fun e => by
          subst e
          exact absurd hi (h.nd.not_mem_erase)
        omega
      have := sm_le hm n _ hd
      rw [sm_erase m hn]; omega
    · have hd : Dif n o := ⟨h.nd, fun i hi => by
        have h1 := h.lt i hi
        have h2 : i ≠ n := fun e => by subst e; exact hn hi
        omega⟩
      have := sm_le hm n _ hd
      have := hm n
      omega
theorem sm_price (l : List Sp) (p : Int × Int) : ∀ o, sm (fun i => (nthS l i).vl) o * p.2 - p.1 * sm (fun i => (nthS l i).ln) o ≤ sm (fun i => max 0 ((nthS l i).vl * p.2 - p.1 * (nthS l i).ln)) o
  | [] => by simp [sm]
  | i :: o => by
    have := sm_price l p o
    rw [sm, sm, sm, Int.add_mul, Int.mul_add]
    omega
theorem bndN_smR (b : Br) (p : Int × Int) : ∀ k, bndN b p k = p.1 * b.n + smR (fun i => max 0 ((nthS b.sp i).vl * p.2 - p.1 * (nthS b.sp i).ln)) k
  | 0 => by rw [bndN, smR]; omega
  | k + 1 => by rw [bndN, smR, bndN_smR b p k]; omega
/-- a price proves a bound -/
theorem bndF_ge {b : Br} {p : Int × Int} (hp : PrOk p) {o : List Nat} (ho : Filling b o) : tV b.sp o o.length ≤ bndF b p := by
  unfold bndF
  have hd := hp.d
  have hn := hp.n
  rw [Int.le_ediv_iff_mul_le (by omega), bndN_smR]
  have h1 := sm_price b.sp p o
  have h2 := sm_le (m := fun i => max 0 ((nthS b.sp i).vl * p.2 - p.1 * (nthS b.sp i).ln)) (fun i => by omega) b.sp.length o ho.dif
  have h3 := ho.le
  rw [tL_sm b.sp o o.length (Nat.le_refl _), List.take_length] at h3
  rw [tV_sm b.sp o o.length (Nat.le_refl _), List.take_length]
  have h4 : p.1 * sm (fun i => (nthS b.sp i).ln) o ≤ p.1 * b.n := Int.mul_le_mul_of_nonneg_left h3 hn.1
  omega
theorem cmpF_eq (x y : Int) : cmpF x y = -1 ∧ x < y ∨ cmpF x y = 1 ∧ y < x ∨ cmpF x y = 0 ∧ x = y := by
  unfold cmpF; split
  · exact .inl ⟨rfl, by assumption⟩
  · split
    · exact .inr (.inl ⟨rfl, by assumption⟩)
    · exact .inr (.inr ⟨rfl, by omega⟩)
theorem cfP_lt {b : Br} {p q : Int × Int} (h : cfP b p q < 0) : bndF b p ≤ bndF b q := by
  unfold cfP at h
  rw [firstF2] at h
  rcases cmpF_eq (bndF b p) (bndF b q) with ⟨e, h1⟩ | ⟨e, h1⟩ | ⟨e, h1⟩
  · omega
  · rw [e] at h; simp at h
  · omega
theorem cfP_ge {b : Br} {p q : Int × Int} (h : ¬ cfP b p q < 0) : bndF b q ≤ bndF b p := by
  unfold cfP at h
  rw [firstF2] at h
  rcases cmpF_eq (bndF b p) (bndF b q) with ⟨e, h1⟩ | ⟨e, h1⟩ | ⟨e, h1⟩
  · rw [e] at h; simp at h
  · omega
  · omega
theorem minK_le {b : Br} {l : List (Int × Int)} : ∀ k j, j ≤ k → bndF b (minK (cfP b) l k) ≤ bndF b (nthD l j)
  | 0, j, h => by obtain rfl : j = 0 := by omega
                  exact Int.le_refl _
  | k + 1, j, h => by
    rw [minK]
    by_cases hc : cfP b (nthD l (k + 1)) (minK (cfP b) l k) < 0
    · rw [if_pos hc]
      by_cases e : j = k + 1
      · subst e; exact Int.le_refl _
      · exact Int.le_trans (cfP_lt hc) (minK_le k j (by omega))
    · rw [if_neg hc]
      by_cases e : j = k + 1
      · subst e; exact cfP_ge hc
      · exact minK_le k j (by omega)
theorem priceF_mem (b : Br) : priceF b ∈ prA b := minK_mem _ (by rw [prA_length]; omega)
theorem priceF_le {b : Br} {p : Int × Int} (hp : p ∈ prA b) : bndF b (priceF b) ≤ bndF b p := by
  obtain ⟨j, hj, rfl⟩ := List.getElem_of_mem hp
  have := minK_le (b := b) (l := prA b) ((prA b).length - 1) j (by omega)
  rwa [nthD_eq hj] at this
theorem prA_zero (b : Br) : (0, 1) ∈ prA b := List.mem_cons_self
theorem prA_spot {b : Br} {i : Nat} (hi : i < b.sp.length) : lowF (nthS b.sp i).vl (nthS b.sp i).ln ∈ prA b := by
  refine List.mem_cons_of_mem _ (List.mem_map.2 ⟨nthS b.sp i, ?_, rfl⟩)
  rw [List.take_length]; exact nthS_mem hi
theorem prc_zero : ratE (0, 1) = 0 := by decide
theorem gcd_low (m n : Nat) (h : 0 < n) : Nat.gcd (m / Nat.gcd m n) (n / Nat.gcd m n) = 1 := by
  rw [Nat.gcd_div (Nat.gcd_dvd_left m n) (Nat.gcd_dvd_right m n), Nat.div_self (Nat.gcd_pos_of_pos_right m h)]
theorem prc_low {a b : Int} (ha : 0 ≤ a ∧ a ≤ 1000000) (hb : 1 ≤ b ∧ b ≤ 100000) : ratE (lowF a b) = 0 := by
  have ok := lowF_ok ha hb
  obtain ⟨h1, h2⟩ := ok.n
  obtain ⟨h3, h4⟩ := ok.d
  have h0 : rat0 (lowF a b) = 0 := by
    unfold rat0
    rw [firstF_zero]
    intro e he
    simp only [List.mem_cons, List.not_mem_nil, or_false] at he
    rcases he with rfl | rfl
    · rw [withinF_zero]; omega
    · rw [withinF_zero]; omega
  unfold ratE
  rw [h0, if_neg (by decide), whenF_zero (by decide), decide_eq_false_iff_not, Decidable.not_not, show max (lowF a b).1 (-(lowF a b).1) = (lowF a b).1 by omega]
  obtain ⟨m, rfl⟩ := Int.eq_ofNat_of_zero_le ha.1
  obtain ⟨n, rfl⟩ := Int.eq_ofNat_of_zero_le (show 0 ≤ b by omega)
  have := gcd_low m n (by omega)
  unfold lowF gcdF
  simp only [Int.toNat_natCast]
  rw [← Int.natCast_ediv, ← Int.natCast_ediv, Int.toNat_natCast, Int.toNat_natCast, this]; rfl
theorem prA_prc {b : Br} (hb : BrOk b) {p : Int × Int} (hp : p ∈ prA b) : ratE p = 0 := by
  rcases List.mem_cons.1 hp with h | h
  · rw [h]; exact prc_zero
  · unfold priK at h
    obtain ⟨x, hx, rfl⟩ := List.mem_map.1 h
    have hm := List.mem_of_mem_take hx
    exact prc_low (hb.vl x hm) (hb.ln x hm)

/-! one frame longer -/
def longB (b : Br) : Br := ⟨b.n + 1, b.sp, b.cm, b.ex⟩
theorem brE_long {b : Br} (h : brE b = 0) (hn : b.n < 100000) : brE (longB b) = 0 := by
  unfold brE at h ⊢
  rw [firstF_zero] at h ⊢
  simp only [List.mem_cons, List.not_mem_nil, or_false, forall_eq_or_imp, forall_eq] at h ⊢
  refine ⟨?_, h.2.1, h.2.2.1, h.2.2.2⟩
  have h0 := h.1
  unfold br0 at h0 ⊢
  rw [firstF_zero] at h0 ⊢
  simp only [List.mem_cons, List.not_mem_nil, or_false, forall_eq_or_imp, forall_eq] at h0 ⊢
  refine ⟨?_, h0.2⟩
  have h1 := h0.1
  rw [withinF_zero] at h1 ⊢
  show 0 ≤ b.n + 1 ∧ b.n + 1 ≤ 100000
  omega
theorem lastO_long {b : Br} {o : List Nat} : ∀ k, lastO (longB b) o k = lastO b o k
  | 0 => rfl
  | _ + 1 => rfl
theorem cntO_long {b : Br} {o : List Nat} {c : Int} : ∀ k, cntO (longB b) o c k = cntO b o c k
  | 0 => rfl
  | k + 1 => by rw [cntO, cntO, cntO_long k]; rfl
theorem badO_long {b : Br} {o : List Nat} (k : Nat) : badO (longB b) o k = badO b o k := by
  unfold badO; rw [lastO_long, cntO_long]; rfl
theorem Filling.long {b : Br} {o : List Nat} (h : Filling b o) : Filling (longB b) o := by
  refine ⟨h.dif, ?_⟩
  have := fitE_zero.1 h.fit
  refine fitE_zero.2 ⟨fun k hk => (badO_long k).trans (this.1 k hk), this.2.1, ?_⟩
  have h3 := this.2.2
  show tL b.sp o o.length ≤ b.n + 1
  omega
theorem long_ge {b : Br} (hb : BrOk b) (hb' : BrOk (longB b)) : tV b.sp (fillF b) (fillF b).length ≤ tV b.sp (fillF (longB b)) (fillF (longB b)).length ∧ fullL b (fillsA b) ≤ fullL (longB b) (fillsA (longB b)) := by
  refine ⟨?_, full_le hb (full_nn _) fun o ho => full_ge hb' ho.long⟩
  have := fillF_max hb' (fillF_ok hb).long
  have e : (longB b).sp = b.sp := rfl
  rw [e] at this
  omega
end Go.Proofs.A1

