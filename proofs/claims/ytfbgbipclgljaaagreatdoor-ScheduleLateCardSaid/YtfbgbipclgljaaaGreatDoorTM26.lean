/- Parts of the proof: S92. -/
import Derived.Test.YtfbgbipclgljaaaGreatDoorTM23
import Derived.Test.YtfbgbipclgljaaaGreatDoorTM25
import Derived.Test.YtfbgbipclgljaaaGreatDoorTM22
import Derived.Test.YtfbgbipclgljaaaGreatDoorTM06
set_option linter.unusedSectionVars false
set_option linter.unusedVariables false
set_option linter.unusedSimpArgs false
/- S92 -/
namespace Go.Proofs.A1
open Go Go.SL

theorem Gives.sliceV {P : Program} {f : FuncId} {args : List Value} {w : World} {md : List Nat} {E : TypeId} {sz n : Nat} {xs : List Value} {val : Value → Value} (h : Gives P f args w md (fun _ : Value => True) val (fun v => [row E sz v n xs])) :
    Gives P f args w md (fun _ : Option Addr × Nat => True) (fun x => val (.slice x.1 n x.2)) (fun x => [row E sz (.slice x.1 n x.2) n xs]) :=
  Calls.mono h fun e w' ⟨v, he, _, hk, fp, hn, hs, hf⟩ => by
    have hv : ∃ x : Option Addr × Nat, v = .slice x.1 n x.2 := by
      obtain ⟨f1, f2, _, ⟨_, _, ⟨e1, e2⟩ | ⟨g, cap, cur, e1, _⟩⟩, _⟩ := hs
      · exact ⟨(none, 0), by rw [e1, e2]⟩
      · exact ⟨(_, cap), e1⟩
    obtain ⟨x, rfl⟩ := hv
    exact ⟨x, he, trivial, hk, fp, hn, hs, hf⟩
theorem first_true {D : Int → Bool} (h0 : ∀ n, n < 0 → D n = false) : ∀ k : Nat, (∃ p, D p = true ∧ ∀ n, n < p → D n = false) ∨ ∀ n, n < (k : Int) → D n = false
  | 0 => .inr h0
  | k + 1 => by
    rcases first_true h0 k with h | h
    · exact .inl h
    · cases hd : D (k : Int) with
      | true => exact .inl ⟨k, hd, h⟩
      | false =>
        refine .inr fun n hn => ?_
        by_cases e : n = (k : Int)
        · rw [e]; exact hd
        · exact h n (by omega)
theorem last_true {D : Int → Bool} {M : Int} (h0 : ∀ n, M ≤ n → D n = false) : ∀ k : Nat, (∃ q, D (q - 1) = true ∧ ∀ n, q ≤ n → D n = false) ∨ ∀ n, M - (k : Int) ≤ n → D n = false
  | 0 => .inr fun n hn => h0 n (by omega)
  | k + 1 => by
    rcases last_true h0 k with h | h
    · exact .inl h
    · cases hd : D (M - (k : Int) - 1) with
      | true => exact .inl ⟨M - k, hd, h⟩
      | false =>
        refine .inr fun n hn => ?_
        by_cases e : n = M - (k : Int) - 1
        · rw [e]; exact hd
        · exact h n (by omega)
theorem ch_some {a b : List En} (ha : Sound a) (hb : Sound b) : ∃ x, ChOk a b x := by
  have hn : ∀ n, n < 0 → dfB a b n = false := fun n h => df_neg ha hb h
  have hm : ∀ n, (10000000 : Int) ≤ n → dfB a b n = false := fun n h => df_end fun m hm => by
    rcases hm with hm | hm
    · have := (tn_in ha hm).2.1; omega
    · have := (tn_in hb hm).2.1; omega
  have hall : (∀ n, n < ((10000000 : Nat) : Int) → dfB a b n = false) → ∃ x, ChOk a b x := fun h => ⟨(0, 0, 7), .inr ⟨rfl, fun n => by
    by_cases e : n < 10000000
    · exact h n e
    · exact hm n (by omega)⟩⟩
  rcases first_true hn 10000000 with ⟨p, p1, p0⟩ | h
  · rcases last_true hm 10000000 with ⟨q, q1, q0⟩ | h
    · exact ⟨(p, q, 0), .inl ⟨p, q, rfl, ⟨p1, p0, q1, q0⟩⟩⟩
    · refine hall fun n hn' => ?_
      by_cases e : n < 0
      · exact hn n e
      · exact h n (by omega)
  · exact hall h
theorem late_chX {es cs : List En} {now : Int} (hz : chkF es = 0) (h : LateOk es cs now) : ((chX es cs).2.2 = 0 ∧ now < (chX es cs).1 ∧ (chX es cs).1 < (chX es cs).2.1) ∨ (chX es cs).2.2 = 7 := by
  obtain ⟨y, hy⟩ := ch_some (Sound.of hz) (Sound.of h.sound)
  have he : chE es cs = 0 := by
    unfold chE
    rw [firstF_zero]
    simp only [List.mem_cons, List.not_mem_nil, or_false, forall_eq_or_imp, forall_eq]
    exact ⟨hz, h.sound⟩
  rw [chX_eq (.inr ⟨he, hy⟩)]
  exact h.late y hy
theorem late_list {es : List En} {now : Int} {n : Nat} {x : En} {kd : ByteArray} {tm : Int} (hz : chkF es = 0) (hn : n < es.length) : ∃ (G : Nat → List En) (k1 k2 k3 : Nat),
    (rmE es now n = 0 → G 0 = rmL es now n ∧ k1 = 1) ∧ (rmE es now n ≠ 0 → k1 = 0) ∧ (inE es now n x = 0 → G k1 = inL es now n x ∧ k2 = k1 + 1) ∧ (inE es now n x ≠ 0 → k2 = k1) ∧ (rtE es now n kd tm = 0 → G k2 = rtL es now n kd tm ∧ k3 = k2 + 1) ∧ (rtE es now n kd tm ≠ 0 → k3 = k2) ∧ k3 ≤ 3 ∧ k2 ≤ 2 ∧ k1 ≤ 1 ∧ ∀ i, i < k3 → LateOk es (G i) now := by
  have go : ∀ k1 k2 k3 : Nat, (rmE es now n = 0 → k1 = 1) → (rmE es now n ≠ 0 → k1 = 0) → (inE es now n x = 0 → k2 = k1 + 1) → (inE es now n x ≠ 0 → k2 = k1) → (rtE es now n kd tm = 0 → k3 = k2 + 1) → (rtE es now n kd tm ≠ 0 → k3 = k2) → ∀ i, i < k3 → LateOk es (if i < k1 then rmL es now n else if i < k2 then inL es now n x else rtL es now n kd tm) now := by
    intro k1 k2 k3 a1 a2 b1 b2 c1 c2 i hi
    by_cases h1 : i < k1
    · rw [if_pos h1]
      refine late_rm hz hn ?_
      apply Classical.byContradiction
      intro h; have := a2 h; omega
    · rw [if_neg h1]
      by_cases h2 : i < k2
      · rw [if_pos h2]
        refine late_in hz (Nat.le_of_lt hn) ?_
        apply Classical.byContradiction
        intro h; have := b2 h; omega
      · rw [if_neg h2]
        refine late_rt hz hn ?_
        apply Classical.byContradiction
        intro h; have := c2 h; omega
  have pick : ∀ (p : Prop) (k : Nat), ∃ k' : Nat, (p → k' = k + 1) ∧ (¬ p → k' = k) ∧ k' ≤ k + 1 := fun p k => by
    by_cases h : p
    · exact ⟨k + 1, fun _ => rfl, fun h' => absurd h h', Nat.le_refl _⟩
    · exact ⟨k, fun h' => absurd h' h, fun _ => rfl, Nat.le_succ _⟩
  obtain ⟨k1, a1, a2, a3⟩ := pick (rmE es now n = 0) 0
  obtain ⟨k2, b1, b2, b3⟩ := pick (inE es now n x = 0) k1
  obtain ⟨k3, c1, c2, c3⟩ := pick (rtE es now n kd tm = 0) k2
  refine ⟨fun i => if i < k1 then rmL es now n else if i < k2 then inL es now n x else rtL es now n kd tm, k1, k2, k3, fun h => ⟨?_, a1 h⟩, a2, fun h => ⟨?_, b1 h⟩, b2, fun h => ⟨?_, c1 h⟩, c2, by omega, by omega, by omega, go k1 k2 k3 a1 a2 b1 b2 c1 c2⟩
  · show (if 0 < k1 then _ else _) = _
    rw [if_pos (by have := a1 h; omega)]
  · show (if k1 < k1 then _ else if k1 < k2 then _ else _) = _
    rw [if_neg (by omega), if_pos (by have := b1 h; omega)]
  · show (if k2 < k1 then _ else if k2 < k2 then _ else _) = _
    rw [if_neg (by by_cases h' : inE es now n x = 0; have := b1 h'; omega; have := b2 h'; omega), if_neg (by omega)]
def lateR (G : Nat → List En) (i : Nat) (v : Value) : Asn := row 138 6 v (G i).length (ensL (G i)).flatten
theorem rk_convS {P : Program} {c : Cx} {sl : Slots} {hs : List Asn} {dst : Option Tmp} {pos : String} {af : Array Edge} {g : Option (Nat × Bool)} {ty t u : TypeId} {k' : IntKind} {x : Operand} {n : Int} [ht : Und P t (.int k')] [hu : Und P u (.int .i64)] (hx : Is sl x (.int k' n)) (h : 0 ≤ n ∧ n < 9223372036854775808) :
    RunV P c sl hs ⟨dst, .convert t u x, ty, pos, af, g⟩ (.int .i64 n) := by
  have := rk_conv (P := P) (c := c) (hs := hs) (dst := dst) (ty := ty) (pos := pos) (af := af) (g := g) (t := t) (u := u) (k := .i64) hx
  rwa [show IntKind.i64.wrap n = n by unfold IntKind.wrap; simp [IntKind.signed, IntKind.bits]; omega] at this
set_option maxHeartbeats 8000000 in
set_option maxRecDepth 100000 in
theorem late_law {sv : Value} {es : List En} {m0 m1 : Int} {x : En} {w : World} (h1 : Rd w sv 6 (ensL es)) (hm0 : 0 ≤ m0 ∧ m0 ≤ 65535) (hm1 : 0 ≤ m1 ∧ m1 ≤ 65535) (hG : Glob w) (hT : Tab10 w) :
    GivesV Tryz.prog 15 [.agg #[sv], .agg #[.int .u16 m0, .int .u16 m1], .agg x.cells.toArray] w (.bool true) := by
  have haw : ∀ w', Keeps [] w w' → GivesV Tryz.prog 17 [] w' (.bool true) := fun w' hk => awake_c w' (hG.keeps hk) (hT.keeps hk)
  have hva : ∀ w', Keeps [] w w' → GivesV Tryz.prog 59 [.agg #[sv]] w' (.bool (validB es)) := fun w' hk => valid_c (h1.keeps hk)
  have hbr : ∀ w', Keeps [] w w' → GivesV Tryz.prog 90 [.agg #[sv]] w' (.bool (briefB es)) := fun w' hk => brief_c (h1.keeps hk)
  have hse := shortEntry_c x
  have hon := one_c x
  have heq := entQ_c x
  have hxc : x.cells = [.string x.nm, .string x.mt, .string x.kd, .int .i64 x.tm, .int .i64 x.ln, .int .i64 x.ov] := rfl
  have hone1 := Rd.one h1
  have h1' := h1
  obtain ⟨a1, cap1, bs1, os1, rfl, hcap1, hmax1, ha1, hc1⟩ := h1'
  rw [ensL_length] at *
  unfold maxLen at hmax1
  have hIn : ∀ (sv' : Value) (ls : List En) (now at' : Int) (y : En) w', Keeps [] w w' → ls.length ≤ 1000 → Rd w' sv' 6 (ensL ls) → _ := fun sv' ls now at' y w' hk hl h => inserted_c (now := now) (at' := at') y h hl (hG.keeps hk)
  rw [hxc] at hse hon heq ⊢
  refine givesV_of_tr Tryz.func15 rfl rfl ?_
  (refine s_r ?_; refine tr_new (rk_box (.of rfl) rfl) rfl (fun _ _ => ?_); refine tr_new (rk_box (.of rfl) rfl) rfl (fun _ _ => ?_); refine tr_new (rk_box (.of rfl) rfl) rfl (fun _ _ => ?_); refine a_s rfl rfl ?_; refine n_t ?_; refine tr_seq ?_; refine s_r ?_; refine tr_callV (rk_call (.of rfl) .nil inferInstance normc_) rfl (fun w' hm' => (haw w' (Mem.keeps hm'))) ?_; refine tr_val (rk_not (.of rfl)) rfl ?_; refine m_v rfl rfl ?_; refine tr_vG1 rfl rfl inferInstance (fun hg hgp => (rk_loadB (.of rfl) (.there (.there .here)) norm_ (by rfl))) rfl ?_; refine tr_callVG1 rfl rfl (fun hg => (rk_call (.of rfl) (.cons (.ofg hg rfl) .nil) inferInstance normc_)) rfl (fun hg w' hm' => (hva w' (Mem.keeps hm'))) ?_; refine tr_vG1 rfl rfl inferInstance (fun hg hgp => (rk_not (.ofg hgp rfl))) rfl ?_; refine tr_val (rk_pick_or (.of rfl) rfl) rfl ?_; refine m_v rfl rfl ?_; refine tr_vG1 rfl rfl inferInstance (fun hg hgp => (rk_loadB (.of rfl) (.there (.there .here)) norm_ (by rfl))) rfl ?_; refine tr_callVG1 rfl rfl (fun hg => (rk_call (.of rfl) (.cons (.ofg hg rfl) .nil) inferInstance normc_)) rfl (fun hg w' hm' => (hbr w' (Mem.keeps hm'))) ?_; refine tr_vG1 rfl rfl inferInstance (fun hg hgp => (rk_not (.ofg hg rfl))) rfl ?_; refine tr_val (rk_pick_or (.of rfl) rfl) rfl ?_; refine m_v rfl rfl ?_; refine tr_vG1 rfl rfl inferInstance (fun hg hgp => (rk_fieldAddr (.of rfl) norm0_)) rfl ?_; refine tr_vG1 rfl rfl inferInstance (fun hg hgp => (rk_load1 (.ofg hg rfl) (At.lit (.there (.there .here)) rfl))) rfl ?_; refine tr_vG1 rfl rfl inferInstance (fun hg hgp => (rk_len_slice (.ofg hg rfl))) rfl ?_; refine tr_vG1 rfl rfl inferInstance (fun hg hgp => (rk_eql (.ofg hg rfl) (.of rfl))) rfl ?_; refine tr_val (rk_pick_or (.of rfl) rfl) rfl ?_; refine m_v rfl rfl ?_; refine tr_vG1 rfl rfl inferInstance (fun hg hgp => (rk_loadB (.of rfl) .here norm_ (by rfl))) rfl ?_; refine tr_callVG1 rfl rfl (fun hg => (rk_call (.of rfl) (.cons (.ofg hg rfl) .nil) inferInstance normc_)) rfl (fun hg w' hm' => (hse w')) ?_; refine tr_vG1 rfl rfl inferInstance (fun hg hgp => (rk_not (.ofg hg rfl))) rfl ?_; refine tr_val (rk_pick_or (.of rfl) rfl) rfl ?_; refine m_v rfl rfl ?_; refine tr_vG1 rfl rfl inferInstance (fun hg hgp => (rk_loadB (.of rfl) .here norm_ (by rfl))) rfl ?_; refine tr_callVG1 rfl rfl (fun hg => (rk_call (.of rfl) (.cons (.ofg hg rfl) .nil) inferInstance normc_)) rfl (fun hg w' hm' => (heq w')) ?_; refine tr_vG1 rfl rfl inferInstance (fun hg hgp => (rk_neq (.ofg hg rfl) (.of rfl))) rfl ?_; refine tr_val (rk_pick_or (.of rfl) rfl) rfl ?_; refine n_t ?_; refine c_b rfl (fun hcd => ?_) (fun hcd => ?_); refine s_r ?_; refine tr_callV (rk_call (.of rfl) .nil inferInstance normc_) rfl (fun w' hm' => (haw w' (Mem.keeps hm'))) ?_; refine a_s rfl rfl ?_; refine n_t ?_; refine r_t ?_; refine tr_retE rfl (ends1 rfl rfl) ?_; rotate_left; refine s_t ?_; refine tr_seq ?_; rotate_right)
  · rfl
  rename_i b3 hb3 b4 hb4 b5 hb5
  obtain ⟨hshb, hl8, hz⟩ := validB_iff (es := es) (by simpa using hcd.1.1.1.1.2)
  have hn0 : 0 < es.length := by omega
  have hxe : entF x = 0 := by omega
  have hs := Sound.of hz
  clear hcd
  skip
  with_reducible refine tr_draw 13 (by kernel_rfl) ?_
  (refine any_val (rk_indexAddrA (.of rfl) (.of rfl) (by omega) (by omega) norm1_) rfl ?_; refine any_val (rk_load1 (.of rfl) (At.lit (.there .here) rfl)) rfl ?_; refine any_val (rk_convS (.of rfl) (by omega)) rfl ?_; refine any_val (rk_rem (.of rfl) (.of rfl) (by omega) (by omega)) rfl ?_; refine any_val (rk_indexAddrA (.of rfl) (.of rfl) (by omega) (by omega) norm1_) rfl ?_; refine any_val (rk_load1 (.of rfl) (At.lit (.there .here) rfl)) rfl ?_; refine any_val (rk_convS (.of rfl) (by omega)) rfl ?_; refine a_f rfl rfl norm0_ ?_; refine any_val (rk_load1 (.of rfl) (At.lit (.there (.there .here)) rfl)) rfl ?_; refine any_val (rk_len_slice (.of rfl)) rfl ?_; refine any_val (rk_rem (.of rfl) (.of rfl) (by omega) (by omega)) rfl ?_; refine any_val (rk_assign (.of rfl)) rfl ?_; refine any_val (rk_assign (.of rfl)) rfl ?_)
  with_reducible refine any_end ?_
  have hnw : 0 ≤ m0 % 1001 ∧ m0 % 1001 ≤ 10000000 := by omega
  have hat : 0 ≤ m1 % (es.length : Int) ∧ m1 % (es.length : Int) < (es.length : Int) := ⟨Int.emod_nonneg _ (by omega), Int.emod_lt_of_pos _ (by omega)⟩
  generalize m0 % 1001 = now at hnw
  generalize m1 % (es.length : Int) = n' at hat
  obtain ⟨n, rfl⟩ := Int.eq_ofNat_of_zero_le hat.1
  have hn : n < es.length := by omega
  clear hat
  have hOw : ∀ (v : Value) (ls : List En) w', ls.length ≤ 1000 → Rd w' v 6 (ensL ls) → _ := fun v ls w' hl hr => own_c (es := ls) hr hl
  have hTm : ∀ (v : Value) w', Keeps [] w w' → Rd w' v 6 (ensL es) → Gives Tryz.prog 19 [.agg #[v]] w' [] (fun _ : Value => True) (fun v => .tuple #[v, .int .i64 0]) (fun v => [row 66 2 v es.length ((spL es es.length).flatMap duoV)]) := fun v w' hk hr => by
    have := times_c hr (hG.keeps hk)
    rwa [tmL, if_pos hz, spL_length, hz] at this
  have hfe : es.length ≤ 1000 := by omega
  have hRm : ∀ (sv' : Value) (ls : List En) w', Keeps [] w w' → Rd w' sv' 6 (ensL ls) → _ := fun sv' ls w' hk h => removed_c (now := now) (at' := (n : Int)) h (hG.keeps hk)
  have hRt : ∀ (sv' : Value) kd tm w', Keeps [] w w' → Rd w' sv' 6 (ensL es) → _ := fun sv' kd tm w' hk h => retimed_c (now := now) (at' := (n : Int)) kd tm h (hG.keeps hk)
  (refine n_r ?_; refine tr_val (rk_loadB (.of rfl) (.there (.there .here)) norm_ (by rfl)) rfl ?_)

  with_reducible apply tr_call
  case hr => exact rk_call (.of rfl) (.cons (.of rfl) .nil) inferInstance normc_
  case hd => rfl
  case ht => exact Takes.nil
  case hc =>
    intro w1 fp hm1 _ hs1
    obtain rfl : fp = [] := hs1
    exact hOw _ es w1 hfe (h1.keeps hm1.keeps)
  intro v0 _
  dsimp only [id_eq, List.cons_append, List.nil_append]
  skip
  with_reducible apply tr_call
  case hr => exact rk_call (.of rfl) (.cons (.of rfl) .nil) inferInstance normc_
  case hd => rfl
  case ht => exact Takes.nil
  case hc =>
    intro w1 fp hm1 _ hs1
    obtain rfl : fp = [] := hs1
    exact hTm v0 w1 hm1.keeps (rdEn hm1 (by exact .here))
  intro tv _
  dsimp only [id_eq, List.cons_append, List.nil_append]
  refine tr_rowSl (E := 66) (sz := 2) (v := tv) (by exact .here) fun ta tc e => ?_
  subst e
  (refine m_v rfl rfl ?_; refine tr_val (rk_extract (.of rfl) rfl) rfl ?_; refine tr_val (rk_extract (.of rfl) rfl) rfl ?_; refine a_s rfl rfl ?_; refine a_s rfl rfl ?_; refine n_t ?_; refine tr_seq ?_; refine s_r ?_; refine m_v rfl rfl ?_; refine tr_val (rk_neq (.of rfl) (.of rfl)) rfl ?_; refine m_v rfl rfl ?_; refine v_g rfl rfl rfl rfl ?_; refine tr_vG1 rfl rfl inferInstance (fun hg hgp => (rk_len_slice (.ofg hg rfl))) rfl ?_; refine tr_vG1 rfl rfl inferInstance (fun hg hgp => (rk_fieldAddr (.of rfl) norm0_)) rfl ?_; refine tr_vG1 rfl rfl inferInstance (fun hg hgp => (rk_load1 (.ofg hg rfl) (At.lit (.there (.there (.there (.there .here)))) rfl))) rfl ?_; refine tr_vG1 rfl rfl inferInstance (fun hg hgp => (rk_len_slice (.ofg hg rfl))) rfl ?_; refine tr_vG1 rfl rfl inferInstance (fun hg hgp => (rk_neq (.ofg hg rfl) (.ofg hg rfl))) rfl ?_; refine tr_val (rk_pick_or (.of rfl) rfl) rfl ?_; refine n_t ?_; refine c_d rfl (fun _ => by omega) (fun hcd => ?_); refine s_t ?_; refine s_r ?_; refine tr_val (rk_loadB (.of rfl) (.there (.there (.there (.there .here)))) norm_ (by rfl)) rfl ?_)
  with_reducible apply tr_call
  case hr => exact rk_call (.of rfl) (.cons (.of rfl) .nil) inferInstance normc_
  case hd => rfl
  case ht => exact Takes.nil
  case hc =>
    intro w1 fp hm1 _ hs1
    obtain rfl : fp = [] := hs1
    exact hOw _ es w1 hfe (h1.keeps hm1.keeps)
  intro v1 _
  dsimp only [id_eq, List.cons_append, List.nil_append]
  (refine m_v rfl rfl ?_; refine m_v rfl rfl ?_)
  with_reducible apply tr_call
  case hr => exact rk_call (.of rfl) (.cons (.of rfl) (.cons (.of rfl) (.cons (.of rfl) .nil))) inferInstance normc_
  case hd => rfl
  case ht => exact Takes.nil
  case hc =>
    intro w1 fp hm1 _ hs1
    obtain rfl : fp = [] := hs1
    exact hRm v1 es w1 hm1.keeps (rdEn hm1 (by exact .here))
  intro v2 _
  dsimp only [id_eq, List.cons_append, List.nil_append]
  refine tr_rowSl (E := 138) (sz := 6) (v := v2) (by exact .here) fun ra rc e => ?_
  subst e
  (refine m_v rfl rfl ?_; refine tr_val (rk_extract (.of rfl) rfl) rfl ?_; refine tr_val (rk_extract (.of rfl) rfl) rfl ?_; refine tr_new (rk_alloc rfl) rfl (fun _ _ => ?_); refine tr_store (.of rfl) (.of rfl) .here rfl rfl (okc_cons rfl okc_nil) (lenb rfl) norm_ ?_; refine a_s rfl rfl ?_; refine n_t ?_; refine tr_seq ?_)
  rename_i b11 hb11
  have ha' := ha1 (ensL_ne hn)
  have hcell := (hc1 n _ (ensL_get hn)).2
  have c0 := hcell 0 _ rfl
  have c1 := hcell 1 _ rfl
  have c2 := hcell 2 _ rfl
  have c3 := hcell 3 _ rfl
  have c4 := hcell 4 _ rfl
  have c5 := hcell 5 _ rfl
  have hats : ∀ (hs : List Asn), Ats { w0 := w, md := [], nt := Tryz.f15.ntmps } hs bs1 (os1 + n * 6 + 2) [.string (nth es n).kd, .int .i64 (nth es n).tm] := fun hs => Ats.of_get fun j v hv => At.base (match j, hv with
    | 0, hv => by cases hv; exact c2
    | 1, hv => by cases hv; exact c3
    | j + 2, hv => by simp at hv) rfl
  have hats6 : ∀ (hs : List Asn), Ats { w0 := w, md := [], nt := Tryz.f15.ntmps } hs bs1 (os1 + n * 6) (nth es n).cells := fun hs => Ats.of_get fun j v hv => At.base (hcell j v hv) rfl
  generalize hkd : (nth es n).kd = kd at hats
  generalize htm : (nth es n).tm = tm at hats
  with_reducible refine tr_drawP 15 13 (by kernel_rfl) (pure_at rfl (by kernel_rfl) (by kernel_rfl)) ?_
  refine am_val (fun β => (rk_loadB (.of rfl) (.there (.there (.there (.there (.there (.there (.there .here))))))) norm_ (by rfl))) ind0x rfl ?_
  dsimp only [Nat.zero_add, Nat.reduceAdd]
  with_reducible apply am_call (ι := Value) (Φ := fun _ => True) (val := fun v => .agg #[v]) (own := fun v => [row 138 6 v es.length (enR es es.length)]) (g := id) (B := []) (args := fun β => [.agg #[.slice a1 es.length cap1]])
  case hg => exact fun x => ⟨x, rfl⟩
  case hB => first | rfl | kernel_rfl
  case hr => exact fun β => rk_call (.of rfl) (.cons (.of rfl) .nil) inferInstance rfl
  case hd => rfl
  case hc => exact fun β w' hb => hOw _ es w' hfe (h1.keeps hb.mem.keeps)
  dsimp only [id_eq, Nat.reduceAdd]
  (refine am_val (fun β => (rk_move (.of rfl))) ind0x rfl ?_; refine am_val (fun β => (rk_move (.of rfl))) ind0x rfl ?_; refine am_val (fun β => (rk_fieldAddr (.of rfl) norm0_)) ind0x rfl ?_; refine am_val (fun β => (rk_load1 (.of rfl) (At.lit (.there (.there (.there (.there (.there (.there (.there .here))))))) rfl))) ind0x rfl ?_; refine am_val (fun β => (rk_move (.of rfl))) ind0x rfl ?_; refine am_val (fun β => (rk_indexAddr (.of rfl) (.of rfl) ha' (by omega) (by omega) norm1_)) ind0x rfl ?_; refine am_val (fun β => (rk_fieldAddr (.of rfl) norm0_)) ind0x rfl ?_)
  refine am_val (F := fun _ => .agg #[.string kd, .int .i64 tm]) (fun β => rk_loadN (vs := [.string kd, .int .i64 tm]) (.of rfl) (hats _) rfl) ind0x rfl ?_
  dsimp only [Nat.reduceAdd]
  with_reducible apply am_call (ι := Option Addr × Nat) (Φ := fun _ => True) (val := fun z => .tuple #[.agg #[.slice z.1 (rtL es now n kd tm).length z.2], .int .i64 (rtE es now n kd tm)]) (own := fun z => [row 138 6 (.slice z.1 (rtL es now n kd tm).length z.2) (rtL es now n kd tm).length (ensL (rtL es now n kd tm)).flatten]) (g := gsl) (B := [1]) (args := fun β => [.agg #[β 1], .int .i64 now, .int .i64 (n : Int), .agg #[.string kd, .int .i64 tm]])
  case hg => exact gsl_of
  case hB => kernel_rfl
  case hr => exact fun β => rk_call (.of rfl) (.cons (.of rfl) (.cons (.of rfl) (.cons (.of rfl) (.cons (.of rfl) .nil)))) inferInstance rfl
  case hd => rfl
  case hc =>
    intro β w' hb
    have m1 := hb.at 1 (by simp) (s := ⟨fun β => .agg #[β 1], fun β => [row 138 6 (β 1) es.length (enR es es.length)]⟩) (by kernel_rfl)
    dsimp only [List.cons_append, List.nil_append] at m1
    exact Gives.sliceV (hRt _ kd tm w' hb.mem.keeps (rdEn m1 (by exact .here)))
  dsimp only [Nat.reduceAdd]
  refine am_val (F := fun β => .tuple #[.agg #[.slice (gsl (β 10)).1 (rtL es now n kd tm).length (gsl (β 10)).2], .int .i64 (rtE es now n kd tm)]) (fun β => rk_move (.of rfl)) (fun β β' h => by simp only [h 10 (by kernel_rfl)]) rfl ?_
  refine am_val (F := fun β => .agg #[.slice (gsl (β 10)).1 (rtL es now n kd tm).length (gsl (β 10)).2]) (fun β => rk_extract (.of rfl) rfl) (fun β β' h => by simp only [h 10 (by kernel_rfl)]) rfl ?_
  refine am_val (F := fun β => .int .i64 (rtE es now n kd tm)) (fun β => rk_extract (.of rfl) rfl) ind0x rfl ?_
  dsimp only [Nat.reduceAdd]
  refine am_new (fun β => (rk_alloc rfl)) (fun _ _ _ => rfl) rfl ?_
  refine am_end fun β => ?_
  dsimp only [resAll, List.nil_append, List.cons_append, List.append_eq, Nat.reduceAdd]
  generalize gsl (β 10) = y13
  generalize gnat (β 14) = b13
  obtain ⟨q13, p13⟩ := y13
  dsimp only
  refine left_ready (rs := [15]) (by kernel_rfl) (by simp) (List.forall_mem_cons.2 ⟨?_, fun _ h => absurd h List.not_mem_nil⟩)
  refine next_step rfl ?_
  (refine tr_store (.of rfl) (.of rfl) (.there (.there .here)) rfl rfl (okc_cons rfl okc_nil) (lenb rfl) norm_ ?_; refine n_t ?_)
  refine left_ready (rs := [16]) (by kernel_rfl) (by simp) (List.forall_mem_cons.2 ⟨?_, fun _ h => absurd h List.not_mem_nil⟩)
  refine next_step rfl ?_
  (refine a_s rfl rfl ?_; refine n_t ?_)
  with_reducible refine left_done (by kernel_rfl) ?_
  refine tr_rowOpen (E := 66) (sz := 2) (v := .slice ta es.length tc) (by exact Take.there (.there (.there (.there (.there (.there .here)))))) hn0 fun tg tcap tcur e hk1 hx1 hz1 hl1 => ?_
  obtain ⟨rfl, -, rfl⟩ := Value.slice.inj e
  unfold maxLen at hx1
  have q0 : ((spL es es.length).flatMap duoV ++ tcur)[n * 2]? = some (.int .i64 (fr es n)) := spV_at (j := 0) (by omega) tcur hn
  (refine tr_then ?_; refine tr_seq ?_; refine s_r ?_; refine m_v rfl rfl ?_; refine m_v rfl rfl ?_; refine tr_val (rk_indexAddr (.of rfl) (.of rfl) rfl (by omega) (by omega) norm1_) rfl ?_; refine f_a rfl rfl norm0_ ?_; refine tr_val (rk_load1 (.of rfl) (At.blkL .here q0)) rfl ?_; refine m_v rfl rfl ?_; refine tr_val (rk_leq (.of rfl) (.of rfl)) rfl ?_; refine n_t ?_; refine c_d rfl (fun hcd => ?_) (fun hcd => ?_); refine s_r ?_; refine m_v rfl rfl ?_; refine tr_val (rk_eql (.of rfl) (.of rfl)) rfl ?_; refine m_v rfl rfl ?_; refine v_g rfl rfl rfl rfl ?_; refine tr_vG1 rfl rfl inferInstance (fun hg hgp => (rk_eql (.ofg hg rfl) (.of rfl))) rfl ?_; refine tr_val (rk_pick_and (.of rfl) rfl) rfl ?_; refine a_s rfl rfl ?_; refine n_t ?_; refine r_t ?_; refine tr_retE rfl (ends1 rfl rfl) ?_; rotate_left; refine s_t ?_; refine tr_seq ?_; refine tr_seq ?_; rotate_right)
  · have hb : fr es n ≤ now := by omega
    obtain ⟨e1, e2⟩ := late_begun hz hnw hn hb
    rw [hkd, htm] at e2
    rw [e1, e2]
    rfl
  have hb : now < fr es n := by omega
  clear hcd
  obtain ⟨o1, o2⟩ := late_own hz hnw hn hb
  rw [hkd, htm] at o1 o2
  rw [o1, o2]
  skip
  with_reducible refine tr_drawM 9 (by kernel_rfl) ?_
  (refine am_val (fun β => (rk_move (.of rfl))) ind0x rfl ?_; refine am_val (fun β => (rk_neq (.of rfl) (.of rfl))) ind0x rfl ?_; refine am_val (fun β => (rk_move (.of rfl))) ind0x rfl ?_; refine am_gOn rfl (fun _ => rfl) ?_; refine am_val (fun β => (rk_loadB (.of rfl) (.there .here) norm_ (by rfl))) ind0x rfl ?_)
  dsimp only [Nat.zero_add, Nat.reduceAdd]
  refine am_gOn rfl (fun _ => rfl) ?_
  with_reducible apply am_call (ι := Value) (Φ := fun _ => True) (val := fun v => .agg #[v]) (own := fun v => [row 115 6 v es.length (enR es es.length)]) (g := id) (B := []) (args := fun β => [.agg #[.slice q13 es.length p13]])
  case hg => exact fun x => ⟨x, rfl⟩
  case hB => first | rfl | kernel_rfl
  case hr => exact fun β => rk_call (.of rfl) (.cons (.of rfl) .nil) inferInstance rfl
  case hd => rfl
  case hc => exact fun β w' hb => told_c (rdEnF hb.mem (by exact Take.there (.there (.there .here))) rfl) hfe
  dsimp only [id_eq, Nat.reduceAdd]
  (refine am_gOn rfl (fun _ => rfl) ?_; refine am_val (fun β => (rk_loadB (.of rfl) (.there (.there (.there (.there (.there (.there (.there (.there (.there (.there .here)))))))))) norm_ (by rfl))) ind0x rfl ?_)
  dsimp only [Nat.reduceAdd]
  refine am_gOn rfl (fun _ => rfl) ?_
  with_reducible apply am_callV (B := [4]) (F := fun _ => .bool true) (args := fun β => [.agg #[β 4], .agg #[.slice a1 es.length cap1]])
  case hB => kernel_rfl
  case hr => exact fun β => rk_call (.of rfl) (.cons (.of rfl) (.cons (.of rfl) .nil)) inferInstance rfl
  case hi => exact ind0x
  case hd => rfl
  case hc =>
    intro β w' hb
    have m4 := hb.at 4 (by simp) (s := ⟨fun β => .agg #[β 4], fun β => [row 115 6 (β 4) es.length (enR es es.length)]⟩) (by kernel_rfl)
    dsimp only [List.cons_append, List.nil_append] at m4
    have := sameQ_c (rdEn m4 (by exact .here)) (h1.keeps hb.mem.keeps)
    rwa [decide_eq_true rfl] at this
  (refine am_gOn rfl (fun _ => rfl) ?_; refine am_val (fun β => (rk_not (.of rfl))) ind0x rfl ?_; refine am_val (fun β => (rk_pickB (.of rfl) (.of rfl) (.of rfl) rfl)) ind0x rfl ?_)
  refine am_end fun β => ?_
  dsimp only [resAll, List.nil_append, List.cons_append, List.append_eq, Nat.reduceAdd]
  with_reducible refine left_done (by kernel_rfl) ?_
  obtain ⟨G, k1, k2, k3, hA, hA', hB, hB', hC, hC', hk3, hk2, hk1', hLate⟩ := late_list (es := es) (now := now) (n := n) (x := x) (kd := x.kd) (tm := x.tm) hz hn
  have hAg : ∀ (v : Value) w', Keeps [] w w' → rmE es now n = 0 → Rd w' v 6 (ensL (rmL es now n)) → Gives Tryz.prog 69 [.agg #[v], .int .i64 now, .int .i64 (n : Int), .agg (nth es n).cells.toArray] w' [] (fun _ : Value => True) (fun v => .tuple #[.agg #[v], .int .i64 0]) (fun v => [row 138 6 v es.length (ensL es).flatten]) := fun v w' hk hr h => by
    have hl : (rmL es now n).length ≤ 1000 := by
      have := (Sound.of (late_rm hz hn hr).sound).all.few
      omega
    have := hIn v _ now n (nth es n) w' hk hl h
    obtain ⟨g1, g2⟩ := late_again hz hnw hn hr
    rwa [g1, g2] at this
  have hBk : ∀ (v : Value) w', Keeps [] w w' → inE es now n x = 0 → Rd w' v 6 (ensL (inL es now n x)) → Gives Tryz.prog 71 [.agg #[v], .int .i64 now, .int .i64 (n : Int)] w' [] (fun _ : Value => True) (fun v => .tuple #[.agg #[v], .int .i64 0]) (fun v => [row 138 6 v es.length (ensL es).flatten]) := fun v w' hk hr h => by
    have := hRm v _ w' hk h
    obtain ⟨g1, g2⟩ := late_back hz hnw (Nat.le_of_lt hn) hr
    rwa [g1, g2] at this
  refine tr_then ?_
  refine tr_cond_f (Is.of rfl) ?_
  refine tr_skip ?_
  refine tr_then ?_
  refine tr_seq ?_
  refine tr_region ?_
  refine tr_val (rk_assign (Is.of rfl)) rfl ?_
  refine tr_nil ?_
  refine tr_then ?_
  refine tr_seq ?_
  refine tr_rowNil 33 1 ?_
  refine tr_poolQNil (lateR G) ?_

  generalize hQ : Exit.then _ _ = Q
  suffices hk : ∀ (cv : Value) (vs : List Value), vs.length = k1 → Tr _ _ [(15, cv), (7, .int .i64 now), (8, .int .i64 (n : Int)), (3, .pointer (some ⟨b3, 0, none⟩)), (4, .pointer (some ⟨b4, 0, none⟩)), (5, .pointer (some ⟨b5, 0, none⟩))] [row 33 1 cv vs.length vs, poolQ (lateR G) vs, blk b3 (.cells #[.slice a1 es.length cap1] 24), blk b4 (.cells #[.int .u16 m0, .int .u16 m1] 176), blk b5 (.cells #[.string x.nm, .string x.mt, .string x.kd, .int .i64 x.tm, .int .i64 x.ln, .int .i64 x.ov] 115)] (Q .normal) by
    (refine s_r ?_; refine m_v rfl rfl ?_; refine tr_val (rk_eql (.of rfl) (.of rfl)) rfl ?_; refine n_t ?_; refine c_d rfl (fun hcd => ?_) (fun hcd => ?_); refine s_r ?_; refine m_v rfl rfl ?_; refine tr_val (rk_loadB (.of rfl) (.there (.there (.there (.there (.there (.there (.there .here))))))) norm_ (by rfl)) rfl ?_; refine tr_new (rk_sliceLitN (.cons (.of rfl) .nil) rfl rfl normp_ normp_ norm_) rfl (fun _ _ => ?_); rotate_left; refine tr_skip ?_; rotate_right)
    · obtain ⟨hG0, hk10⟩ := hA hcd
      with_reducible apply tr_appendR (n := 0) (xs := []) (news := [[.slice ra (rmL es now n).length rc]])
      case hx => exact Is.of rfl
      case hy => exact Is.of rfl
      case ht => exact Take.there (.there .here)
      case hsrc => exact fun w' hm' => Mem.rdBlk hm' (by exact .here) rfl rfl
      case h1 =>
        intro r hr u hu
        simp only [List.mem_singleton] at hr
        subst hr
        simp only [List.mem_singleton] at hu
        subst hu; rfl
      case hz => rfl
      case hsz => rfl
      case hb0 => rfl
      case hb => simp only [List.length_singleton]; omega
      case hd => rfl
      intro cv'
      rw [show ([[.slice ra (rmL es now n).length rc]] : List (List Value)).flatten = [.slice ra (rmL es now n).length rc] from rfl, show ([[.slice ra (rmL es now n).length rc]] : List (List Value)).length = 1 from rfl]
      rw [List.nil_append, Nat.zero_add]
      (refine a_s rfl rfl ?_; refine n_t ?_; refine tr_seq ?_)
      with_reducible refine tr_drawP 16 14 (by kernel_rfl) (pure_at rfl (by kernel_rfl) (by kernel_rfl)) ?_
      refine am_val (fun β => (rk_loadB (.of rfl) (.there (.there (.there (.there (.there (.there (.there (.there .here)))))))) norm_ (by rfl))) ind0x rfl ?_
      dsimp only [Nat.zero_add, Nat.reduceAdd]
      with_reducible apply am_call (ι := Value) (Φ := fun _ => True) (val := fun v => .agg #[v]) (own := fun v => [row 115 6 v (rmL es now n).length (enR (rmL es now n) (rmL es now n).length)]) (g := id) (B := []) (args := fun β => [.agg #[.slice ra (rmL es now n).length rc]])
      case hg => exact fun x => ⟨x, rfl⟩
      case hB => first | rfl | kernel_rfl
      case hr => exact fun β => rk_call (.of rfl) (.cons (.of rfl) .nil) inferInstance rfl
      case hd => rfl
      case hc => exact fun β w' hb => told_c (rdEnF hb.mem (by exact Take.there (.there (.there (.there (.there (.there (.there (.there (.there .here))))))))) rfl) (by have := (Sound.of (late_rm hz hn hcd).sound).all.few; omega)
      dsimp only [id_eq, Nat.reduceAdd]
      with_reducible apply am_call (ι := Value) (Φ := fun _ => True) (val := fun v => .agg #[v]) (own := fun v => [row 138 6 v (rmL es now n).length (enR (rmL es now n) (rmL es now n).length)]) (g := id) (B := [1]) (args := fun β => [.agg #[β 1]])
      case hg => exact fun x => ⟨x, rfl⟩
      case hB => first | rfl | kernel_rfl
      case hr => exact fun β => rk_call (.of rfl) (.cons (.of rfl) .nil) inferInstance rfl
      case hd => rfl
      case hc => 
        intro β w' hb
        have m1 := hb.at 1 (by simp) (s := ⟨fun β => .agg #[β 1], fun β => [row 115 6 (β 1) (rmL es now n).length (enR (rmL es now n) (rmL es now n).length)]⟩) (by kernel_rfl)
        dsimp only [List.cons_append, List.nil_append] at m1
        exact hOw _ _ w' (by have := (Sound.of (late_rm hz hn hcd).sound).all.few; omega) (rdEn m1 (by exact .here))
      dsimp only [id_eq, Nat.reduceAdd]
      (refine am_val (fun β => (rk_move (.of rfl))) ind0x rfl ?_; refine am_val (fun β => (rk_move (.of rfl))) ind0x rfl ?_; refine am_val (fun β => (rk_fieldAddr (.of rfl) norm0_)) ind0x rfl ?_; refine am_val (fun β => (rk_load1 (.of rfl) (At.lit (.there (.there (.there (.there (.there (.there (.there (.there (.there (.there (.there (.there (.there (.there .here)))))))))))))) rfl))) ind0x rfl ?_; refine am_val (fun β => (rk_move (.of rfl))) ind0x rfl ?_; refine am_val (fun β => (rk_indexAddr (.of rfl) (.of rfl) ha' (by omega) (by omega) norm1_)) ind0x rfl ?_; refine am_val (fun β => (rk_loadN (.of rfl) (Ats.base hcell rfl) rfl)) ind0x rfl ?_)
      dsimp only [Nat.reduceAdd]
      with_reducible apply am_callV (B := []) (F := fun _ => .agg (nth es n).cells.toArray) (args := fun _ => [.agg (nth es n).cells.toArray])
      case hB => rfl
      case hr => exact fun β => rk_call (.of rfl) (.cons (.of rfl) .nil) inferInstance rfl
      case hi => exact ind0x
      case hd => rfl
      case hc => exact fun β w' hb => one_c (nth es n) w'
      dsimp only [Nat.reduceAdd]
      with_reducible apply am_call (ι := Option Addr × Nat) (Φ := fun _ => True) (val := fun z => .tuple #[.agg #[.slice z.1 (es).length z.2], .int .i64 (0)]) (own := fun z => [row 138 6 (.slice z.1 (es).length z.2) (es).length (ensL (es)).flatten]) (g := gsl) (B := [2]) (args := fun β => [.agg #[β 2], .int .i64 now, .int .i64 (n : Int), .agg (nth es n).cells.toArray])
      case hg => exact gsl_of
      case hB => kernel_rfl
      case hr => exact fun β => rk_call (.of rfl) (.cons (.of rfl) (.cons (.of rfl) (.cons (.of rfl) (.cons (.of rfl) .nil)))) inferInstance rfl
      case hd => rfl
      case hc =>
        intro β w' hb
        have m2 := hb.at 2 (by simp) (s := ⟨fun β => .agg #[β 2], fun β => [row 138 6 (β 2) (rmL es now n).length (enR (rmL es now n) (rmL es now n).length)]⟩) (by kernel_rfl)
        dsimp only [List.cons_append, List.nil_append] at m2
        exact Gives.sliceV (hAg _ w' hb.mem.keeps hcd (rdEn m2 (by exact .here)))
      dsimp only [Nat.reduceAdd]
      refine am_val (F := fun β => .tuple #[.agg #[.slice (gsl (β 11)).1 (es).length (gsl (β 11)).2], .int .i64 (0)]) (fun β => rk_move (.of rfl)) (fun β β' h => by simp only [h 11 (by kernel_rfl)]) rfl ?_
      refine am_val (F := fun β => .agg #[.slice (gsl (β 11)).1 (es).length (gsl (β 11)).2]) (fun β => rk_extract (.of rfl) rfl) (fun β β' h => by simp only [h 11 (by kernel_rfl)]) rfl ?_
      refine am_val (F := fun β => .int .i64 (0)) (fun β => rk_extract (.of rfl) rfl) ind0x rfl ?_
      dsimp only [Nat.reduceAdd]
      refine am_new (fun β => (rk_alloc rfl)) (fun _ _ _ => rfl) rfl ?_
      refine am_end fun β => ?_
      dsimp only [resAll, List.nil_append, List.cons_append, List.append_eq, Nat.reduceAdd]
      generalize gsl (β 11) = y16
      generalize gnat (β 15) = b16
      obtain ⟨q16, p16⟩ := y16
      dsimp only
      refine left_ready (rs := [16]) (by kernel_rfl) (by simp) (List.forall_mem_cons.2 ⟨?_, fun _ h => absurd h List.not_mem_nil⟩)
      refine next_step rfl ?_
      (refine tr_store (.of rfl) (.of rfl) (.there (.there (.there .here))) rfl rfl (okc_cons rfl okc_nil) (lenb rfl) norm_ ?_; refine n_t ?_)
      refine left_ready (rs := [17]) (by kernel_rfl) (by simp) (List.forall_mem_cons.2 ⟨?_, fun _ h => absurd h List.not_mem_nil⟩)
      refine next_step rfl ?_
      (refine a_s rfl rfl ?_; refine n_t ?_)
      with_reducible refine left_done (by kernel_rfl) ?_
      (refine tr_then ?_; refine tr_seq ?_)
      with_reducible refine tr_drawM 9 (by kernel_rfl) ?_
      (refine am_val (fun β => (rk_move (.of rfl))) ind0x rfl ?_; refine am_val (fun β => (rk_neq (.of rfl) (.of rfl))) ind0x rfl ?_; refine am_val (fun β => (rk_move (.of rfl))) ind0x rfl ?_; refine am_gOn rfl (fun _ => rfl) ?_; refine am_val (fun β => (rk_loadB (.of rfl) .here norm_ (by rfl))) ind0x rfl ?_)
      dsimp only [Nat.zero_add, Nat.reduceAdd]
      refine am_gOn rfl (fun _ => rfl) ?_
      with_reducible apply am_call (ι := Value) (Φ := fun _ => True) (val := fun v => .agg #[v]) (own := fun v => [row 115 6 v es.length (enR es es.length)]) (g := id) (B := []) (args := fun β => [.agg #[.slice q16 es.length p16]])
      case hg => exact fun x => ⟨x, rfl⟩
      case hB => first | rfl | kernel_rfl
      case hr => exact fun β => rk_call (.of rfl) (.cons (.of rfl) .nil) inferInstance rfl
      case hd => rfl
      case hc => exact fun β w' hb => told_c (rdEnF hb.mem (by exact Take.there (.there (.there .here))) rfl) hfe
      dsimp only [id_eq, Nat.reduceAdd]
      (refine am_gOn rfl (fun _ => rfl) ?_; refine am_val (fun β => (rk_loadB (.of rfl) (.there (.there (.there (.there (.there (.there (.there (.there (.there (.there (.there (.there (.there (.there (.there (.there (.there (.there .here)))))))))))))))))) norm_ (by rfl))) ind0x rfl ?_)
      dsimp only [Nat.reduceAdd]
      refine am_gOn rfl (fun _ => rfl) ?_
      with_reducible apply am_callV (B := [4]) (F := fun _ => .bool true) (args := fun β => [.agg #[β 4], .agg #[.slice a1 es.length cap1]])
      case hB => kernel_rfl
      case hr => exact fun β => rk_call (.of rfl) (.cons (.of rfl) (.cons (.of rfl) .nil)) inferInstance rfl
      case hi => exact ind0x
      case hd => rfl
      case hc =>
        intro β w' hb
        have m4 := hb.at 4 (by simp) (s := ⟨fun β => .agg #[β 4], fun β => [row 115 6 (β 4) es.length (enR es es.length)]⟩) (by kernel_rfl)
        dsimp only [List.cons_append, List.nil_append] at m4
        have := sameQ_c (rdEn m4 (by exact .here)) (h1.keeps hb.mem.keeps)
        rwa [decide_eq_true rfl] at this
      (refine am_gOn rfl (fun _ => rfl) ?_; refine am_val (fun β => (rk_not (.of rfl))) ind0x rfl ?_; refine am_val (fun β => (rk_pickB (.of rfl) (.of rfl) (.of rfl) rfl)) ind0x rfl ?_)
      refine am_end fun β => ?_
      dsimp only [resAll, List.nil_append, List.cons_append, List.append_eq, Nat.reduceAdd]
      with_reducible refine left_done (by kernel_rfl) ?_
      (refine tr_then ?_; refine tr_cond_f (.of rfl) ?_; refine tr_skip ?_)
      refine tr_poolQAdd (R := lateR G) (vs := []) (v := .slice ra (rmL es now n).length rc) (A := row 138 6 (.slice ra (rmL es now n).length rc) (rmL es now n).length (ensL (rmL es now n)).flatten) (by exact Take.there (.there (.there (.there (.there (.there (.there .here))))))) (by exact Take.there (.there (.there (.there (.there (.there (.there (.there (.there (.there (.there (.there (.there .here))))))))))))) (by show _ = row _ 6 _ (G 0).length (ensL (G 0)).flatten; rw [hG0]) ?_
      rw [List.nil_append]
      have hk0 := hk cv' [.slice ra (rmL es now n).length rc] hk10.symm
      rw [List.length_singleton] at hk0
      exact tr_cut _ _ (by exact .cons rfl (.cons rfl (.cons rfl (.cons rfl (.cons rfl (.cons rfl .nil)))))) (by exact .cons (.there (.there (.there (.there (.there (.there .here)))))) (.cons .here (.cons (.there (.there (.there (.there (.there (.there (.there (.there (.there (.there (.there (.there (.there (.there (.there (.there .here)))))))))))))))) (.cons (.there (.there (.there (.there (.there (.there (.there (.there (.there (.there (.there (.there (.there (.there (.there .here))))))))))))))) (.cons (.there (.there (.there (.there (.there (.there (.there (.there (.there (.there (.there (.there (.there (.there .here)))))))))))))) .nil))))) hk0
    · have hk0 := hk (.slice none 0 0) [] (hA' hcd).symm
      rw [List.length_nil] at hk0
      exact tr_cut _ _ (by exact .cons rfl (.cons rfl (.cons rfl (.cons rfl (.cons rfl (.cons rfl .nil)))))) (by exact .cons (.there .here) (.cons .here (.cons (.there (.there (.there (.there (.there (.there (.there (.there (.there (.there (.there .here))))))))))) (.cons (.there (.there (.there (.there (.there (.there (.there (.there (.there (.there .here)))))))))) (.cons (.there (.there (.there (.there (.there (.there (.there (.there (.there .here))))))))) .nil))))) hk0
  subst hQ
  intro cv vs hvs
  (refine tr_then ?_; refine tr_seq ?_)
  with_reducible refine tr_drawP 11 9 (by kernel_rfl) (pure_at rfl (by kernel_rfl) (by kernel_rfl)) ?_
  refine am_val (fun β => (rk_loadB (.of rfl) (.there (.there .here)) norm_ (by rfl))) ind0x rfl ?_
  dsimp only [Nat.zero_add, Nat.reduceAdd]
  with_reducible apply am_call (ι := Value) (Φ := fun _ => True) (val := fun v => .agg #[v]) (own := fun v => [row 138 6 v es.length (enR es es.length)]) (g := id) (B := []) (args := fun β => [.agg #[.slice a1 es.length cap1]])
  case hg => exact fun x => ⟨x, rfl⟩
  case hB => first | rfl | kernel_rfl
  case hr => exact fun β => rk_call (.of rfl) (.cons (.of rfl) .nil) inferInstance rfl
  case hd => rfl
  case hc => exact fun β w' hb => hOw _ es w' hfe (h1.keeps hb.mem.keeps)
  dsimp only [id_eq, Nat.reduceAdd]
  (refine am_val (fun β => (rk_move (.of rfl))) ind0x rfl ?_; refine am_val (fun β => (rk_move (.of rfl))) ind0x rfl ?_; refine am_val (fun β => (rk_loadB (.of rfl) (.there (.there (.there (.there .here)))) norm_ (by rfl))) ind0x rfl ?_)
  dsimp only [Nat.reduceAdd]
  with_reducible apply am_callV (B := []) (F := fun _ => .agg #[.string x.nm, .string x.mt, .string x.kd, .int .i64 x.tm, .int .i64 x.ln, .int .i64 x.ov]) (args := fun _ => [.agg #[.string x.nm, .string x.mt, .string x.kd, .int .i64 x.tm, .int .i64 x.ln, .int .i64 x.ov]])
  case hB => rfl
  case hr => exact fun β => rk_call (.of rfl) (.cons (.of rfl) .nil) inferInstance rfl
  case hi => exact ind0x
  case hd => rfl
  case hc => exact fun β w' hb => hon w'
  dsimp only [Nat.reduceAdd]
  with_reducible apply am_call (ι := Option Addr × Nat) (Φ := fun _ => True) (val := fun z => .tuple #[.agg #[.slice z.1 (inL es now n x).length z.2], .int .i64 (inE es now n x)]) (own := fun z => [row 138 6 (.slice z.1 (inL es now n x).length z.2) (inL es now n x).length (ensL (inL es now n x)).flatten]) (g := gsl) (B := [1]) (args := fun β => [.agg #[β 1], .int .i64 now, .int .i64 (n : Int), .agg #[.string x.nm, .string x.mt, .string x.kd, .int .i64 x.tm, .int .i64 x.ln, .int .i64 x.ov]])
  case hg => exact gsl_of
  case hB => kernel_rfl
  case hr => exact fun β => rk_call (.of rfl) (.cons (.of rfl) (.cons (.of rfl) (.cons (.of rfl) (.cons (.of rfl) .nil)))) inferInstance rfl
  case hd => rfl
  case hc =>
    intro β w' hb
    have m1 := hb.at 1 (by simp) (s := ⟨fun β => .agg #[β 1], fun β => [row 138 6 (β 1) es.length (enR es es.length)]⟩) (by kernel_rfl)
    dsimp only [List.cons_append, List.nil_append] at m1
    exact Gives.sliceV (hIn _ es now n x w' hb.mem.keeps hfe (rdEn m1 (by exact .here)))
  dsimp only [Nat.reduceAdd]
  refine am_val (F := fun β => .tuple #[.agg #[.slice (gsl (β 6)).1 (inL es now n x).length (gsl (β 6)).2], .int .i64 (inE es now n x)]) (fun β => rk_move (.of rfl)) (fun β β' h => by simp only [h 6 (by kernel_rfl)]) rfl ?_
  refine am_val (F := fun β => .agg #[.slice (gsl (β 6)).1 (inL es now n x).length (gsl (β 6)).2]) (fun β => rk_extract (.of rfl) rfl) (fun β β' h => by simp only [h 6 (by kernel_rfl)]) rfl ?_
  refine am_val (F := fun β => .int .i64 (inE es now n x)) (fun β => rk_extract (.of rfl) rfl) ind0x rfl ?_
  dsimp only [Nat.reduceAdd]
  refine am_new (fun β => (rk_alloc rfl)) (fun _ _ _ => rfl) rfl ?_
  refine am_end fun β => ?_
  dsimp only [resAll, List.nil_append, List.cons_append, List.append_eq, Nat.reduceAdd]
  generalize gsl (β 6) = y18
  generalize gnat (β 10) = b18
  obtain ⟨q18, p18⟩ := y18
  dsimp only
  refine left_ready (rs := [11]) (by kernel_rfl) (by simp) (List.forall_mem_cons.2 ⟨?_, fun _ h => absurd h List.not_mem_nil⟩)
  refine next_step rfl ?_
  (refine tr_store (.of rfl) (.of rfl) (.there (.there .here)) rfl rfl (okc_cons rfl okc_nil) (lenb rfl) norm_ ?_; refine n_t ?_)
  refine left_ready (rs := [12]) (by kernel_rfl) (by simp) (List.forall_mem_cons.2 ⟨?_, fun _ h => absurd h List.not_mem_nil⟩)
  refine next_step rfl ?_
  (refine a_s rfl rfl ?_; refine n_t ?_)
  with_reducible refine left_done (by kernel_rfl) ?_
  refine tr_then ?_
  refine tr_seq ?_
  generalize hQ : Exit.then _ _ = Q
  suffices hk : ∀ (cv : Value) (vs : List Value), vs.length = k2 → Tr _ _ [(15, cv), (7, .int .i64 now), (8, .int .i64 (n : Int)), (3, .pointer (some ⟨b3, 0, none⟩)), (4, .pointer (some ⟨b4, 0, none⟩)), (5, .pointer (some ⟨b5, 0, none⟩))] [row 33 1 cv vs.length vs, poolQ (lateR G) vs, blk b3 (.cells #[.slice a1 es.length cap1] 24), blk b4 (.cells #[.int .u16 m0, .int .u16 m1] 176), blk b5 (.cells #[.string x.nm, .string x.mt, .string x.kd, .int .i64 x.tm, .int .i64 x.ln, .int .i64 x.ov] 115)] (Q .normal) by
    (refine s_r ?_; refine m_v rfl rfl ?_; refine tr_val (rk_eql (.of rfl) (.of rfl)) rfl ?_; refine n_t ?_; refine c_d rfl (fun hcd => ?_) (fun hcd => ?_); refine s_r ?_; refine m_v rfl rfl ?_; refine tr_val (rk_loadB (.of rfl) .here norm_ (by rfl)) rfl ?_; refine tr_new (rk_sliceLitN (.cons (.of rfl) .nil) rfl rfl normp_ normp_ norm_) rfl (fun _ _ => ?_); rotate_left; refine tr_skip ?_; rotate_right)
    · obtain ⟨hG1, hk21⟩ := hB hcd
      have hLi : (inL es now n x).length ≤ 1000 := by
        have := (Sound.of (late_in hz (Nat.le_of_lt hn) hcd).sound).all.few
        omega
      with_reducible apply tr_appendR (n := vs.length) (xs := vs) (news := [[.slice q18 (inL es now n x).length p18]])
      case hx => exact Is.of rfl
      case hy => exact Is.of rfl
      case ht => exact Take.there (.there (.there (.there .here)))
      case hsrc => exact fun w' hm' => Mem.rdBlk hm' (by exact .here) rfl rfl
      case h1 =>
        intro r hr u hu
        simp only [List.mem_singleton] at hr
        subst hr
        simp only [List.mem_singleton] at hu
        subst hu; rfl
      case hz => rfl
      case hsz => rfl
      case hb0 => rfl
      case hb => simp only [List.length_singleton]; omega
      case hd => rfl
      intro cv'
      rw [show ([[.slice q18 (inL es now n x).length p18]] : List (List Value)).flatten = [.slice q18 (inL es now n x).length p18] from rfl, show ([[.slice q18 (inL es now n x).length p18]] : List (List Value)).length = 1 from rfl]
      (refine a_s rfl rfl ?_; refine n_r ?_; refine tr_val (rk_loadB (.of rfl) (.there (.there .here)) norm_ (by rfl)) rfl ?_)
      with_reducible apply tr_call
      case hr => exact rk_call (.of rfl) (.cons (.of rfl) .nil) inferInstance normc_
      case hd => rfl
      case ht => exact Takes.nil
      case hc =>
        intro w1 fp hm1 _ hs1
        obtain rfl : fp = [] := hs1
        exact told_c (es := inL es now n x) (rdEnF (v := .slice q18 (inL es now n x).length p18) hm1 (by exact Take.there (.there (.there (.there .here)))) rfl) hLi
      intro vt _
      dsimp only [id_eq, List.cons_append, List.nil_append]
      skip
      with_reducible apply tr_call
      case hr => exact rk_call (.of rfl) (.cons (.of rfl) .nil) inferInstance normc_
      case hd => rfl
      case ht => exact Takes.nil
      case hc =>
        intro w1 fp hm1 _ hs1
        obtain rfl : fp = [] := hs1
        exact hOw vt (inL es now n x) w1 hLi (rdEn hm1 (by exact .here))
      intro vo _
      dsimp only [id_eq, List.cons_append, List.nil_append]
      (refine m_v rfl rfl ?_; refine m_v rfl rfl ?_)
      with_reducible apply tr_call
      case hr => exact rk_call (.of rfl) (.cons (.of rfl) (.cons (.of rfl) (.cons (.of rfl) .nil))) inferInstance normc_
      case hd => rfl
      case ht => exact Takes.nil
      case hc =>
        intro w1 fp hm1 _ hs1
        obtain rfl : fp = [] := hs1
        exact hBk vo w1 hm1.keeps hcd (rdEn hm1 (by exact .here))
      intro v20 _
      dsimp only [id_eq, List.cons_append, List.nil_append]
      refine tr_rowSl (E := 138) (sz := 6) (v := v20) (by exact .here) fun q20 p20 e => ?_
      subst e
      (refine m_v rfl rfl ?_; refine tr_val (rk_extract (.of rfl) rfl) rfl ?_; refine tr_val (rk_extract (.of rfl) rfl) rfl ?_; refine tr_new (rk_alloc rfl) rfl (fun _ _ => ?_); refine tr_store (.of rfl) (.of rfl) .here rfl rfl (okc_cons rfl okc_nil) (lenb rfl) norm_ ?_; refine a_s rfl rfl ?_; refine n_t ?_; refine tr_seq ?_)
      with_reducible refine tr_drawM 9 (by kernel_rfl) ?_
      (refine am_val (fun β => (rk_move (.of rfl))) ind0x rfl ?_; refine am_val (fun β => (rk_neq (.of rfl) (.of rfl))) ind0x rfl ?_; refine am_val (fun β => (rk_move (.of rfl))) ind0x rfl ?_; refine am_gOn rfl (fun _ => rfl) ?_; refine am_val (fun β => (rk_loadB (.of rfl) .here norm_ (by rfl))) ind0x rfl ?_)
      dsimp only [Nat.zero_add, Nat.reduceAdd]
      refine am_gOn rfl (fun _ => rfl) ?_
      with_reducible apply am_call (ι := Value) (Φ := fun _ => True) (val := fun v => .agg #[v]) (own := fun v => [row 115 6 v es.length (enR es es.length)]) (g := id) (B := []) (args := fun β => [.agg #[.slice q20 es.length p20]])
      case hg => exact fun x => ⟨x, rfl⟩
      case hB => first | rfl | kernel_rfl
      case hr => exact fun β => rk_call (.of rfl) (.cons (.of rfl) .nil) inferInstance rfl
      case hd => rfl
      case hc => exact fun β w' hb => told_c (rdEnF hb.mem (by exact Take.there .here) rfl) hfe
      dsimp only [id_eq, Nat.reduceAdd]
      (refine am_gOn rfl (fun _ => rfl) ?_; refine am_val (fun β => (rk_loadB (.of rfl) (.there (.there (.there (.there (.there (.there (.there (.there (.there (.there .here)))))))))) norm_ (by rfl))) ind0x rfl ?_)
      dsimp only [Nat.reduceAdd]
      refine am_gOn rfl (fun _ => rfl) ?_
      with_reducible apply am_callV (B := [4]) (F := fun _ => .bool true) (args := fun β => [.agg #[β 4], .agg #[.slice a1 es.length cap1]])
      case hB => kernel_rfl
      case hr => exact fun β => rk_call (.of rfl) (.cons (.of rfl) (.cons (.of rfl) .nil)) inferInstance rfl
      case hi => exact ind0x
      case hd => rfl
      case hc =>
        intro β w' hb
        have m4 := hb.at 4 (by simp) (s := ⟨fun β => .agg #[β 4], fun β => [row 115 6 (β 4) es.length (enR es es.length)]⟩) (by kernel_rfl)
        dsimp only [List.cons_append, List.nil_append] at m4
        have := sameQ_c (rdEn m4 (by exact .here)) (h1.keeps hb.mem.keeps)
        rwa [decide_eq_true rfl] at this
      (refine am_gOn rfl (fun _ => rfl) ?_; refine am_val (fun β => (rk_not (.of rfl))) ind0x rfl ?_; refine am_val (fun β => (rk_pickB (.of rfl) (.of rfl) (.of rfl) rfl)) ind0x rfl ?_)
      refine am_end fun β => ?_
      dsimp only [resAll, List.nil_append, List.cons_append, List.append_eq, Nat.reduceAdd]
      with_reducible refine left_done (by kernel_rfl) ?_
      (refine tr_then ?_; refine tr_cond_f (.of rfl) ?_; refine tr_skip ?_)
      refine tr_poolQAdd (R := lateR G) (vs := vs) (v := .slice q18 (inL es now n x).length p18) (A := row 138 6 (.slice q18 (inL es now n x).length p18) (inL es now n x).length (ensL (inL es now n x)).flatten) (by exact Take.there (.there (.there (.there (.there (.there (.there (.there (.there (.there .here)))))))))) (by exact Take.there (.there (.there (.there (.there (.there (.there (.there (.there .here))))))))) (by show _ = row _ 6 _ (G vs.length).length (ensL (G vs.length)).flatten; rw [hvs, hG1]) ?_
      have hk0 := hk cv' (vs ++ [.slice q18 (inL es now n x).length p18]) (by rw [List.length_append, hvs, hk21]; rfl)
      rw [List.length_append, List.length_singleton] at hk0
      exact tr_cut _ _ (by exact .cons rfl (.cons rfl (.cons rfl (.cons rfl (.cons rfl (.cons rfl .nil)))))) (by exact .cons (.there (.there (.there (.there (.there (.there .here)))))) (.cons .here (.cons (.there (.there (.there (.there (.there (.there (.there (.there .here)))))))) (.cons (.there (.there (.there (.there (.there (.there (.there (.there .here)))))))) (.cons (.there (.there (.there (.there (.there (.there (.there (.there .here)))))))) .nil))))) hk0
    · exact tr_cut _ _ (by exact .cons rfl (.cons rfl (.cons rfl (.cons rfl (.cons rfl (.cons rfl .nil)))))) (by exact .cons (.there (.there (.there .here))) (.cons (.there (.there (.there .here))) (.cons (.there (.there (.there .here))) (.cons (.there (.there (.there .here))) (.cons (.there (.there (.there .here))) .nil))))) (hk cv vs (hvs.trans (hB' hcd).symm))
  subst hQ
  clear hvs
  intro cv vs hvs
  (refine tr_then ?_; refine tr_seq ?_)
  with_reducible refine tr_drawP 11 9 (by kernel_rfl) (pure_at rfl (by kernel_rfl) (by kernel_rfl)) ?_
  refine am_val (fun β => (rk_loadB (.of rfl) (.there (.there .here)) norm_ (by rfl))) ind0x rfl ?_
  dsimp only [Nat.zero_add, Nat.reduceAdd]
  with_reducible apply am_call (ι := Value) (Φ := fun _ => True) (val := fun v => .agg #[v]) (own := fun v => [row 138 6 v es.length (enR es es.length)]) (g := id) (B := []) (args := fun β => [.agg #[.slice a1 es.length cap1]])
  case hg => exact fun x => ⟨x, rfl⟩
  case hB => first | rfl | kernel_rfl
  case hr => exact fun β => rk_call (.of rfl) (.cons (.of rfl) .nil) inferInstance rfl
  case hd => rfl
  case hc => exact fun β w' hb => hOw _ es w' hfe (h1.keeps hb.mem.keeps)
  dsimp only [id_eq, Nat.reduceAdd]
  (refine am_val (fun β => (rk_move (.of rfl))) ind0x rfl ?_; refine am_val (fun β => (rk_move (.of rfl))) ind0x rfl ?_; refine am_val (fun β => (rk_fieldAddr (.of rfl) norm0_)) ind0x rfl ?_; refine am_val (fun β => (rk_loadB (.of rfl) (.there (.there (.there (.there .here)))) norm_ (by rfl))) ind0x rfl ?_)
  dsimp only [Nat.reduceAdd]
  with_reducible apply am_call (ι := Option Addr × Nat) (Φ := fun _ => True) (val := fun z => .tuple #[.agg #[.slice z.1 (rtL es now n x.kd x.tm).length z.2], .int .i64 (rtE es now n x.kd x.tm)]) (own := fun z => [row 138 6 (.slice z.1 (rtL es now n x.kd x.tm).length z.2) (rtL es now n x.kd x.tm).length (ensL (rtL es now n x.kd x.tm)).flatten]) (g := gsl) (B := [1]) (args := fun β => [.agg #[β 1], .int .i64 now, .int .i64 (n : Int), .agg #[.string x.kd, .int .i64 x.tm]])
  case hg => exact gsl_of
  case hB => kernel_rfl
  case hr => exact fun β => rk_call (.of rfl) (.cons (.of rfl) (.cons (.of rfl) (.cons (.of rfl) (.cons (.of rfl) .nil)))) inferInstance rfl
  case hd => rfl
  case hc =>
    intro β w' hb
    have m1 := hb.at 1 (by simp) (s := ⟨fun β => .agg #[β 1], fun β => [row 138 6 (β 1) es.length (enR es es.length)]⟩) (by kernel_rfl)
    dsimp only [List.cons_append, List.nil_append] at m1
    exact Gives.sliceV (hRt _ x.kd x.tm w' hb.mem.keeps (rdEn m1 (by exact .here)))
  dsimp only [Nat.reduceAdd]
  refine am_val (F := fun β => .tuple #[.agg #[.slice (gsl (β 6)).1 (rtL es now n x.kd x.tm).length (gsl (β 6)).2], .int .i64 (rtE es now n x.kd x.tm)]) (fun β => rk_move (.of rfl)) (fun β β' h => by simp only [h 6 (by kernel_rfl)]) rfl ?_
  refine am_val (F := fun β => .agg #[.slice (gsl (β 6)).1 (rtL es now n x.kd x.tm).length (gsl (β 6)).2]) (fun β => rk_extract (.of rfl) rfl) (fun β β' h => by simp only [h 6 (by kernel_rfl)]) rfl ?_
  refine am_val (F := fun β => .int .i64 (rtE es now n x.kd x.tm)) (fun β => rk_extract (.of rfl) rfl) ind0x rfl ?_
  dsimp only [Nat.reduceAdd]
  refine am_new (fun β => (rk_alloc rfl)) (fun _ _ _ => rfl) rfl ?_
  refine am_end fun β => ?_
  dsimp only [resAll, List.nil_append, List.cons_append, List.append_eq, Nat.reduceAdd]
  generalize gsl (β 6) = y22
  generalize gnat (β 10) = b22
  obtain ⟨q22, p22⟩ := y22
  dsimp only
  refine left_ready (rs := [11]) (by kernel_rfl) (by simp) (List.forall_mem_cons.2 ⟨?_, fun _ h => absurd h List.not_mem_nil⟩)
  refine next_step rfl ?_
  (refine tr_store (.of rfl) (.of rfl) (.there (.there .here)) rfl rfl (okc_cons rfl okc_nil) (lenb rfl) norm_ ?_; refine n_t ?_)
  refine left_ready (rs := [12]) (by kernel_rfl) (by simp) (List.forall_mem_cons.2 ⟨?_, fun _ h => absurd h List.not_mem_nil⟩)
  refine next_step rfl ?_
  (refine a_s rfl rfl ?_; refine n_t ?_)
  with_reducible refine left_done (by kernel_rfl) ?_
  refine tr_then ?_
  refine tr_seq ?_
  generalize hQ : Exit.then _ _ = Q
  suffices hk : ∀ (cv : Value) (vs : List Value), vs.length = k3 → Tr _ _ [(15, cv), (7, .int .i64 now), (8, .int .i64 (n : Int)), (3, .pointer (some ⟨b3, 0, none⟩)), (4, .pointer (some ⟨b4, 0, none⟩)), (5, .pointer (some ⟨b5, 0, none⟩))] [row 33 1 cv vs.length vs, poolQ (lateR G) vs, blk b3 (.cells #[.slice a1 es.length cap1] 24), blk b4 (.cells #[.int .u16 m0, .int .u16 m1] 176), blk b5 (.cells #[.string x.nm, .string x.mt, .string x.kd, .int .i64 x.tm, .int .i64 x.ln, .int .i64 x.ov] 115)] (Q .normal) by
    (refine s_r ?_; refine m_v rfl rfl ?_; refine tr_val (rk_eql (.of rfl) (.of rfl)) rfl ?_; refine n_t ?_; refine c_d rfl (fun hcd => ?_) (fun hcd => ?_); refine tr_region ?_; refine m_v rfl rfl ?_; refine tr_val (rk_loadB (.of rfl) .here norm_ (by rfl)) rfl ?_; refine tr_new (rk_sliceLitN (.cons (.of rfl) .nil) rfl rfl normp_ normp_ norm_) rfl (fun _ _ => ?_); rotate_left; refine tr_skip ?_; rotate_right)
    · obtain ⟨hG2, hk32⟩ := hC hcd
      with_reducible apply tr_appendR (n := vs.length) (xs := vs) (news := [[.slice q22 (rtL es now n x.kd x.tm).length p22]])
      case hx => exact Is.of rfl
      case hy => exact Is.of rfl
      case ht => exact Take.there (.there (.there (.there .here)))
      case hsrc => exact fun w' hm' => Mem.rdBlk hm' (by exact .here) rfl rfl
      case h1 =>
        intro r hr u hu
        simp only [List.mem_singleton] at hr
        subst hr
        simp only [List.mem_singleton] at hu
        subst hu; rfl
      case hz => rfl
      case hsz => rfl
      case hb0 => rfl
      case hb => simp only [List.length_singleton]; omega
      case hd => rfl
      intro cv'
      rw [show ([[.slice q22 (rtL es now n x.kd x.tm).length p22]] : List (List Value)).flatten = [.slice q22 (rtL es now n x.kd x.tm).length p22] from rfl, show ([[.slice q22 (rtL es now n x.kd x.tm).length p22]] : List (List Value)).length = 1 from rfl]
      (refine a_s rfl rfl ?_; refine tr_nil ?_)
      refine tr_poolQAdd (R := lateR G) (vs := vs) (v := .slice q22 (rtL es now n x.kd x.tm).length p22) (A := row 138 6 (.slice q22 (rtL es now n x.kd x.tm).length p22) (rtL es now n x.kd x.tm).length (ensL (rtL es now n x.kd x.tm)).flatten) (by exact Take.there (.there (.there (.there (.there .here))))) (by exact Take.there (.there (.there (.there .here)))) (by show _ = row _ 6 _ (G vs.length).length (ensL (G vs.length)).flatten; rw [hvs, hG2]) ?_
      have hk0 := hk cv' (vs ++ [.slice q22 (rtL es now n x.kd x.tm).length p22]) (by rw [List.length_append, hvs, hk32]; rfl)
      rw [List.length_append, List.length_singleton] at hk0
      exact tr_cut _ _ (by exact .cons rfl (.cons rfl (.cons rfl (.cons rfl (.cons rfl (.cons rfl .nil)))))) (by exact .cons (.there .here) (.cons .here (.cons (.there (.there (.there .here))) (.cons (.there (.there (.there .here))) (.cons (.there (.there (.there .here))) .nil))))) hk0
    · exact tr_cut _ _ (by exact .cons rfl (.cons rfl (.cons rfl (.cons rfl (.cons rfl (.cons rfl .nil)))))) (by exact .cons (.there (.there (.there .here))) (.cons (.there (.there (.there .here))) (.cons (.there (.there (.there .here))) (.cons (.there (.there (.there .here))) (.cons (.there (.there (.there .here))) .nil))))) (hk cv vs (hvs.trans (hC' hcd).symm))
  subst hQ
  clear hvs
  intro cv vs hvs
  refine tr_rowSl (E := 33) (sz := 1) (v := cv) (by exact .here) fun ca cc e => ?_
  subst e
  (refine tr_then ?_; refine tr_seq ?_; refine s_r ?_; refine m_v rfl rfl ?_; refine tr_val (rk_len_slice (.of rfl)) rfl ?_; refine m_v rfl rfl ?_; refine n_t ?_; refine tr_block ?_)
  by_cases hk0 : vs.length = 0
  · refine tr_for (ι := Unit) (fun _ => True) (fun _ => [(210, .int .i64 0), (209, .int .i64 (vs.length : Int))]) (fun _ => []) (fun _ => 0) ?_ ?_
    · apply tr_start () trivial
      case hs1 => exact .cons rfl (.cons rfl .nil)
      case ht => exact .nil
    rintro ⟨⟩ _
    (refine s_r ?_; refine tr_val (rk_lss (.of rfl) (.of rfl)) rfl ?_; refine n_t ?_; refine tr_seq ?_; refine c_d rfl (fun _ => by omega) (fun hcd => ?_); refine x_t ?_; refine tr_then_exit ?_; refine tr_blk_exit ?_; refine tr_then ?_; refine s_r ?_; refine a_s rfl rfl ?_; refine n_t ?_; refine tr_ret ?_; refine tr_retE rfl (ends1 rfl rfl) ?_)
    rfl
  refine tr_rowOpen (E := 33) (sz := 1) (v := .slice ca vs.length cc) (by exact .here) (by omega) fun cg ccap ccur e hk1 hx1 hz1 hl1 => ?_
  obtain ⟨rfl, -, rfl⟩ := Value.slice.inj e
  unfold maxLen at hx1
  refine tr_for (ι := Nat) (fun k => k ≤ vs.length) (fun k => [(210, .int .i64 (k : Int)), (209, .int .i64 (vs.length : Int)), (208, .slice (some ⟨cg, 0, none⟩) vs.length cc), (7, .int .i64 now), (8, .int .i64 (n : Int)), (3, .pointer (some ⟨b3, 0, none⟩)), (4, .pointer (some ⟨b4, 0, none⟩)), (5, .pointer (some ⟨b5, 0, none⟩))])
    (fun _ => [blk cg (.cells (vs ++ ccur).toArray 33), poolQ (lateR G) vs, blk b3 (.cells #[.slice a1 es.length cap1] 24), blk b4 (.cells #[.int .u16 m0, .int .u16 m1] 176), blk b5 (.cells #[.string x.nm, .string x.mt, .string x.kd, .int .i64 x.tm, .int .i64 x.ln, .int .i64 x.ov] 115)]) (fun k => vs.length - k) ?_ ?_
  · apply tr_start 0 (show (fun k : Nat => k ≤ vs.length) 0 from Nat.zero_le _)
    case hs1 => exact .cons rfl (.cons rfl (.cons rfl (.cons rfl (.cons rfl (.cons rfl (.cons rfl (.cons rfl .nil)))))))
    case ht => exact .cons .here (.cons .here (.cons .here (.cons .here (.cons .here .nil))))
  rintro k hk
  by_cases hlt : k < vs.length
  · obtain ⟨v, hv⟩ : ∃ v, vs[k]? = some v := ⟨vs[k], List.getElem?_eq_getElem hlt⟩
    have qv : (vs ++ ccur)[k * 1]? = some v := by rw [Nat.mul_one, List.getElem?_append_left hlt]; exact hv
    have hlate := hLate k (by omega)
    have hGl : (G k).length ≤ 1000 := by
      have := (Sound.of hlate.sound).all.few
      omega
    have hX : ∀ (c : Cx) (hs hs' : List Asn) w', Mem c hs w' → Take hs (poolQ (lateR G) vs) hs' → Rd w' v 6 (ensL (G k)) := fun c hs hs' w' hm ht => by
      obtain ⟨hs2, r, hm2, ht2⟩ := hm.openQ ht hv
      exact rdEnF (E := 138) (n := (G k).length) hm2 ht2 rfl
    refine tr_fact (fun w' hm => Rd.shape (hX _ _ _ w' hm (by exact Take.there .here))) fun hsh => ?_
    obtain ⟨va, vn, vc, e⟩ := hsh
    subst e
    have qc : cellsAt (vs ++ ccur) (k * 1) 1 = [Value.slice va vn vc] := by
      have := flat_cellsAt (sz := 1) (xs := vs.map fun v => [v]) (cur := ccur) (i := k) (r := [Value.slice va vn vc]) (fun r hr => by obtain ⟨u, _, rfl⟩ := List.mem_map.1 hr; rfl) (by rw [List.getElem?_map, hv]; rfl)
      rwa [flatten_singletons] at this
    have hch := late_chX hz hlate
    have hCh : ∀ (v1 v2 : Value) w', Keeps [] w w' → Rd w' v1 6 (ensL es) → Rd w' v2 6 (ensL (G k)) → GivesV Tryz.prog 92 [.agg #[v1], .agg #[v2]] w' (.tuple #[.agg #[.int .i64 (chX es (G k)).1, .int .i64 (chX es (G k)).2.1], .int .i64 (chX es (G k)).2.2]) := fun v1 v2 w' hk r1 r2 => changedV_c r1 r2 (hG.keeps hk)
    generalize chX es (G k) = X at hch hCh
    obtain ⟨p, q, e⟩ := X
    dsimp only at hch hCh
    (refine s_r ?_; refine tr_val (rk_lss (.of rfl) (.of rfl)) rfl ?_; refine n_t ?_; refine tr_seq ?_; refine c_d rfl (fun hcd => ?_) (fun _ => by omega); refine s_t ?_; refine tr_seq ?_; refine tr_block ?_; refine s_r ?_; refine tr_val (rk_indexAddr (.of rfl) (.of rfl) rfl (by omega) hcd norm1_) rfl ?_; refine tr_val (rk_loadB (.of rfl) .here qc rfl) rfl ?_; refine tr_new (rk_alloc rfl) rfl (fun _ _ => ?_); refine tr_store (.of rfl) (.of rfl) .here rfl rfl (okc_cons rfl okc_nil) (lenb rfl) norm_ ?_; refine n_t ?_; refine tr_seq ?_; refine s_r ?_; refine tr_val (rk_loadB (.of rfl) .here norm_ (by rfl)) rfl ?_)
    with_reducible apply tr_call
    case hr => exact rk_call (.of rfl) (.cons (.of rfl) .nil) inferInstance normc_
    case hd => rfl
    case ht => exact Takes.nil
    case hc =>
      intro w1 fp hm1 _ hs1
      obtain rfl : fp = [] := hs1
      exact told_c (hX _ _ _ w1 hm1 (by exact Take.there (.there .here))) hGl
    intro vt _
    dsimp only [id_eq, List.cons_append, List.nil_append]
    skip
    with_reducible apply tr_callV
    case hr => exact rk_call (.of rfl) (.cons (.of rfl) .nil) inferInstance normc_
    case hd => rfl
    case hc =>
      intro w' hm'
      exact brief_c (rdEn hm' (by exact .here))
    (refine tr_val (rk_not (.of rfl)) rfl ?_; refine n_t ?_; refine c_b rfl (fun hcd => ?_) (fun hcd => ?_); refine x_t ?_; refine tr_blk_exit ?_; refine tr_then ?_; refine tr_region ?_; refine tr_val (rk_add (.of rfl) (.of rfl) (ini (by omega))) rfl ?_; refine m_v rfl rfl ?_; refine n_t ?_; rotate_left; refine s_t ?_; refine tr_seq ?_; rotate_right)
    · apply tr_next (k + 1) (show (fun k : Nat => k ≤ vs.length) (k + 1) from hlt) (by show vs.length - (k + 1) < vs.length - k; omega)
      case hs1 => exact .cons rfl (.cons rfl (.cons rfl (.cons rfl (.cons rfl (.cons rfl (.cons rfl (.cons rfl .nil)))))))
      case ht => exact .cons (.there (.there .here)) (.cons (.there (.there .here)) (.cons (.there (.there .here)) (.cons (.there (.there .here)) (.cons (.there (.there .here)) .nil))))
    · rename_i b25 hb25
      with_reducible refine tr_drawP 10 8 (by kernel_rfl) (pure_at rfl (by kernel_rfl) (by kernel_rfl)) ?_
      refine am_val (fun β => (rk_loadB (.of rfl) (.there (.there (.there (.there .here)))) norm_ (by rfl))) ind0x rfl ?_
      dsimp only [Nat.zero_add, Nat.reduceAdd]
      with_reducible apply am_call (ι := Value) (Φ := fun _ => True) (val := fun v => .agg #[v]) (own := fun v => [row 138 6 v es.length (enR es es.length)]) (g := id) (B := []) (args := fun β => [.agg #[.slice a1 es.length cap1]])
      case hg => exact fun x => ⟨x, rfl⟩
      case hB => first | rfl | kernel_rfl
      case hr => exact fun β => rk_call (.of rfl) (.cons (.of rfl) .nil) inferInstance rfl
      case hd => rfl
      case hc => exact fun β w' hb => hOw _ es w' hfe (h1.keeps hb.mem.keeps)
      dsimp only [id_eq, Nat.reduceAdd]
      refine am_val (fun β => (rk_loadB (.of rfl) (.there .here) norm_ (by rfl))) ind0x rfl ?_
      dsimp only [Nat.reduceAdd]
      with_reducible apply am_call (ι := Value) (Φ := fun _ => True) (val := fun v => .agg #[v]) (own := fun v => [row 115 6 v (G k).length (enR (G k) (G k).length)]) (g := id) (B := []) (args := fun β => [.agg #[.slice va vn vc]])
      case hg => exact fun x => ⟨x, rfl⟩
      case hB => first | rfl | kernel_rfl
      case hr => exact fun β => rk_call (.of rfl) (.cons (.of rfl) .nil) inferInstance rfl
      case hd => rfl
      case hc => exact fun β w' hb => told_c (hX _ _ _ w' hb.mem (by exact Take.there (.there (.there .here)))) hGl
      dsimp only [id_eq, Nat.reduceAdd]
      with_reducible apply am_call (ι := Value) (Φ := fun _ => True) (val := fun v => .agg #[v]) (own := fun v => [row 138 6 v (G k).length (enR (G k) (G k).length)]) (g := id) (B := [3]) (args := fun β => [.agg #[β 3]])
      case hg => exact fun x => ⟨x, rfl⟩
      case hB => first | rfl | kernel_rfl
      case hr => exact fun β => rk_call (.of rfl) (.cons (.of rfl) .nil) inferInstance rfl
      case hd => rfl
      case hc => 
        intro β w' hb
        have m3 := hb.at 3 (by simp) (s := ⟨fun β => .agg #[β 3], fun β => [row 115 6 (β 3) (G k).length (enR (G k) (G k).length)]⟩) (by kernel_rfl)
        dsimp only [List.cons_append, List.nil_append] at m3
        exact hOw _ _ w' hGl (rdEn m3 (by exact .here))
      dsimp only [id_eq, Nat.reduceAdd]
      with_reducible apply am_callV (B := [1, 4]) (F := fun _ => .tuple #[.agg #[.int .i64 p, .int .i64 q], .int .i64 e]) (args := fun β => [.agg #[β 1], .agg #[β 4]])
      case hB => kernel_rfl
      case hr => exact fun β => rk_call (.of rfl) (.cons (.of rfl) (.cons (.of rfl) .nil)) inferInstance rfl
      case hi => exact ind0x
      case hd => rfl
      case hc =>
        intro β w' hb
        have m1 := hb.at 1 (by simp) (s := ⟨fun β => .agg #[β 1], fun β => [row 138 6 (β 1) es.length (enR es es.length)]⟩) (by kernel_rfl)
        dsimp only [List.cons_append, List.nil_append] at m1
        have m4 := hb.at 4 (by simp) (s := ⟨fun β => .agg #[β 4], fun β => [row 138 6 (β 4) (G k).length (enR (G k) (G k).length)]⟩) (by kernel_rfl)
        dsimp only [List.cons_append, List.nil_append] at m4
        exact hCh _ _ w' hb.mem.keeps (rdEn m1 (by exact .here)) (rdEn m4 (by exact .here))
      (refine am_val (fun β => (rk_move (.of rfl))) ind0x rfl ?_; refine am_val (fun β => (rk_extract (.of rfl) rfl)) ind0x rfl ?_; refine am_val (fun β => (rk_extract (.of rfl) rfl)) ind0x rfl ?_)
      dsimp only [Nat.reduceAdd]
      refine am_new (fun β => (rk_alloc rfl)) (fun _ _ _ => rfl) rfl ?_
      refine am_end fun β => ?_
      dsimp only [resAll, List.nil_append, List.cons_append, List.append_eq, Nat.reduceAdd]
      refine left_ready (rs := [10]) (by kernel_rfl) (by simp) (List.forall_mem_cons.2 ⟨?_, fun _ h => absurd h List.not_mem_nil⟩)
      refine next_step rfl ?_
      (refine tr_store (.of rfl) (.of rfl) (.there (.there (.there .here))) rfl rfl (okc_cons rfl (okc_cons rfl okc_nil)) (lenb rfl) norm_ ?_; refine n_t ?_)
      refine left_ready (rs := [11]) (by kernel_rfl) (by simp) (List.forall_mem_cons.2 ⟨?_, fun _ h => absurd h List.not_mem_nil⟩)
      refine next_step rfl ?_
      (refine a_s rfl rfl ?_; refine n_t ?_)
      with_reducible refine left_done (by kernel_rfl) ?_
      rcases hch with ⟨rfl, hp1, hp2⟩ | rfl
      · (refine tr_then ?_; refine s_r ?_; refine m_v rfl rfl ?_; refine tr_val (rk_neq (.of rfl) (.of rfl)) rfl ?_; refine m_v rfl rfl ?_; refine v_g rfl rfl rfl rfl ?_; refine tr_vG1 rfl rfl inferInstance (fun hg hgp => (rk_neq (.ofg hg rfl) (.of rfl))) rfl ?_; refine tr_val (rk_pick_and (.of rfl) rfl) rfl ?_; refine m_v rfl rfl ?_; refine v_g rfl rfl rfl rfl ?_; refine tr_vG1 rfl rfl inferInstance (fun hg hgp => (rk_eql (.ofg hg rfl) (.of rfl))) rfl ?_; refine tr_vG1 rfl rfl inferInstance (fun hg hgp => (rk_move (.ofg hg rfl))) rfl ?_; refine tr_vG1 rfl rfl inferInstance (fun hg hgp => (rk_fieldAddr (.of rfl) norm0_)) rfl ?_; refine tr_vG1 rfl rfl inferInstance (fun hg hgp => (rk_load1 (.ofg hg rfl) (At.lit .here rfl))) rfl ?_; refine v_g rfl rfl rfl rfl ?_; refine tr_vG1 rfl rfl inferInstance (fun hg hgp => (rk_leq (.ofg hg rfl) (.ofg hg rfl))) rfl ?_; refine tr_vG1 rfl rfl inferInstance (fun hg hgp => (rk_move (.ofg hg rfl))) rfl ?_; refine tr_vG1 rfl rfl inferInstance (fun hg hgp => (rk_fieldAddr (.of rfl) norm0_)) rfl ?_; refine tr_vG1 rfl rfl inferInstance (fun hg hgp => (rk_load1 (.ofg hg rfl) (At.lit .here rfl))) rfl ?_; refine tr_vG1 rfl rfl inferInstance (fun hg hgp => (rk_fieldAddr (.of rfl) norm0_)) rfl ?_; refine tr_vG1 rfl rfl inferInstance (fun hg hgp => (rk_load1 (.ofg hg rfl) (At.lit .here rfl))) rfl ?_; refine tr_vG1 rfl rfl inferInstance (fun hg hgp => (rk_geq (.ofg hg rfl) (.ofg hg rfl))) rfl ?_; refine tr_vG1 rfl rfl inferInstance (fun hg hgp => (rk_pick_or (.ofg hg rfl) rfl)) rfl ?_; refine tr_vG1 rfl rfl inferInstance (fun hg hgp => (rk_pick_and (.ofg hg rfl) rfl)) rfl ?_; refine tr_val (rk_pick_or (.of rfl) rfl) rfl ?_; refine n_t ?_; refine c_b rfl (fun _ => by omega) (fun hcd => ?_); refine tr_skip ?_; refine tr_blk_normal ?_; refine tr_then ?_; refine tr_region ?_; refine tr_val (rk_add (.of rfl) (.of rfl) (ini (by omega))) rfl ?_; refine m_v rfl rfl ?_; refine n_t ?_)
        apply tr_next (k + 1) (show (fun k : Nat => k ≤ vs.length) (k + 1) from hlt) (by show vs.length - (k + 1) < vs.length - k; omega)
        case hs1 => exact .cons rfl (.cons rfl (.cons rfl (.cons rfl (.cons rfl (.cons rfl (.cons rfl (.cons rfl .nil)))))))
        case ht => exact .cons (.there (.there (.there (.there (.there (.there .here)))))) (.cons (.there (.there (.there (.there (.there (.there .here)))))) (.cons (.there (.there (.there (.there (.there (.there .here)))))) (.cons (.there (.there (.there (.there (.there (.there .here)))))) (.cons (.there (.there (.there (.there (.there (.there .here)))))) .nil))))
      · (refine tr_then ?_; refine s_r ?_; refine m_v rfl rfl ?_; refine tr_val (rk_neq (.of rfl) (.of rfl)) rfl ?_; refine m_v rfl rfl ?_; refine v_g rfl rfl rfl rfl ?_; refine tr_vG1 rfl rfl inferInstance (fun hg hgp => (rk_neq (.ofg hg rfl) (.of rfl))) rfl ?_; refine tr_val (rk_pick_and (.of rfl) rfl) rfl ?_; refine m_v rfl rfl ?_; refine v_g rfl rfl rfl rfl ?_; refine tr_vG1 rfl rfl inferInstance (fun hg hgp => (rk_eql (.ofg hg rfl) (.of rfl))) rfl ?_; refine tr_vG1 rfl rfl inferInstance (fun hg hgp => (rk_move (.ofg hg rfl))) rfl ?_; refine tr_vG1 rfl rfl inferInstance (fun hg hgp => (rk_fieldAddr (.of rfl) norm0_)) rfl ?_; refine tr_vG1 rfl rfl inferInstance (fun hg hgp => (rk_load1 (.ofg hg rfl) (At.lit .here rfl))) rfl ?_; refine v_g rfl rfl rfl rfl ?_; refine tr_vG1 rfl rfl inferInstance (fun hg hgp => (rk_leq (.ofg hg rfl) (.ofg hg rfl))) rfl ?_; refine tr_vG1 rfl rfl inferInstance (fun hg hgp => (rk_move (.ofg hg rfl))) rfl ?_; refine tr_vG rfl rfl inferInstance (fun hg hgp => (rk_fieldAddr (.of rfl) norm0_)) rfl ?_; refine tr_vG rfl rfl inferInstance (fun hg hgp => (have hg0 := (band_l hg); (rk_load1 (.ofg hg0 rfl) (At.lit .here rfl)))) rfl ?_; refine tr_vG rfl rfl inferInstance (fun hg hgp => (rk_fieldAddr (.of rfl) norm0_)) rfl ?_; refine tr_vG rfl rfl inferInstance (fun hg hgp => (have hg0 := (band_l hg); (rk_load1 (.ofg hg0 rfl) (At.lit .here rfl)))) rfl ?_; refine tr_vG rfl rfl inferInstance (fun hg hgp => (have hg0 := (band_l hg); (rk_geq (.ofg hg0 rfl) (.ofg hg0 rfl)))) rfl ?_; refine tr_vG1 rfl rfl inferInstance (fun hg hgp => (rk_pick_or' hg (.ofg hg rfl) rfl)) rfl ?_; refine tr_vG1 rfl rfl inferInstance (fun hg hgp => (rk_pick_and (.ofg hg rfl) rfl)) rfl ?_; refine tr_val (rk_pick_or (.of rfl) rfl) rfl ?_; refine n_t ?_; refine tr_cond_f (.of rfl) ?_; refine tr_skip ?_; refine tr_blk_normal ?_; refine tr_then ?_; refine tr_region ?_; refine tr_val (rk_add (.of rfl) (.of rfl) (ini (by omega))) rfl ?_; refine m_v rfl rfl ?_; refine n_t ?_)
        apply tr_next (k + 1) (show (fun k : Nat => k ≤ vs.length) (k + 1) from hlt) (by show vs.length - (k + 1) < vs.length - k; omega)
        case hs1 => exact .cons rfl (.cons rfl (.cons rfl (.cons rfl (.cons rfl (.cons rfl (.cons rfl (.cons rfl .nil)))))))
        case ht => exact .cons (.there (.there (.there (.there (.there (.there .here)))))) (.cons (.there (.there (.there (.there (.there (.there .here)))))) (.cons (.there (.there (.there (.there (.there (.there .here)))))) (.cons (.there (.there (.there (.there (.there (.there .here)))))) (.cons (.there (.there (.there (.there (.there (.there .here)))))) .nil))))
  · obtain rfl : k = vs.length := by omega
    (refine s_r ?_; refine tr_val (rk_lss (.of rfl) (.of rfl)) rfl ?_; refine n_t ?_; refine tr_seq ?_; refine c_d rfl (fun _ => by omega) (fun hcd => ?_); refine x_t ?_; refine tr_then_exit ?_; refine tr_blk_exit ?_; refine tr_then ?_; refine s_r ?_; refine a_s rfl rfl ?_; refine n_t ?_; refine tr_ret ?_; refine tr_retE rfl (ends1 rfl rfl) ?_)
    rfl
end Go.Proofs.A1

