/- Parts of the proof: S68. -/
import Derived.Test.YtfbgbipclgljaaaGreatDoorCM23
import Derived.Test.YtfbgbipclgljaaaGreatDoorCM06
set_option linter.unusedSectionVars false
set_option linter.unusedVariables false
set_option linter.unusedSimpArgs false
/- S68 -/
namespace Go.Proofs.A1
open Go Go.SL

theorem Gives.sliceV {P : Program} {f : FuncId} {args : List Value} {w : World} {md : List Nat} {E : TypeId} {sz n : Nat} {xs : List Value} {val : Value → Value} (h : Gives P f args w md (fun _ : Value => True) val (fun v => [row E sz v n xs])) :
    Gives P f args w md (fun _ : Option Addr × Nat => True) (fun x => val (.slice x.1 n x.2)) (fun x => [row E sz (.slice x.1 n x.2) n xs]) :=
  Calls.mono h fun e w' ⟨v, he, _, hk, fp, hn, hs, hf⟩ => by
    have hv : ∃ x : Option Addr × Nat, v = .slice x.1 n x.2 := by
      obtain ⟨f1, f2, _, ⟨_, _, ⟨e1, e2⟩ | ⟨g, cap, cur, e1, _⟩⟩, _⟩ := hs
      · exact ⟨(none, 0), by rw [e1, e2]⟩
      · exact ⟨(_, cap), e1⟩
    obtain ⟨x, rfl⟩ := hv
    exact ⟨x, he, trivial, hk, fp, hn, hs, hf⟩
theorem pure_at {l : List Oper} {p d k : Nat} {x : Operand} {ty : TypeId} {pos : String} {af : Array Edge} (h : l[p]? = some ⟨some d, .extract x k, ty, pos, af, none⟩) (h2 : Region.noSelect l.toArray = true) (h3 : Region.free .any l.toArray ((List.range l.length).map fun j => ((masks l []).getD p 0).testBit j).toArray p = true) : PureAt l p := ⟨d, x, k, ty, pos, af, h, h2, h3⟩
set_option maxHeartbeats 4000000 in
theorem changes_law {sv : Value} {es : List En} {n0 n1 : Int} {x : En} {w : World} (h1 : Rd w sv 6 (ensL es)) (hG : Glob w) (hT : Tab10 w) :
    GivesV Tryz.prog 10 [.agg #[sv], .agg #[.int .i64 n0, .int .i64 n1], .agg x.cells.toArray] w (.bool true) := by
  have haw : ∀ w', Keeps [] w w' → GivesV Tryz.prog 17 [] w' (.bool true) := fun w' hk => awake_c w' (hG.keeps hk) (hT.keeps hk)
  have hsh : ∀ w', Keeps [] w w' → GivesV Tryz.prog 18 [.agg #[sv]] w' (.bool (shortB es)) := fun w' hk => short_c (h1.keeps hk)
  have hck : ∀ w', Keeps [] w w' → GivesV Tryz.prog 23 [.agg #[sv]] w' (.int .i64 (chkF es)) := fun w' hk => chkQ_c (h1.keeps hk)
  have hse := shortEntry_c x
  have hon := one_c x
  have heq := entQ_c x
  have hxc : x.cells = [.string x.nm, .string x.mt, .string x.kd, .int .i64 x.tm, .int .i64 x.ln, .int .i64 x.ov] := rfl
  have hone1 := Rd.one h1
  have h1' := h1
  obtain ⟨a1, cap1, bs1, os1, rfl, hcap1, hmax1, ha1, hc1⟩ := h1'
  rw [ensL_length] at *
  unfold maxLen at hmax1
  have hIn : ∀ (sv' : Value) w', Keeps [] w w' → es.length ≤ 1000 → Rd w' sv' 6 (ensL es) → _ := fun sv' w' hk hl h => inserted_c (now := n0) (at' := n1) x h hl (hG.keeps hk)
  rw [hxc] at hse hon heq hIn ⊢
  refine givesV_of_tr Tryz.func10 rfl rfl ?_
  (refine s_r ?_; refine tr_new (rk_box (.of rfl) rfl) rfl (fun _ _ => ?_); refine tr_new (rk_box (.of rfl) rfl) rfl (fun _ _ => ?_); refine tr_new (rk_box (.of rfl) rfl) rfl (fun _ _ => ?_); refine a_s rfl rfl ?_; refine n_t ?_; refine tr_seq ?_; refine s_r ?_; refine tr_callV (rk_call (.of rfl) .nil inferInstance normc_) rfl (fun w' hm' => (haw w' (Mem.keeps hm'))) ?_; refine tr_val (rk_not (.of rfl)) rfl ?_; refine m_v rfl rfl ?_; refine tr_vG1 rfl rfl inferInstance (fun hg hgp => (rk_loadB (.of rfl) (.there (.there .here)) norm_ (by rfl))) rfl ?_; refine tr_callVG1 rfl rfl (fun hg => (rk_call (.of rfl) (.cons (.ofg hg rfl) .nil) inferInstance normc_)) rfl (fun hg w' hm' => (hsh w' (Mem.keeps hm'))) ?_; refine tr_vG1 rfl rfl inferInstance (fun hg hgp => (rk_not (.ofg hgp rfl))) rfl ?_; refine tr_val (rk_pick_or (.of rfl) rfl) rfl ?_; refine m_v rfl rfl ?_; refine tr_vG1 rfl rfl inferInstance (fun hg hgp => (rk_loadB (.of rfl) .here norm_ (by rfl))) rfl ?_; refine tr_callVG1 rfl rfl (fun hg => (rk_call (.of rfl) (.cons (.ofg hg rfl) .nil) inferInstance normc_)) rfl (fun hg w' hm' => (hse w')) ?_; refine tr_vG1 rfl rfl inferInstance (fun hg hgp => (rk_not (.ofg hg rfl))) rfl ?_; refine tr_val (rk_pick_or (.of rfl) rfl) rfl ?_; refine n_t ?_; refine c_b rfl (fun hcd => ?_) (fun hcd => ?_); refine s_r ?_; refine tr_callV (rk_call (.of rfl) .nil inferInstance normc_) rfl (fun w' hm' => (haw w' (Mem.keeps hm'))) ?_; refine a_s rfl rfl ?_; refine n_t ?_; refine r_t ?_; refine tr_retE rfl (ends1 rfl rfl) ?_; rotate_left; refine s_t ?_; refine tr_seq ?_; rotate_right)
  · rfl
  rename_i b3 hb3 b4 hb4 b5 hb5
  have hfe := shortB_few hcd.1.2
  clear hcd
  generalize hEi : inE es n0 n1 x = Ei at hIn
  generalize hLi : inL es n0 n1 x = Li at hIn
  generalize hEr : rmE es n0 n1 = Er
  generalize hLr : rmL es n0 n1 = Lr
  generalize hEt : rtE es n0 n1 x.kd x.tm = Et
  generalize hLt : rtL es n0 n1 x.kd x.tm = Lt
  have hRm : ∀ (sv' : Value) w', Keeps [] w w' → Rd w' sv' 6 (ensL es) → Gives Tryz.prog 71 [.agg #[sv'], .int .i64 n0, .int .i64 n1] w' [] (fun _ : Value => True) (fun v => .tuple #[.agg #[v], .int .i64 Er]) (fun v => [row 138 6 v Lr.length (ensL Lr).flatten]) := fun sv' w' hk h => by
    have := removed_c (now := n0) (at' := n1) h (hG.keeps hk)
    rwa [hEr, hLr] at this
  have hRt : ∀ (sv' : Value) w', Keeps [] w w' → Rd w' sv' 6 (ensL es) → Gives Tryz.prog 72 [.agg #[sv'], .int .i64 n0, .int .i64 n1, .agg #[.string x.kd, .int .i64 x.tm]] w' [] (fun _ : Value => True) (fun v => .tuple #[.agg #[v], .int .i64 Et]) (fun v => [row 138 6 v Lt.length (ensL Lt).flatten]) := fun sv' w' hk h => by
    have := retimed_c (now := n0) (at' := n1) x.kd x.tm h (hG.keeps hk)
    rwa [hEt, hLt] at this
  generalize hQ : Exit.then _ _ = Q
  suffices hk : ∀ (q0 : Option Addr) (p0 c0 : Nat), Tr _ _ [(8, .int .i64 Ei), (7, .pointer (some ⟨c0, 0, none⟩)), (3, .pointer (some ⟨b3, 0, none⟩)), (4, .pointer (some ⟨b4, 0, none⟩)), (5, .pointer (some ⟨b5, 0, none⟩))] [blk c0 (.cells #[.slice q0 Li.length p0] 33), row 138 6 (.slice q0 Li.length p0) Li.length (ensL Li).flatten, blk b3 (.cells #[.slice a1 es.length cap1] 24), blk b4 (.cells #[.int .i64 n0, .int .i64 n1] 121), blk b5 (.cells #[.string x.nm, .string x.mt, .string x.kd, .int .i64 x.tm, .int .i64 x.ln, .int .i64 x.ov] 115)] (Q .normal) by
    with_reducible refine tr_drawP 13 11 (by kernel_rfl) (pure_at rfl (by kernel_rfl) (by kernel_rfl)) ?_
    refine am_val (fun β => (rk_loadB (.of rfl) (.there (.there .here)) norm_ (by rfl))) ind0 rfl ?_
    dsimp only [Nat.zero_add, Nat.reduceAdd]
    with_reducible apply am_call (ι := Value) (Φ := fun _ => True) (val := fun v => .agg #[v]) (own := fun v => [row 138 6 v es.length (enR es es.length)]) (g := id) (B := []) (args := fun _ => [.agg #[.slice a1 es.length cap1]])
    case hg => exact fun x => ⟨x, rfl⟩
    case hB => rfl
    case hr => exact fun β => rk_call (.of rfl) (.cons (.of rfl) .nil) inferInstance rfl
    case hd => rfl
    case hc => exact fun β w' hb => own_c (h1.keeps hb.mem.keeps) hfe
    dsimp only [id_eq, Nat.reduceAdd]
    (refine am_val (fun β => (rk_indexAddrA (.of rfl) (.of rfl) (by omega) (by omega) norm1_)) ind0 rfl ?_; refine am_val (fun β => (rk_load1 (.of rfl) (At.lit (.there .here) rfl))) ind0 rfl ?_; refine am_val (fun β => (rk_indexAddrA (.of rfl) (.of rfl) (by omega) (by omega) norm1_)) ind0 rfl ?_; refine am_val (fun β => (rk_load1 (.of rfl) (At.lit (.there .here) rfl))) ind0 rfl ?_; refine am_val (fun β => (rk_loadB (.of rfl) .here norm_ (by rfl))) ind0 rfl ?_)
    dsimp only [Nat.reduceAdd]
    with_reducible apply am_callV (B := []) (F := fun _ => .agg #[.string x.nm, .string x.mt, .string x.kd, .int .i64 x.tm, .int .i64 x.ln, .int .i64 x.ov]) (args := fun _ => [.agg #[.string x.nm, .string x.mt, .string x.kd, .int .i64 x.tm, .int .i64 x.ln, .int .i64 x.ov]])
    case hB => rfl
    case hr => exact fun β => rk_call (.of rfl) (.cons (.of rfl) .nil) inferInstance rfl
    case hi => exact ind0
    case hd => rfl
    case hc => exact fun β w' hb => hon w'
    dsimp only [Nat.reduceAdd]
    with_reducible apply am_call (ι := Option Addr × Nat) (Φ := fun _ => True) (val := fun x => .tuple #[.agg #[.slice x.1 Li.length x.2], .int .i64 Ei]) (own := fun x => [row 138 6 (.slice x.1 Li.length x.2) Li.length (ensL Li).flatten]) (g := gsl) (B := [1]) (args := fun β => [.agg #[β 1], .int .i64 n0, .int .i64 n1, .agg #[.string x.nm, .string x.mt, .string x.kd, .int .i64 x.tm, .int .i64 x.ln, .int .i64 x.ov]])
    case hg => exact gsl_of
    case hB => kernel_rfl
    case hr => exact fun β => rk_call (.of rfl) (.cons (.of rfl) (.cons (.of rfl) (.cons (.of rfl) (.cons (.of rfl) .nil)))) inferInstance rfl
    case hd => rfl
    case hc =>
      intro β w' hb
      have m1 := hb.at 1 (by simp) (s := ⟨fun β => .agg #[β 1], fun β => [row 138 6 (β 1) es.length (enR es es.length)]⟩) (by kernel_rfl)
      dsimp only [List.cons_append, List.nil_append] at m1
      exact Gives.sliceV (hIn _ w' hb.mem.keeps hfe (rdEn m1 (by exact .here)))
    dsimp only [Nat.reduceAdd]
    refine am_val (F := fun β => .tuple #[.agg #[.slice (gsl (β 8)).1 Li.length (gsl (β 8)).2], .int .i64 Ei]) (fun β => rk_move (.of rfl)) (fun β β' h => by simp only [h 8 (by kernel_rfl)]) rfl ?_
    refine am_val (F := fun β => .agg #[.slice (gsl (β 8)).1 Li.length (gsl (β 8)).2]) (fun β => rk_extract (.of rfl) rfl) (fun β β' h => by simp only [h 8 (by kernel_rfl)]) rfl ?_
    refine am_val (F := fun β => .int .i64 Ei) (fun β => rk_extract (.of rfl) rfl) ind0 rfl ?_
    dsimp only [Nat.reduceAdd]
    refine am_new (fun β => (rk_alloc rfl)) (fun _ _ _ => rfl) rfl ?_
    refine am_end fun β => ?_
    dsimp only [resAll, List.nil_append, List.cons_append, List.append_eq, Nat.reduceAdd]
    generalize gsl (β 8) = y9
    generalize gnat (β 12) = b7
    obtain ⟨a7, cp7⟩ := y9
    dsimp only
    refine left_ready (rs := [13]) (by kernel_rfl) (by simp) (List.forall_mem_cons.2 ⟨?_, fun _ h => absurd h List.not_mem_nil⟩)
    refine next_step rfl ?_
    (refine tr_store (.of rfl) (.of rfl) (.there (.there .here)) rfl rfl (okc_cons rfl okc_nil) (lenb rfl) norm_ ?_; refine n_t ?_)
    refine left_ready (rs := [14]) (by kernel_rfl) (by simp) (List.forall_mem_cons.2 ⟨?_, fun _ h => absurd h List.not_mem_nil⟩)
    refine next_step rfl ?_
    (refine a_s rfl rfl ?_; refine n_t ?_)
    with_reducible refine left_done (by kernel_rfl) ?_
    exact tr_cut _ _ (by exact .cons rfl (.cons rfl (.cons rfl (.cons rfl (.cons rfl .nil))))) (by exact .cons .here (.cons (.there .here) (.cons (.there (.there (.there .here))) (.cons (.there (.there .here)) (.cons (.there .here) .nil))))) (hk a7 cp7 b7)
  subst hQ
  intro q0 p0 c0
  (refine tr_then ?_; refine tr_seq ?_)
  generalize hQ : Exit.then _ _ = Q
  suffices hk : ∀ (q1 : Option Addr) (p1 c1 : Nat), Tr _ _ [(10, .int .i64 Er), (9, .pointer (some ⟨c1, 0, none⟩)), (8, .int .i64 Ei), (7, .pointer (some ⟨c0, 0, none⟩)), (3, .pointer (some ⟨b3, 0, none⟩)), (4, .pointer (some ⟨b4, 0, none⟩)), (5, .pointer (some ⟨b5, 0, none⟩))] [blk c1 (.cells #[.slice q1 Lr.length p1] 33), row 138 6 (.slice q1 Lr.length p1) Lr.length (ensL Lr).flatten, blk c0 (.cells #[.slice q0 Li.length p0] 33), row 138 6 (.slice q0 Li.length p0) Li.length (ensL Li).flatten, blk b3 (.cells #[.slice a1 es.length cap1] 24), blk b4 (.cells #[.int .i64 n0, .int .i64 n1] 121), blk b5 (.cells #[.string x.nm, .string x.mt, .string x.kd, .int .i64 x.tm, .int .i64 x.ln, .int .i64 x.ov] 115)] (Q .normal) by
    with_reducible refine tr_drawP 11 9 (by kernel_rfl) (pure_at rfl (by kernel_rfl) (by kernel_rfl)) ?_
    refine am_val (fun β => (rk_loadB (.of rfl) (.there (.there .here)) norm_ (by rfl))) ind0 rfl ?_
    dsimp only [Nat.zero_add, Nat.reduceAdd]
    with_reducible apply am_call (ι := Value) (Φ := fun _ => True) (val := fun v => .agg #[v]) (own := fun v => [row 138 6 v es.length (enR es es.length)]) (g := id) (B := []) (args := fun _ => [.agg #[.slice a1 es.length cap1]])
    case hg => exact fun x => ⟨x, rfl⟩
    case hB => rfl
    case hr => exact fun β => rk_call (.of rfl) (.cons (.of rfl) .nil) inferInstance rfl
    case hd => rfl
    case hc => exact fun β w' hb => own_c (h1.keeps hb.mem.keeps) hfe
    dsimp only [id_eq, Nat.reduceAdd]
    (refine am_val (fun β => (rk_indexAddrA (.of rfl) (.of rfl) (by omega) (by omega) norm1_)) ind0 rfl ?_; refine am_val (fun β => (rk_load1 (.of rfl) (At.lit (.there (.there (.there .here))) rfl))) ind0 rfl ?_; refine am_val (fun β => (rk_indexAddrA (.of rfl) (.of rfl) (by omega) (by omega) norm1_)) ind0 rfl ?_; refine am_val (fun β => (rk_load1 (.of rfl) (At.lit (.there (.there (.there .here))) rfl))) ind0 rfl ?_)
    dsimp only [Nat.reduceAdd]

    with_reducible apply am_call (ι := Option Addr × Nat) (Φ := fun _ => True) (val := fun x => .tuple #[.agg #[.slice x.1 Lr.length x.2], .int .i64 Er]) (own := fun x => [row 138 6 (.slice x.1 Lr.length x.2) Lr.length (ensL Lr).flatten]) (g := gsl) (B := [1]) (args := fun β => [.agg #[β 1], .int .i64 n0, .int .i64 n1])
    case hg => exact gsl_of
    case hB => kernel_rfl
    case hr => exact fun β => rk_call (.of rfl) (.cons (.of rfl) (.cons (.of rfl) (.cons (.of rfl) .nil))) inferInstance rfl
    case hd => rfl
    case hc =>
      intro β w' hb
      have m1 := hb.at 1 (by simp) (s := ⟨fun β => .agg #[β 1], fun β => [row 138 6 (β 1) es.length (enR es es.length)]⟩) (by kernel_rfl)
      dsimp only [List.cons_append, List.nil_append] at m1
      exact Gives.sliceV (hRm _ w' hb.mem.keeps (rdEn m1 (by exact .here)))
    dsimp only [Nat.reduceAdd]
    refine am_val (F := fun β => .tuple #[.agg #[.slice (gsl (β 6)).1 Lr.length (gsl (β 6)).2], .int .i64 Er]) (fun β => rk_move (.of rfl)) (fun β β' h => by simp only [h 6 (by kernel_rfl)]) rfl ?_
    refine am_val (F := fun β => .agg #[.slice (gsl (β 6)).1 Lr.length (gsl (β 6)).2]) (fun β => rk_extract (.of rfl) rfl) (fun β β' h => by simp only [h 6 (by kernel_rfl)]) rfl ?_
    refine am_val (F := fun β => .int .i64 Er) (fun β => rk_extract (.of rfl) rfl) ind0 rfl ?_
    dsimp only [Nat.reduceAdd]
    refine am_new (fun β => (rk_alloc rfl)) (fun _ _ _ => rfl) rfl ?_
    refine am_end fun β => ?_
    dsimp only [resAll, List.nil_append, List.cons_append, List.append_eq, Nat.reduceAdd]
    generalize gsl (β 6) = y9
    generalize gnat (β 10) = b7
    obtain ⟨a7, cp7⟩ := y9
    dsimp only
    refine left_ready (rs := [11]) (by kernel_rfl) (by simp) (List.forall_mem_cons.2 ⟨?_, fun _ h => absurd h List.not_mem_nil⟩)
    refine next_step rfl ?_
    (refine tr_store (.of rfl) (.of rfl) (.there (.there .here)) rfl rfl (okc_cons rfl okc_nil) (lenb rfl) norm_ ?_; refine n_t ?_)
    refine left_ready (rs := [12]) (by kernel_rfl) (by simp) (List.forall_mem_cons.2 ⟨?_, fun _ h => absurd h List.not_mem_nil⟩)
    refine next_step rfl ?_
    (refine a_s rfl rfl ?_; refine n_t ?_)
    with_reducible refine left_done (by kernel_rfl) ?_
    exact tr_cut _ _ (by exact .cons rfl (.cons rfl (.cons rfl (.cons rfl (.cons rfl (.cons rfl (.cons rfl .nil))))))) (by exact .cons .here (.cons (.there .here) (.cons (.there .here) (.cons (.there .here) (.cons (.there .here) (.cons (.there .here) (.cons (.there .here) .nil))))))) (hk a7 cp7 b7)
  subst hQ
  intro q1 p1 c1
  (refine tr_then ?_; refine tr_seq ?_)
  generalize hQ : Exit.then _ _ = Q
  suffices hk : ∀ (q2 : Option Addr) (p2 c2 : Nat), Tr _ _ [(12, .int .i64 Et), (11, .pointer (some ⟨c2, 0, none⟩)), (10, .int .i64 Er), (9, .pointer (some ⟨c1, 0, none⟩)), (8, .int .i64 Ei), (7, .pointer (some ⟨c0, 0, none⟩)), (3, .pointer (some ⟨b3, 0, none⟩)), (4, .pointer (some ⟨b4, 0, none⟩)), (5, .pointer (some ⟨b5, 0, none⟩))] [blk c2 (.cells #[.slice q2 Lt.length p2] 33), row 138 6 (.slice q2 Lt.length p2) Lt.length (ensL Lt).flatten, blk c1 (.cells #[.slice q1 Lr.length p1] 33), row 138 6 (.slice q1 Lr.length p1) Lr.length (ensL Lr).flatten, blk c0 (.cells #[.slice q0 Li.length p0] 33), row 138 6 (.slice q0 Li.length p0) Li.length (ensL Li).flatten, blk b3 (.cells #[.slice a1 es.length cap1] 24), blk b4 (.cells #[.int .i64 n0, .int .i64 n1] 121), blk b5 (.cells #[.string x.nm, .string x.mt, .string x.kd, .int .i64 x.tm, .int .i64 x.ln, .int .i64 x.ov] 115)] (Q .normal) by
    with_reducible refine tr_drawP 13 11 (by kernel_rfl) (pure_at rfl (by kernel_rfl) (by kernel_rfl)) ?_
    refine am_val (fun β => (rk_loadB (.of rfl) (.there (.there (.there (.there .here)))) norm_ (by rfl))) ind0 rfl ?_
    dsimp only [Nat.zero_add, Nat.reduceAdd]
    with_reducible apply am_call (ι := Value) (Φ := fun _ => True) (val := fun v => .agg #[v]) (own := fun v => [row 138 6 v es.length (enR es es.length)]) (g := id) (B := []) (args := fun _ => [.agg #[.slice a1 es.length cap1]])
    case hg => exact fun x => ⟨x, rfl⟩
    case hB => rfl
    case hr => exact fun β => rk_call (.of rfl) (.cons (.of rfl) .nil) inferInstance rfl
    case hd => rfl
    case hc => exact fun β w' hb => own_c (h1.keeps hb.mem.keeps) hfe
    dsimp only [id_eq, Nat.reduceAdd]
    (refine am_val (fun β => (rk_indexAddrA (.of rfl) (.of rfl) (by omega) (by omega) norm1_)) ind0 rfl ?_; refine am_val (fun β => (rk_load1 (.of rfl) (At.lit (.there (.there (.there (.there (.there .here))))) rfl))) ind0 rfl ?_; refine am_val (fun β => (rk_indexAddrA (.of rfl) (.of rfl) (by omega) (by omega) norm1_)) ind0 rfl ?_; refine am_val (fun β => (rk_load1 (.of rfl) (At.lit (.there (.there (.there (.there (.there .here))))) rfl))) ind0 rfl ?_; refine am_val (fun β => (rk_fieldAddr (.of rfl) norm0_)) ind0 rfl ?_; refine am_val (fun β => (rk_loadB (.of rfl) (.there (.there (.there (.there (.there (.there .here)))))) norm_ (by rfl))) ind0 rfl ?_)
    dsimp only [Nat.reduceAdd]

    with_reducible apply am_call (ι := Option Addr × Nat) (Φ := fun _ => True) (val := fun x => .tuple #[.agg #[.slice x.1 Lt.length x.2], .int .i64 Et]) (own := fun x => [row 138 6 (.slice x.1 Lt.length x.2) Lt.length (ensL Lt).flatten]) (g := gsl) (B := [1]) (args := fun β => [.agg #[β 1], .int .i64 n0, .int .i64 n1, .agg #[.string x.kd, .int .i64 x.tm]])
    case hg => exact gsl_of
    case hB => kernel_rfl
    case hr => exact fun β => rk_call (.of rfl) (.cons (.of rfl) (.cons (.of rfl) (.cons (.of rfl) (.cons (.of rfl) .nil)))) inferInstance rfl
    case hd => rfl
    case hc =>
      intro β w' hb
      have m1 := hb.at 1 (by simp) (s := ⟨fun β => .agg #[β 1], fun β => [row 138 6 (β 1) es.length (enR es es.length)]⟩) (by kernel_rfl)
      dsimp only [List.cons_append, List.nil_append] at m1
      exact Gives.sliceV (hRt _ w' hb.mem.keeps (rdEn m1 (by exact .here)))
    dsimp only [Nat.reduceAdd]
    refine am_val (F := fun β => .tuple #[.agg #[.slice (gsl (β 8)).1 Lt.length (gsl (β 8)).2], .int .i64 Et]) (fun β => rk_move (.of rfl)) (fun β β' h => by simp only [h 8 (by kernel_rfl)]) rfl ?_
    refine am_val (F := fun β => .agg #[.slice (gsl (β 8)).1 Lt.length (gsl (β 8)).2]) (fun β => rk_extract (.of rfl) rfl) (fun β β' h => by simp only [h 8 (by kernel_rfl)]) rfl ?_
    refine am_val (F := fun β => .int .i64 Et) (fun β => rk_extract (.of rfl) rfl) ind0 rfl ?_
    dsimp only [Nat.reduceAdd]
    refine am_new (fun β => (rk_alloc rfl)) (fun _ _ _ => rfl) rfl ?_
    refine am_end fun β => ?_
    dsimp only [resAll, List.nil_append, List.cons_append, List.append_eq, Nat.reduceAdd]
    generalize gsl (β 8) = y9
    generalize gnat (β 12) = b7
    obtain ⟨a7, cp7⟩ := y9
    dsimp only
    refine left_ready (rs := [13]) (by kernel_rfl) (by simp) (List.forall_mem_cons.2 ⟨?_, fun _ h => absurd h List.not_mem_nil⟩)
    refine next_step rfl ?_
    (refine tr_store (.of rfl) (.of rfl) (.there (.there .here)) rfl rfl (okc_cons rfl okc_nil) (lenb rfl) norm_ ?_; refine n_t ?_)
    refine left_ready (rs := [14]) (by kernel_rfl) (by simp) (List.forall_mem_cons.2 ⟨?_, fun _ h => absurd h List.not_mem_nil⟩)
    refine next_step rfl ?_
    (refine a_s rfl rfl ?_; refine n_t ?_)
    with_reducible refine left_done (by kernel_rfl) ?_
    exact tr_cut _ _ (by exact .cons rfl (.cons rfl (.cons rfl (.cons rfl (.cons rfl (.cons rfl (.cons rfl (.cons rfl (.cons rfl .nil))))))))) (by exact .cons .here (.cons (.there .here) (.cons (.there .here) (.cons (.there .here) (.cons (.there .here) (.cons (.there .here) (.cons (.there .here) (.cons (.there .here) (.cons (.there .here) .nil))))))))) (hk a7 cp7 b7)
  subst hQ
  intro q2 p2 c2
  (refine tr_then ?_; refine tr_seq ?_)
  generalize hQ : Exit.then _ _ = Q
  suffices hk : Tr _ _ [(13, .int .i64 (cgE es n0)), (12, .int .i64 Et), (11, .pointer (some ⟨c2, 0, none⟩)), (10, .int .i64 Er), (9, .pointer (some ⟨c1, 0, none⟩)), (8, .int .i64 Ei), (7, .pointer (some ⟨c0, 0, none⟩)), (3, .pointer (some ⟨b3, 0, none⟩)), (4, .pointer (some ⟨b4, 0, none⟩)), (5, .pointer (some ⟨b5, 0, none⟩))] [blk c2 (.cells #[.slice q2 Lt.length p2] 33), row 138 6 (.slice q2 Lt.length p2) Lt.length (ensL Lt).flatten, blk c1 (.cells #[.slice q1 Lr.length p1] 33), row 138 6 (.slice q1 Lr.length p1) Lr.length (ensL Lr).flatten, blk c0 (.cells #[.slice q0 Li.length p0] 33), row 138 6 (.slice q0 Li.length p0) Li.length (ensL Li).flatten, blk b3 (.cells #[.slice a1 es.length cap1] 24), blk b4 (.cells #[.int .i64 n0, .int .i64 n1] 121), blk b5 (.cells #[.string x.nm, .string x.mt, .string x.kd, .int .i64 x.tm, .int .i64 x.ln, .int .i64 x.ov] 115)] (Q .normal) by
    with_reducible refine tr_drawM 5 (by kernel_rfl) ?_
    refine am_val (fun β => (rk_loadB (.of rfl) (.there (.there (.there (.there (.there (.there .here)))))) norm_ (by rfl))) ind0 rfl ?_
    with_reducible apply am_callV (B := []) (F := fun _ => .int .i64 (chkF es)) (args := fun β => [.agg #[.slice a1 es.length cap1]])
    case hB => first | rfl | kernel_rfl
    case hr => exact fun β => rk_call (.of rfl) (.cons (.of rfl) .nil) inferInstance rfl
    case hi => exact ind0
    case hd => rfl
    case hc => exact fun β w' hb => hck w' hb.mem.keeps
    dsimp only [Nat.reduceAdd]
    (refine am_val (fun β => (rk_indexAddrA (.of rfl) (.of rfl) (by omega) (by omega) norm1_)) ind0 rfl ?_; refine am_val (fun β => (rk_load1 (.of rfl) (At.lit (.there (.there (.there (.there (.there (.there (.there .here))))))) rfl))) ind0 rfl ?_)
    with_reducible apply am_callV (B := []) (F := fun _ => .int .i64 (withinF n0 0 10000000)) (args := fun β => [.int .i64 n0])
    case hB => first | rfl | kernel_rfl
    case hr => exact fun β => rk_call (.of rfl) (.cons (.of rfl) .nil) inferInstance rfl
    case hi => exact ind0
    case hd => rfl
    case hc => exact fun β w' hb => frameQ_c _ _
    dsimp only [Nat.reduceAdd]
    refine am_end fun β => ?_
    dsimp only [resAll, List.nil_append, List.cons_append, List.append_eq, Nat.reduceAdd]
    refine left_ready (rs := [5]) (by kernel_rfl) (by simp) (List.forall_mem_cons.2 ⟨?_, fun _ h => absurd h List.not_mem_nil⟩)
    refine next_step rfl ?_
    (refine tr_new (rk_sliceLit (.cons (.of rfl) (.cons (.of rfl) .nil)) rfl rfl rfl rfl) rfl (fun _ _ => ?_); refine n_t ?_)
    refine left_ready (rs := [6]) (by kernel_rfl) (by simp) (List.forall_mem_cons.2 ⟨?_, fun _ h => absurd h List.not_mem_nil⟩)
    refine next_step rfl ?_
    with_reducible apply tr_callV
    case hr => exact rk_call (.of rfl) (.cons (.of rfl) .nil) inferInstance normc_
    case hd => rfl
    case hc =>
      intro w' hm'
      exact first_q _ [chkF es, withinF n0 0 10000000] w' (Mem.rdBlk hm' (by exact .here) rfl rfl)
    (refine n_t ?_)
    refine left_ready (rs := [7]) (by kernel_rfl) (by simp) (List.forall_mem_cons.2 ⟨?_, fun _ h => absurd h List.not_mem_nil⟩)
    refine next_step rfl ?_
    (refine a_s rfl rfl ?_; refine n_t ?_)
    with_reducible refine left_done (by kernel_rfl) ?_
    exact tr_cut _ _ (by exact .cons rfl (.cons rfl (.cons rfl (.cons rfl (.cons rfl (.cons rfl (.cons rfl (.cons rfl (.cons rfl (.cons rfl .nil)))))))))) (by exact .cons (.there .here) (.cons (.there .here) (.cons (.there .here) (.cons (.there .here) (.cons (.there .here) (.cons (.there .here) (.cons (.there .here) (.cons (.there .here) (.cons (.there .here) .nil))))))))) hk
  subst hQ
  (refine tr_then ?_; refine s_r ?_; refine tr_val (rk_indexAddrA (.of rfl) (.of rfl) (by omega) (by omega) norm1_) rfl ?_; refine tr_val (rk_load1 (.of rfl) (At.lit (.there (.there (.there (.there (.there (.there (.there .here))))))) rfl)) rfl ?_; refine tr_val (rk_lss (.of rfl) (.of rfl)) rfl ?_; refine m_v rfl rfl ?_; refine tr_vG1 rfl rfl inferInstance (fun hg hgp => (rk_indexAddrA (.of rfl) (.of rfl) (by omega) (by omega) norm1_)) rfl ?_; refine tr_vG1 rfl rfl inferInstance (fun hg hgp => (rk_load1 (.ofg hg rfl) (At.lit (.there (.there (.there (.there (.there (.there (.there .here))))))) rfl))) rfl ?_; refine tr_vG1 rfl rfl inferInstance (fun hg hgp => (rk_fieldAddr (.of rfl) norm0_)) rfl ?_; refine tr_vG1 rfl rfl inferInstance (fun hg hgp => (rk_load1 (.ofg hg rfl) (At.lit (.there (.there (.there (.there (.there (.there .here)))))) rfl))) rfl ?_; refine tr_vG1 rfl rfl inferInstance (fun hg hgp => (rk_len_slice (.ofg hg rfl))) rfl ?_; refine tr_vG1 rfl rfl inferInstance (fun hg hgp => (rk_geq (.ofg hg rfl) (.ofg hg rfl))) rfl ?_; refine tr_val (rk_pick_or (.of rfl) rfl) rfl ?_; refine tr_callV (rk_call (.of rfl) (.cons (.of rfl) (.cons (.of rfl) .nil)) inferInstance normc_) rfl (fun w' hm' => (when_q _ 10 w')) ?_; refine a_s rfl rfl ?_; refine n_t ?_; refine tr_seq ?_)
  rw [show whenF (decide (n1 < 0) || decide ((es.length : Int) ≤ n1)) 10 = ixE n1 es.length from rfl]
  generalize hQ : Exit.then _ _ = Q
  suffices hk : Tr _ _ [(15, .int .i64 (in0 es n0 n1 x)), (14, .int .i64 (ixE n1 es.length)), (13, .int .i64 (cgE es n0)), (12, .int .i64 Et), (11, .pointer (some ⟨c2, 0, none⟩)), (10, .int .i64 Er), (9, .pointer (some ⟨c1, 0, none⟩)), (8, .int .i64 Ei), (7, .pointer (some ⟨c0, 0, none⟩)), (3, .pointer (some ⟨b3, 0, none⟩)), (4, .pointer (some ⟨b4, 0, none⟩)), (5, .pointer (some ⟨b5, 0, none⟩))] [blk c2 (.cells #[.slice q2 Lt.length p2] 33), row 138 6 (.slice q2 Lt.length p2) Lt.length (ensL Lt).flatten, blk c1 (.cells #[.slice q1 Lr.length p1] 33), row 138 6 (.slice q1 Lr.length p1) Lr.length (ensL Lr).flatten, blk c0 (.cells #[.slice q0 Li.length p0] 33), row 138 6 (.slice q0 Li.length p0) Li.length (ensL Li).flatten, blk b3 (.cells #[.slice a1 es.length cap1] 24), blk b4 (.cells #[.int .i64 n0, .int .i64 n1] 121), blk b5 (.cells #[.string x.nm, .string x.mt, .string x.kd, .int .i64 x.tm, .int .i64 x.ln, .int .i64 x.ov] 115)] (Q .normal) by
    with_reducible refine tr_drawM 15 (by kernel_rfl) ?_
    (refine am_val (fun β => (rk_move (.of rfl))) ind0 rfl ?_; refine am_val (fun β => (rk_indexAddrA (.of rfl) (.of rfl) (by omega) (by omega) norm1_)) ind0 rfl ?_; refine am_val (fun β => (rk_load1 (.of rfl) (At.lit (.there (.there (.there (.there (.there (.there (.there .here))))))) rfl))) ind0 rfl ?_; refine am_val (fun β => (rk_lss (.of rfl) (.of rfl))) ind0 rfl ?_; refine am_val (fun β => (rk_move (.of rfl))) ind0 rfl ?_)
    have hfi : ∀ (v : Value) (b : Bool) w', b = (decide (n1 < 0) || decide ((es.length : Int) < n1)) → Rd w' v 1 (ints [cgE es n0, whenF b 10, entF x]) → GivesV Tryz.prog 24 [v] w' (.int .i64 (in0 es n0 n1 x)) := fun v b w' e h => by
      rw [in0_eq, ix2, ← e]; exact first_q v _ w' h
    by_cases hg : n1 < 0
    · rw [show decide (n1 < 0) = true from decide_eq_true hg]
      (refine am_gOff rfl (fun _ => rfl) (Or.inr rfl) rfl ?_; refine am_gOff rfl (fun _ => rfl) (Or.inr rfl) rfl ?_; refine am_gOff rfl (fun _ => rfl) (Or.inr rfl) rfl ?_; refine am_gOff rfl (fun _ => rfl) (Or.inr rfl) rfl ?_; refine am_gOff rfl (fun _ => rfl) (Or.inr rfl) rfl ?_; refine am_gOff rfl (fun _ => rfl) (Or.inr rfl) rfl ?_; refine am_val (fun β => (rk_pickB (.of rfl) (.of rfl) (.of rfl) rfl)) ind0 rfl ?_)
      with_reducible apply am_callV (B := []) (F := fun _ => .int .i64 (whenF true 10)) (args := fun β => [.bool true, .int .i64 10])
      case hB => first | rfl | kernel_rfl
      case hr => exact fun β => rk_call (.of rfl) (.cons (.of rfl) (.cons (.of rfl) .nil)) inferInstance rfl
      case hi => exact ind0
      case hd => rfl
      case hc => exact fun β w' hb => when_q _ _ _
      dsimp only [Nat.reduceAdd]
      refine am_val (fun β => (rk_loadB (.of rfl) (.there (.there (.there (.there (.there (.there (.there (.there .here)))))))) norm_ (by rfl))) ind0 rfl ?_
      with_reducible apply am_callV (B := []) (F := fun _ => .int .i64 (entF x)) (args := fun β => [.agg #[.string x.nm, .string x.mt, .string x.kd, .int .i64 x.tm, .int .i64 x.ln, .int .i64 x.ov]])
      case hB => first | rfl | kernel_rfl
      case hr => exact fun β => rk_call (.of rfl) (.cons (.of rfl) .nil) inferInstance rfl
      case hi => exact ind0
      case hd => rfl
      case hc => exact fun β w' hb => heq w'
      dsimp only [Nat.reduceAdd]
      refine am_end fun β => ?_
      dsimp only [resAll, List.nil_append, List.cons_append, List.append_eq, Nat.reduceAdd]
      refine left_ready (rs := [15]) (by kernel_rfl) (by simp) (List.forall_mem_cons.2 ⟨?_, fun _ h => absurd h List.not_mem_nil⟩)
      refine next_step rfl ?_
      (refine tr_new (rk_sliceLit (.cons (.of rfl) (.cons (.of rfl) (.cons (.of rfl) .nil))) rfl rfl rfl rfl) rfl (fun _ _ => ?_); refine n_t ?_)
      refine left_ready (rs := [16]) (by kernel_rfl) (by simp) (List.forall_mem_cons.2 ⟨?_, fun _ h => absurd h List.not_mem_nil⟩)
      refine next_step rfl ?_
      with_reducible apply tr_callV
      case hr => exact rk_call (.of rfl) (.cons (.of rfl) .nil) inferInstance normc_
      case hd => rfl
      case hc =>
        intro w' hm'
        exact hfi _ _ w' (by rw [decide_eq_true hg, Bool.true_or]) (Mem.rdBlk hm' (by exact .here) rfl rfl)
      (refine n_t ?_)
      refine left_ready (rs := [17]) (by kernel_rfl) (by simp) (List.forall_mem_cons.2 ⟨?_, fun _ h => absurd h List.not_mem_nil⟩)
      refine next_step rfl ?_
      (refine a_s rfl rfl ?_; refine n_t ?_)
      with_reducible refine left_done (by kernel_rfl) ?_
      exact tr_cut _ _ (by exact .cons rfl (.cons rfl (.cons rfl (.cons rfl (.cons rfl (.cons rfl (.cons rfl (.cons rfl (.cons rfl (.cons rfl (.cons rfl (.cons rfl .nil)))))))))))) (by exact .cons (.there .here) (.cons (.there .here) (.cons (.there .here) (.cons (.there .here) (.cons (.there .here) (.cons (.there .here) (.cons (.there .here) (.cons (.there .here) (.cons (.there .here) .nil))))))))) hk
    · rw [show decide (n1 < 0) = false from decide_eq_false hg]
      (refine am_gOn rfl (fun _ => rfl) ?_; refine am_val (fun β => (rk_indexAddrA (.of rfl) (.of rfl) (by omega) (by omega) norm1_)) ind0 rfl ?_; refine am_gOn rfl (fun _ => rfl) ?_; refine am_val (fun β => (rk_load1 (.of rfl) (At.lit (.there (.there (.there (.there (.there (.there (.there .here))))))) rfl))) ind0 rfl ?_; refine am_gOn rfl (fun _ => rfl) ?_; refine am_val (fun β => (rk_fieldAddr (.of rfl) norm0_)) ind0 rfl ?_; refine am_gOn rfl (fun _ => rfl) ?_; refine am_val (fun β => (rk_load1 (.of rfl) (At.lit (.there (.there (.there (.there (.there (.there .here)))))) rfl))) ind0 rfl ?_; refine am_gOn rfl (fun _ => rfl) ?_; refine am_val (fun β => (rk_len_slice (.of rfl))) ind0 rfl ?_; refine am_gOn rfl (fun _ => rfl) ?_; refine am_val (fun β => (rk_gtr (.of rfl) (.of rfl))) ind0 rfl ?_)
      refine am_val (F := fun _ => .bool (decide ((es.length : Int) < n1))) (fun β => rk_pickB (.of rfl) (.of rfl) (.of rfl) rfl) ind0 rfl ?_
      with_reducible apply am_callV (B := []) (F := fun _ => .int .i64 (whenF (decide ((es.length : Int) < n1)) 10)) (args := fun β => [.bool (decide ((es.length : Int) < n1)), .int .i64 10])
      case hB => first | rfl | kernel_rfl
      case hr => exact fun β => rk_call (.of rfl) (.cons (.of rfl) (.cons (.of rfl) .nil)) inferInstance rfl
      case hi => exact ind0
      case hd => rfl
      case hc => exact fun β w' hb => when_q _ _ _
      dsimp only [Nat.reduceAdd]
      refine am_val (fun β => (rk_loadB (.of rfl) (.there (.there (.there (.there (.there (.there (.there (.there .here)))))))) norm_ (by rfl))) ind0 rfl ?_
      with_reducible apply am_callV (B := []) (F := fun _ => .int .i64 (entF x)) (args := fun β => [.agg #[.string x.nm, .string x.mt, .string x.kd, .int .i64 x.tm, .int .i64 x.ln, .int .i64 x.ov]])
      case hB => first | rfl | kernel_rfl
      case hr => exact fun β => rk_call (.of rfl) (.cons (.of rfl) .nil) inferInstance rfl
      case hi => exact ind0
      case hd => rfl
      case hc => exact fun β w' hb => heq w'
      dsimp only [Nat.reduceAdd]
      refine am_end fun β => ?_
      dsimp only [resAll, List.nil_append, List.cons_append, List.append_eq, Nat.reduceAdd]
      refine left_ready (rs := [15]) (by kernel_rfl) (by simp) (List.forall_mem_cons.2 ⟨?_, fun _ h => absurd h List.not_mem_nil⟩)
      refine next_step rfl ?_
      (refine tr_new (rk_sliceLit (.cons (.of rfl) (.cons (.of rfl) (.cons (.of rfl) .nil))) rfl rfl rfl rfl) rfl (fun _ _ => ?_); refine n_t ?_)
      refine left_ready (rs := [16]) (by kernel_rfl) (by simp) (List.forall_mem_cons.2 ⟨?_, fun _ h => absurd h List.not_mem_nil⟩)
      refine next_step rfl ?_
      with_reducible apply tr_callV
      case hr => exact rk_call (.of rfl) (.cons (.of rfl) .nil) inferInstance normc_
      case hd => rfl
      case hc =>
        intro w' hm'
        exact hfi _ _ w' (by rw [decide_eq_false hg, Bool.false_or]) (Mem.rdBlk hm' (by exact .here) rfl rfl)
      (refine n_t ?_)
      refine left_ready (rs := [17]) (by kernel_rfl) (by simp) (List.forall_mem_cons.2 ⟨?_, fun _ h => absurd h List.not_mem_nil⟩)
      refine next_step rfl ?_
      (refine a_s rfl rfl ?_; refine n_t ?_)
      with_reducible refine left_done (by kernel_rfl) ?_
      exact tr_cut _ _ (by exact .cons rfl (.cons rfl (.cons rfl (.cons rfl (.cons rfl (.cons rfl (.cons rfl (.cons rfl (.cons rfl (.cons rfl (.cons rfl (.cons rfl .nil)))))))))))) (by exact .cons (.there .here) (.cons (.there .here) (.cons (.there .here) (.cons (.there .here) (.cons (.there .here) (.cons (.there .here) (.cons (.there .here) (.cons (.there .here) (.cons (.there .here) .nil))))))))) hk
  subst hQ
  (refine tr_then ?_; refine tr_seq ?_)
  generalize hQ : Exit.then _ _ = Q
  suffices hk : Tr _ _ [(17, .int .i64 (rt0 es n0 n1 x.kd x.tm)), (16, .int .i64 (ccF es n0 n1 es.length)), (15, .int .i64 (in0 es n0 n1 x)), (14, .int .i64 (ixE n1 es.length)), (13, .int .i64 (cgE es n0)), (12, .int .i64 Et), (11, .pointer (some ⟨c2, 0, none⟩)), (10, .int .i64 Er), (9, .pointer (some ⟨c1, 0, none⟩)), (8, .int .i64 Ei), (7, .pointer (some ⟨c0, 0, none⟩)), (3, .pointer (some ⟨b3, 0, none⟩)), (4, .pointer (some ⟨b4, 0, none⟩)), (5, .pointer (some ⟨b5, 0, none⟩))] [blk c2 (.cells #[.slice q2 Lt.length p2] 33), row 138 6 (.slice q2 Lt.length p2) Lt.length (ensL Lt).flatten, blk c1 (.cells #[.slice q1 Lr.length p1] 33), row 138 6 (.slice q1 Lr.length p1) Lr.length (ensL Lr).flatten, blk c0 (.cells #[.slice q0 Li.length p0] 33), row 138 6 (.slice q0 Li.length p0) Li.length (ensL Li).flatten, blk b3 (.cells #[.slice a1 es.length cap1] 24), blk b4 (.cells #[.int .i64 n0, .int .i64 n1] 121), blk b5 (.cells #[.string x.nm, .string x.mt, .string x.kd, .int .i64 x.tm, .int .i64 x.ln, .int .i64 x.ov] 115)] (Q .normal) by
    with_reducible refine tr_drawM 11 (by kernel_rfl) ?_
    (refine am_val (fun β => (rk_move (.of rfl))) ind0 rfl ?_; refine am_val (fun β => (rk_move (.of rfl))) ind0 rfl ?_)
    dsimp only [Nat.zero_add, Nat.reduceAdd]
    refine am_new (fun β => (rk_sliceLit (.cons (.of rfl) (.cons (.of rfl) .nil)) rfl rfl rfl rfl)) (fun _ _ _ => rfl) rfl ?_
    dsimp only [Nat.reduceAdd]
    with_reducible apply am_callV (B := [2]) (F := fun _ => .int .i64 (ccF es n0 n1 es.length)) (args := fun β => [.slice (some ⟨gnat (β 2), 0, none⟩) 2 2])
    case hB => first | rfl | kernel_rfl
    case hr => exact fun β => rk_call (.of rfl) (.cons (.of rfl) .nil) inferInstance rfl
    case hi => exact ind0
    case hd => rfl
    case hc =>
      intro β w' hb
      have m2 := hb.at 2 List.mem_cons_self (s := ⟨fun β => .slice (some ⟨gnat (β 2), 0, none⟩) 2 2, fun β => [blk (gnat (β 2)) (.cells #[.int .i64 (cgE es n0), .int .i64 (ixE n1 es.length)] 3)]⟩) (by kernel_rfl)
      dsimp only [List.cons_append, List.nil_append] at m2
      rw [ccF_cg]
      exact first_q _ [cgE es n0, ixE n1 es.length] w' (Mem.rdBlk m2 (by exact .here) rfl rfl)
    dsimp only [Nat.reduceAdd]
    (refine am_val (fun β => (rk_move (.of rfl))) ind0 rfl ?_; refine am_val (fun β => (rk_move (.of rfl))) ind0 rfl ?_; refine am_val (fun β => (rk_fieldAddr (.of rfl) norm0_)) ind0 rfl ?_; refine am_val (fun β => (rk_loadB (.of rfl) (.there (.there (.there (.there (.there (.there (.there (.there .here)))))))) norm_ (by rfl))) ind0 rfl ?_)
    with_reducible apply am_callV (B := []) (F := fun _ => .int .i64 (startF x.kd x.tm)) (args := fun β => [.agg #[.string x.kd, .int .i64 x.tm]])
    case hB => first | rfl | kernel_rfl
    case hr => exact fun β => rk_call (.of rfl) (.cons (.of rfl) .nil) inferInstance rfl
    case hi => exact ind0
    case hd => rfl
    case hc => exact fun β w' hb => startQ_c _ _ _
    dsimp only [Nat.reduceAdd]
    refine am_new (fun β => (rk_sliceLit (.cons (.of rfl) (.cons (.of rfl) (.cons (.of rfl) .nil))) rfl rfl rfl rfl)) (fun _ _ _ => rfl) rfl ?_
    dsimp only [Nat.reduceAdd]
    with_reducible apply am_callV (B := [9]) (F := fun _ => .int .i64 (rt0 es n0 n1 x.kd x.tm)) (args := fun β => [.slice (some ⟨gnat (β 9), 0, none⟩) 3 3])
    case hB => first | rfl | kernel_rfl
    case hr => exact fun β => rk_call (.of rfl) (.cons (.of rfl) .nil) inferInstance rfl
    case hi => exact ind0
    case hd => rfl
    case hc =>
      intro β w' hb
      have m2 := hb.at 9 List.mem_cons_self (s := ⟨fun β => .slice (some ⟨gnat (β 9), 0, none⟩) 3 3, fun β => [blk (gnat (β 9)) (.cells #[.int .i64 (cgE es n0), .int .i64 (ixE n1 es.length), .int .i64 (startF x.kd x.tm)] 3)]⟩) (by kernel_rfl)
      dsimp only [List.cons_append, List.nil_append] at m2
      rw [rt0_eq]
      exact first_q _ [cgE es n0, ixE n1 es.length, startF x.kd x.tm] w' (Mem.rdBlk m2 (by exact .here) rfl rfl)
    dsimp only [Nat.reduceAdd]
    refine am_end fun β => ?_
    dsimp only [resAll, List.nil_append, List.cons_append, List.append_eq, Nat.reduceAdd]
    generalize gnat (β 2) = g2
    generalize gnat (β 9) = g9
    refine left_ready (rs := [11]) (by kernel_rfl) (by simp) (List.forall_mem_cons.2 ⟨?_, fun _ h => absurd h List.not_mem_nil⟩)
    refine next_step rfl ?_
    (refine a_s rfl rfl ?_; refine n_t ?_)
    refine left_ready (rs := [12]) (by kernel_rfl) (by simp) (List.forall_mem_cons.2 ⟨?_, fun _ h => absurd h List.not_mem_nil⟩)
    refine next_step rfl ?_
    (refine a_s rfl rfl ?_; refine n_t ?_)
    with_reducible refine left_done (by kernel_rfl) ?_
    exact tr_cut _ _ (by exact .cons rfl (.cons rfl (.cons rfl (.cons rfl (.cons rfl (.cons rfl (.cons rfl (.cons rfl (.cons rfl (.cons rfl (.cons rfl (.cons rfl (.cons rfl (.cons rfl .nil)))))))))))))) (by exact .cons (.there (.there .here)) (.cons (.there (.there .here)) (.cons (.there (.there .here)) (.cons (.there (.there .here)) (.cons (.there (.there .here)) (.cons (.there (.there .here)) (.cons (.there (.there .here)) (.cons (.there (.there .here)) (.cons (.there (.there .here)) .nil))))))))) hk
  subst hQ
  refine tr_then ?_
  refine tr_seq ?_
  refine tr_region ?_
  refine tr_new (ob := .cells #[.slice none 0 0] 24) (rk_alloc rfl) rfl (fun d0 hd0 => ?_)
  refine tr_new (ob := .cells #[.slice none 0 0] 24) (rk_alloc rfl) rfl (fun d1 hd1 => ?_)
  refine tr_new (ob := .cells #[.slice none 0 0] 24) (rk_alloc rfl) rfl (fun d2 hd2 => ?_)
  refine tr_nil ?_
  have hIq : ∀ w', Keeps [] w w' → in0 es n0 n1 x = 0 → Gives Tryz.prog 75 [.agg #[.slice a1 es.length cap1], .int .i64 n0, .int .i64 n1, .agg #[.string x.nm, .string x.mt, .string x.kd, .int .i64 x.tm, .int .i64 x.ln, .int .i64 x.ov]] w' [] (fun _ : Value => True) (fun v => .tuple #[.agg #[v], .int .i64 Ei]) (fun v => [row 115 6 v Li.length (ensL Li).flatten]) := fun w' hk h => by
    obtain ⟨hs, hp, hq⟩ := in_ok h
    have := insertedQ_c (k := n1.toNat) (now := n0) x (h1.keeps hk) hs (by omega)
    rw [Int.toNat_of_nonneg hp, ← inE_ok h, hEi, ← inL_ok h, hLi, hxc] at this
    exact this
  have hRq : ∀ w', Keeps [] w w' → ccF es n0 n1 es.length = 0 → Gives Tryz.prog 76 [.agg #[.slice a1 es.length cap1], .int .i64 n0, .int .i64 n1] w' [] (fun _ : Value => True) (fun v => .tuple #[.agg #[v], .int .i64 Er]) (fun v => [row 115 6 v Lr.length (ensL Lr).flatten]) := fun w' hk h => by
    obtain ⟨hs, hp, hq⟩ := cg_ok h
    have := removedQ_c (k := n1.toNat) (now := n0) (h1.keeps hk) hs (by omega)
    rw [Int.toNat_of_nonneg hp, ← rmE_ok h, hEr, ← rmL_ok h, hLr] at this
    exact this
  have hTq : ∀ w', Keeps [] w w' → rt0 es n0 n1 x.kd x.tm = 0 → Gives Tryz.prog 77 [.agg #[.slice a1 es.length cap1], .int .i64 n0, .int .i64 n1, .agg #[.string x.kd, .int .i64 x.tm]] w' [] (fun _ : Value => True) (fun v => .tuple #[.agg #[v], .int .i64 Et]) (fun v => [row 115 6 v Lt.length (ensL Lt).flatten]) := fun w' hk h => by
    obtain ⟨hs, hp, hq⟩ := rt_ok h
    have := retimedQ_c (k := n1.toNat) (now := n0) x.kd x.tm (h1.keeps hk) hs (by omega)
    rw [Int.toNat_of_nonneg hp, ← rtE_ok h, hEt, ← rtL_ok h, hLt] at this
    exact this
  have hi0 : Ei ≠ 0 → Li = [] := fun h => hLi.symm.trans (inL_bad (by rw [hEi]; exact h))
  have hr0 : Er ≠ 0 → Lr = [] := fun h => hLr.symm.trans (rmL_bad (by rw [hEr]; exact h))
  have ht0 : Et ≠ 0 → Lt = [] := fun h => hLt.symm.trans (rtL_bad (by rw [hEt]; exact h))
  have hin : Li.length ≤ 1000 := by rw [← hLi]; exact inL_len _ _ _ _
  have hrn : Lr.length ≤ 1000 := by rw [← hLr]; exact rmL_len _ _ _
  have htn : Lt.length ≤ 1000 := by rw [← hLt]; exact rtL_len _ _ _ _ _
  refine tr_then ?_
  refine tr_seq ?_
  generalize hQ : Exit.then _ _ = Q
  suffices hk : ∀ (u0 : Value), Tr _ _ [(15, .int .i64 (Ei)), (16, .int .i64 (ccF es n0 n1 es.length)), (17, .int .i64 (rt0 es n0 n1 x.kd x.tm)), (18, .pointer (some ⟨d0, 0, none⟩)), (19, .pointer (some ⟨d1, 0, none⟩)), (20, .pointer (some ⟨d2, 0, none⟩)), (12, .int .i64 Et), (11, .pointer (some ⟨c2, 0, none⟩)), (10, .int .i64 Er), (9, .pointer (some ⟨c1, 0, none⟩)), (8, .int .i64 Ei), (7, .pointer (some ⟨c0, 0, none⟩)), (3, .pointer (some ⟨b3, 0, none⟩)), (4, .pointer (some ⟨b4, 0, none⟩)), (5, .pointer (some ⟨b5, 0, none⟩))] [blk d0 (.cells #[u0] 24), row 115 6 u0 Li.length (ensL Li).flatten, blk d1 (.cells #[.slice none 0 0] 24), blk d2 (.cells #[.slice none 0 0] 24), blk c2 (.cells #[.slice q2 Lt.length p2] 33), row 138 6 (.slice q2 Lt.length p2) Lt.length (ensL Lt).flatten, blk c1 (.cells #[.slice q1 Lr.length p1] 33), row 138 6 (.slice q1 Lr.length p1) Lr.length (ensL Lr).flatten, blk c0 (.cells #[.slice q0 Li.length p0] 33), row 138 6 (.slice q0 Li.length p0) Li.length (ensL Li).flatten, blk b3 (.cells #[.slice a1 es.length cap1] 24), blk b4 (.cells #[.int .i64 n0, .int .i64 n1] 121), blk b5 (.cells #[.string x.nm, .string x.mt, .string x.kd, .int .i64 x.tm, .int .i64 x.ln, .int .i64 x.ov] 115)] (Q .normal) by
    (refine s_r ?_; refine m_v rfl rfl ?_; refine tr_val (rk_eql (.of rfl) (.of rfl)) rfl ?_; refine n_t ?_; refine c_d rfl (fun hcd => ?_) (fun hcd => ?_); refine tr_region ?_; refine tr_val (rk_loadB (.of rfl) (.there (.there (.there (.there (.there (.there (.there (.there (.there .here))))))))) norm_ (by rfl)) rfl ?_; refine tr_val (rk_indexAddrA (.of rfl) (.of rfl) (by omega) (by omega) norm1_) rfl ?_; refine tr_val (rk_load1 (.of rfl) (At.lit (.there (.there (.there (.there (.there (.there (.there (.there (.there (.there .here)))))))))) rfl)) rfl ?_; refine tr_val (rk_indexAddrA (.of rfl) (.of rfl) (by omega) (by omega) norm1_) rfl ?_; refine tr_val (rk_load1 (.of rfl) (At.lit (.there (.there (.there (.there (.there (.there (.there (.there (.there (.there .here)))))))))) rfl)) rfl ?_; refine tr_val (rk_loadB (.of rfl) (.there (.there (.there (.there (.there (.there (.there (.there (.there (.there (.there .here))))))))))) norm_ (by rfl)) rfl ?_; rotate_left; refine tr_skip ?_; rotate_right)
    · have hcd : in0 es n0 n1 x = 0 := hcd
      with_reducible apply tr_call
      case hr => exact rk_call (.of rfl) (.cons (.of rfl) (.cons (.of rfl) (.cons (.of rfl) (.cons (.of rfl) .nil)))) inferInstance normc_
      case hd => rfl
      case ht => exact Takes.nil
      case hc =>
        intro w1 fp hm1 _ hs1
        obtain rfl : fp = [] := hs1
        exact hIq w1 hm1.keeps hcd
      intro v _
      dsimp only [id_eq, List.cons_append, List.nil_append]
      refine tr_rowSl (E := 115) (sz := 6) (by exact .here) fun ap cpp e => ?_
      subst e
      (refine m_v rfl rfl ?_; refine tr_val (rk_extract (.of rfl) rfl) rfl ?_; refine tr_val (rk_extract (.of rfl) rfl) rfl ?_; refine tr_store (.of rfl) (.of rfl) (.there (.there (.there .here))) rfl rfl (okc_cons rfl okc_nil) (lenb rfl) norm_ ?_; refine a_s rfl rfl ?_; refine tr_nil ?_)
      exact tr_cut _ _ (by exact .cons rfl (.cons rfl (.cons rfl (.cons rfl (.cons rfl (.cons rfl (.cons rfl (.cons rfl (.cons rfl (.cons rfl (.cons rfl (.cons rfl (.cons rfl (.cons rfl (.cons rfl .nil))))))))))))))) (by exact .cons .here (.cons .here (.cons (.there .here) (.cons .here (.cons .here (.cons .here (.cons .here (.cons .here (.cons .here (.cons .here (.cons .here (.cons .here (.cons .here .nil))))))))))))) (hk (.slice ap Li.length cpp))
    · have hcd : in0 es n0 n1 x ≠ 0 := hcd
      have he : in0 es n0 n1 x = Ei := (inE_bad hcd).symm.trans hEi
      have hrw : row 115 6 (.slice none 0 0) 0 [] = row 115 6 (.slice none 0 0) Li.length (ensL Li).flatten := by rw [hi0 (by rw [← he]; exact hcd)]; rfl
      rw [he]
      refine tr_rowNil 115 6 ?_
      rw [hrw]
      skip
      exact tr_cut _ _ (by exact .cons rfl (.cons rfl (.cons rfl (.cons rfl (.cons rfl (.cons rfl (.cons rfl (.cons rfl (.cons rfl (.cons rfl (.cons rfl (.cons rfl (.cons rfl (.cons rfl (.cons rfl .nil))))))))))))))) (by exact .cons (.there (.there (.there .here))) (.cons .here (.cons (.there .here) (.cons .here (.cons .here (.cons .here (.cons .here (.cons .here (.cons .here (.cons .here (.cons .here (.cons .here (.cons .here .nil))))))))))))) (hk (.slice none 0 0))
  subst hQ
  intro u0
  refine tr_then ?_
  refine tr_seq ?_
  generalize hQ : Exit.then _ _ = Q
  suffices hk : ∀ (u1 : Value), Tr _ _ [(15, .int .i64 (Ei)), (16, .int .i64 (Er)), (17, .int .i64 (rt0 es n0 n1 x.kd x.tm)), (18, .pointer (some ⟨d0, 0, none⟩)), (19, .pointer (some ⟨d1, 0, none⟩)), (20, .pointer (some ⟨d2, 0, none⟩)), (12, .int .i64 Et), (11, .pointer (some ⟨c2, 0, none⟩)), (10, .int .i64 Er), (9, .pointer (some ⟨c1, 0, none⟩)), (8, .int .i64 Ei), (7, .pointer (some ⟨c0, 0, none⟩)), (3, .pointer (some ⟨b3, 0, none⟩)), (4, .pointer (some ⟨b4, 0, none⟩)), (5, .pointer (some ⟨b5, 0, none⟩))] [blk d0 (.cells #[u0] 24), row 115 6 u0 Li.length (ensL Li).flatten, blk d1 (.cells #[u1] 24), row 115 6 u1 Lr.length (ensL Lr).flatten, blk d2 (.cells #[.slice none 0 0] 24), blk c2 (.cells #[.slice q2 Lt.length p2] 33), row 138 6 (.slice q2 Lt.length p2) Lt.length (ensL Lt).flatten, blk c1 (.cells #[.slice q1 Lr.length p1] 33), row 138 6 (.slice q1 Lr.length p1) Lr.length (ensL Lr).flatten, blk c0 (.cells #[.slice q0 Li.length p0] 33), row 138 6 (.slice q0 Li.length p0) Li.length (ensL Li).flatten, blk b3 (.cells #[.slice a1 es.length cap1] 24), blk b4 (.cells #[.int .i64 n0, .int .i64 n1] 121), blk b5 (.cells #[.string x.nm, .string x.mt, .string x.kd, .int .i64 x.tm, .int .i64 x.ln, .int .i64 x.ov] 115)] (Q .normal) by
    (refine s_r ?_; refine m_v rfl rfl ?_; refine tr_val (rk_eql (.of rfl) (.of rfl)) rfl ?_; refine n_t ?_; refine c_d rfl (fun hcd => ?_) (fun hcd => ?_); refine tr_region ?_; refine tr_val (rk_loadB (.of rfl) (.there (.there (.there (.there (.there (.there (.there (.there (.there (.there .here)))))))))) norm_ (by rfl)) rfl ?_; refine tr_val (rk_indexAddrA (.of rfl) (.of rfl) (by omega) (by omega) norm1_) rfl ?_; refine tr_val (rk_load1 (.of rfl) (At.lit (.there (.there (.there (.there (.there (.there (.there (.there (.there (.there (.there .here))))))))))) rfl)) rfl ?_; refine tr_val (rk_indexAddrA (.of rfl) (.of rfl) (by omega) (by omega) norm1_) rfl ?_; refine tr_val (rk_load1 (.of rfl) (At.lit (.there (.there (.there (.there (.there (.there (.there (.there (.there (.there (.there .here))))))))))) rfl)) rfl ?_; rotate_left; refine tr_skip ?_; rotate_right)
    · have hcd : ccF es n0 n1 es.length = 0 := hcd
      with_reducible apply tr_call
      case hr => exact rk_call (.of rfl) (.cons (.of rfl) (.cons (.of rfl) (.cons (.of rfl) .nil))) inferInstance normc_
      case hd => rfl
      case ht => exact Takes.nil
      case hc =>
        intro w1 fp hm1 _ hs1
        obtain rfl : fp = [] := hs1
        exact hRq w1 hm1.keeps hcd
      intro v _
      dsimp only [id_eq, List.cons_append, List.nil_append]
      refine tr_rowSl (E := 115) (sz := 6) (by exact .here) fun ap cpp e => ?_
      subst e
      (refine m_v rfl rfl ?_; refine tr_val (rk_extract (.of rfl) rfl) rfl ?_; refine tr_val (rk_extract (.of rfl) rfl) rfl ?_; refine tr_store (.of rfl) (.of rfl) (.there (.there (.there .here))) rfl rfl (okc_cons rfl okc_nil) (lenb rfl) norm_ ?_; refine a_s rfl rfl ?_; refine tr_nil ?_)
      exact tr_cut _ _ (by exact .cons rfl (.cons rfl (.cons rfl (.cons rfl (.cons rfl (.cons rfl (.cons rfl (.cons rfl (.cons rfl (.cons rfl (.cons rfl (.cons rfl (.cons rfl (.cons rfl (.cons rfl .nil))))))))))))))) (by exact .cons (.there (.there .here)) (.cons (.there (.there .here)) (.cons .here (.cons .here (.cons .here (.cons .here (.cons .here (.cons .here (.cons .here (.cons .here (.cons .here (.cons .here (.cons .here (.cons .here .nil)))))))))))))) (hk (.slice ap Lr.length cpp))
    · have hcd : ccF es n0 n1 es.length ≠ 0 := hcd
      have he : ccF es n0 n1 es.length = Er := (rmE_bad hcd).symm.trans hEr
      have hrw : row 115 6 (.slice none 0 0) 0 [] = row 115 6 (.slice none 0 0) Lr.length (ensL Lr).flatten := by rw [hr0 (by rw [← he]; exact hcd)]; rfl
      rw [he]
      refine tr_rowNil 115 6 ?_
      rw [hrw]
      skip
      exact tr_cut _ _ (by exact .cons rfl (.cons rfl (.cons rfl (.cons rfl (.cons rfl (.cons rfl (.cons rfl (.cons rfl (.cons rfl (.cons rfl (.cons rfl (.cons rfl (.cons rfl (.cons rfl (.cons rfl .nil))))))))))))))) (by exact .cons (.there .here) (.cons (.there .here) (.cons (.there .here) (.cons .here (.cons .here (.cons .here (.cons .here (.cons .here (.cons .here (.cons .here (.cons .here (.cons .here (.cons .here (.cons .here .nil)))))))))))))) (hk (.slice none 0 0))
  subst hQ
  intro u1
  refine tr_then ?_
  refine tr_seq ?_
  generalize hQ : Exit.then _ _ = Q
  suffices hk : ∀ (u2 : Value), Tr _ _ [(15, .int .i64 (Ei)), (16, .int .i64 (Er)), (17, .int .i64 (Et)), (18, .pointer (some ⟨d0, 0, none⟩)), (19, .pointer (some ⟨d1, 0, none⟩)), (20, .pointer (some ⟨d2, 0, none⟩)), (12, .int .i64 Et), (11, .pointer (some ⟨c2, 0, none⟩)), (10, .int .i64 Er), (9, .pointer (some ⟨c1, 0, none⟩)), (8, .int .i64 Ei), (7, .pointer (some ⟨c0, 0, none⟩)), (3, .pointer (some ⟨b3, 0, none⟩)), (4, .pointer (some ⟨b4, 0, none⟩)), (5, .pointer (some ⟨b5, 0, none⟩))] [blk d0 (.cells #[u0] 24), row 115 6 u0 Li.length (ensL Li).flatten, blk d1 (.cells #[u1] 24), row 115 6 u1 Lr.length (ensL Lr).flatten, blk d2 (.cells #[u2] 24), row 115 6 u2 Lt.length (ensL Lt).flatten, blk c2 (.cells #[.slice q2 Lt.length p2] 33), row 138 6 (.slice q2 Lt.length p2) Lt.length (ensL Lt).flatten, blk c1 (.cells #[.slice q1 Lr.length p1] 33), row 138 6 (.slice q1 Lr.length p1) Lr.length (ensL Lr).flatten, blk c0 (.cells #[.slice q0 Li.length p0] 33), row 138 6 (.slice q0 Li.length p0) Li.length (ensL Li).flatten, blk b3 (.cells #[.slice a1 es.length cap1] 24), blk b4 (.cells #[.int .i64 n0, .int .i64 n1] 121), blk b5 (.cells #[.string x.nm, .string x.mt, .string x.kd, .int .i64 x.tm, .int .i64 x.ln, .int .i64 x.ov] 115)] (Q .normal) by
    (refine s_r ?_; refine m_v rfl rfl ?_; refine tr_val (rk_eql (.of rfl) (.of rfl)) rfl ?_; refine n_t ?_; refine c_d rfl (fun hcd => ?_) (fun hcd => ?_); refine tr_region ?_; refine tr_val (rk_loadB (.of rfl) (.there (.there (.there (.there (.there (.there (.there (.there (.there (.there (.there .here))))))))))) norm_ (by rfl)) rfl ?_; refine tr_val (rk_indexAddrA (.of rfl) (.of rfl) (by omega) (by omega) norm1_) rfl ?_; refine tr_val (rk_load1 (.of rfl) (At.lit (.there (.there (.there (.there (.there (.there (.there (.there (.there (.there (.there (.there .here)))))))))))) rfl)) rfl ?_; refine tr_val (rk_indexAddrA (.of rfl) (.of rfl) (by omega) (by omega) norm1_) rfl ?_; refine tr_val (rk_load1 (.of rfl) (At.lit (.there (.there (.there (.there (.there (.there (.there (.there (.there (.there (.there (.there .here)))))))))))) rfl)) rfl ?_; refine f_a rfl rfl norm0_ ?_; refine tr_val (rk_loadB (.of rfl) (.there (.there (.there (.there (.there (.there (.there (.there (.there (.there (.there (.there (.there .here))))))))))))) norm_ (by rfl)) rfl ?_; rotate_left; refine tr_skip ?_; rotate_right)
    · have hcd : rt0 es n0 n1 x.kd x.tm = 0 := hcd
      with_reducible apply tr_call
      case hr => exact rk_call (.of rfl) (.cons (.of rfl) (.cons (.of rfl) (.cons (.of rfl) (.cons (.of rfl) .nil)))) inferInstance normc_
      case hd => rfl
      case ht => exact Takes.nil
      case hc =>
        intro w1 fp hm1 _ hs1
        obtain rfl : fp = [] := hs1
        exact hTq w1 hm1.keeps hcd
      intro v _
      dsimp only [id_eq, List.cons_append, List.nil_append]
      refine tr_rowSl (E := 115) (sz := 6) (by exact .here) fun ap cpp e => ?_
      subst e
      (refine m_v rfl rfl ?_; refine tr_val (rk_extract (.of rfl) rfl) rfl ?_; refine tr_val (rk_extract (.of rfl) rfl) rfl ?_; refine tr_store (.of rfl) (.of rfl) (.there (.there (.there (.there (.there .here))))) rfl rfl (okc_cons rfl okc_nil) (lenb rfl) norm_ ?_; refine a_s rfl rfl ?_; refine tr_nil ?_)
      exact tr_cut _ _ (by exact .cons rfl (.cons rfl (.cons rfl (.cons rfl (.cons rfl (.cons rfl (.cons rfl (.cons rfl (.cons rfl (.cons rfl (.cons rfl (.cons rfl (.cons rfl (.cons rfl (.cons rfl .nil))))))))))))))) (by exact .cons (.there (.there .here)) (.cons (.there (.there .here)) (.cons (.there (.there .here)) (.cons (.there (.there .here)) (.cons .here (.cons .here (.cons .here (.cons .here (.cons .here (.cons .here (.cons .here (.cons .here (.cons .here (.cons .here (.cons .here .nil))))))))))))))) (hk (.slice ap Lt.length cpp))
    · have hcd : rt0 es n0 n1 x.kd x.tm ≠ 0 := hcd
      have he : rt0 es n0 n1 x.kd x.tm = Et := (rtE_bad hcd).symm.trans hEt
      have hrw : row 115 6 (.slice none 0 0) 0 [] = row 115 6 (.slice none 0 0) Lt.length (ensL Lt).flatten := by rw [ht0 (by rw [← he]; exact hcd)]; rfl
      rw [he]
      refine tr_rowNil 115 6 ?_
      rw [hrw]
      skip
      exact tr_cut _ _ (by exact .cons rfl (.cons rfl (.cons rfl (.cons rfl (.cons rfl (.cons rfl (.cons rfl (.cons rfl (.cons rfl (.cons rfl (.cons rfl (.cons rfl (.cons rfl (.cons rfl (.cons rfl .nil))))))))))))))) (by exact .cons (.there .here) (.cons (.there .here) (.cons (.there .here) (.cons (.there .here) (.cons (.there .here) (.cons .here (.cons .here (.cons .here (.cons .here (.cons .here (.cons .here (.cons .here (.cons .here (.cons .here (.cons .here .nil))))))))))))))) (hk (.slice none 0 0))
  subst hQ
  intro u2
  (refine tr_then ?_; refine s_r ?_; refine tr_val (rk_loadB (.of rfl) (.there (.there (.there (.there (.there (.there (.there (.there (.there (.there .here)))))))))) norm_ (by rfl)) rfl ?_; refine m_v rfl rfl ?_; refine m_v rfl rfl ?_; refine tr_val (rk_loadB (.of rfl) .here norm_ (by rfl)) rfl ?_)
  with_reducible apply tr_callV
  case hr => exact rk_call (.of rfl) (.cons (.of rfl) (.cons (.of rfl) (.cons (.of rfl) (.cons (.of rfl) .nil)))) inferInstance normc_
  case hd => rfl
  case hc =>
    intro w' hm'
    exact changed_t (rdEnF (n := Li.length) hm' (E := 138) (by exact Take.there (.there (.there (.there (.there (.there (.there (.there (.there (.there (.there .here))))))))))) rfl) (rdEnF (n := Li.length) hm' (E := 115) (by exact Take.there .here) rfl) hin hi0 (fun _ => rfl)
  (refine m_v rfl rfl ?_; refine tr_gOn rfl rfl ?_; refine tr_val (rk_loadB (.of rfl) (.there (.there (.there (.there (.there (.there (.there (.there .here)))))))) norm_ (by rfl)) rfl ?_; refine tr_gOn rfl rfl ?_; refine m_v rfl rfl ?_; refine tr_gOn rfl rfl ?_; refine m_v rfl rfl ?_; refine tr_gOn rfl rfl ?_; refine tr_val (rk_loadB (.of rfl) (.there (.there .here)) norm_ (by rfl)) rfl ?_; refine tr_gOn rfl rfl ?_)
  with_reducible apply tr_callV
  case hr => exact rk_call (.of rfl) (.cons (.of rfl) (.cons (.of rfl) (.cons (.of rfl) (.cons (.of rfl) .nil)))) inferInstance normc_
  case hd => rfl
  case hc =>
    intro w' hm'
    exact changed_t (rdEnF (n := Lr.length) hm' (E := 138) (by exact Take.there (.there (.there (.there (.there (.there (.there (.there (.there .here))))))))) rfl) (rdEnF (n := Lr.length) hm' (E := 115) (by exact Take.there (.there (.there .here))) rfl) hrn hr0 (fun _ => rfl)
  (refine tr_val (rk_pickB (.of rfl) (.of rfl) (.of rfl) rfl) rfl ?_; refine m_v rfl rfl ?_; refine tr_gOn rfl rfl ?_; refine tr_val (rk_loadB (.of rfl) (.there (.there (.there (.there (.there (.there .here)))))) norm_ (by rfl)) rfl ?_; refine tr_gOn rfl rfl ?_; refine m_v rfl rfl ?_; refine tr_gOn rfl rfl ?_; refine m_v rfl rfl ?_; refine tr_gOn rfl rfl ?_; refine tr_val (rk_loadB (.of rfl) (.there (.there (.there (.there .here)))) norm_ (by rfl)) rfl ?_; refine tr_gOn rfl rfl ?_)
  with_reducible apply tr_callV
  case hr => exact rk_call (.of rfl) (.cons (.of rfl) (.cons (.of rfl) (.cons (.of rfl) (.cons (.of rfl) .nil)))) inferInstance normc_
  case hd => rfl
  case hc =>
    intro w' hm'
    exact changed_t (rdEnF (n := Lt.length) hm' (E := 138) (by exact Take.there (.there (.there (.there (.there (.there (.there .here))))))) rfl) (rdEnF (n := Lt.length) hm' (E := 115) (by exact Take.there (.there (.there (.there (.there .here))))) rfl) htn ht0 (fun _ => rfl)
  (refine tr_val (rk_pickB (.of rfl) (.of rfl) (.of rfl) rfl) rfl ?_; refine a_s rfl rfl ?_; refine n_t ?_; refine tr_ret ?_; refine tr_retE rfl (ends1 rfl rfl) ?_)
  rfl
end Go.Proofs.A1

