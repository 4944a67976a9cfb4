/- Part of the proof: C1. -/
import Derived.Test.YtahcjhdepdhipaaC1p
import Derived.Test.YtahcjhdepdhipaaGkFin
set_option linter.unusedSectionVars false
set_option linter.unusedVariables false
set_option linter.unusedSimpArgs false
namespace Go.Proofs.A1
open Go Go.SL

set_option maxHeartbeats 4000000 in
theorem long_c {nv ev : Value} {ns : List ByteArray} {es : List Ed} {V f : Nat} {w : World} (h1 : Rd w nv 1 (strs ns)) (h2 : Rd w ev 4 (edgesL es)) (hV : ns.length = V) (g : Good V es) (hE : es.length ≤ 24) (hf : f < V) :
    Gives Try.prog 18 [.agg #[nv, ev], .int .i64 f] w [] (fun _ : Nat => True) (fun b => .tuple #[.slice (some ⟨b, 0, none⟩) V V, .int .i64 (grewV (longest (lvs es V) V f).2), .bool (longest (lvs es V) V f).2.isSome])
      (fun b => [blk b (.cells (tab V (seenL (longest (lvs es V) V f).1)).toArray 61 (0, 0))]) := by
  have hV4 := g.most
  have hbd : ∀ e ∈ es, -100000 ≤ e.hi ∧ e.hi ≤ 100000 := fun e he => by have := g.ed e he; omega
  have h1' := h1
  have h2' := h2
  obtain ⟨a, cap, b, o, rfl, hcap, hmax, ha, hc⟩ := h1
  obtain ⟨a2, cap2, bb2, oo2, rfl, hcap2, hmax2, ha2, hc2⟩ := h2
  rw [strs_length] at *
  rw [edgesL_length] at *
  unfold maxLen at hmax hmax2
  subst hV
  refine gives_of_tr Try.func18 rfl rfl ?_
  (refine tr_seq ?_; refine tr_region ?_; refine tr_new (rk_box (Is.of rfl) rfl) rfl (fun _ _ => ?_); refine tr_val (rk_assign (Is.of rfl)) rfl ?_; refine tr_val (rk_assign (Is.of rfl)) rfl ?_; refine tr_val (rk_assign (Is.of rfl)) rfl ?_; refine tr_nil ?_; refine tr_then ?_; refine tr_seq ?_; refine tr_region ?_; refine tr_val (rk_fieldAddr (Is.of rfl) norm0_) rfl ?_; refine tr_val (rk_load1 (Is.of rfl) (At.lit Take.here rfl)) rfl ?_; refine tr_val (rk_len_slice (Is.of rfl)) rfl ?_)
  with_reducible apply tr_new
  case hr =>
    with_reducible apply rk_make
    case hx => exact Is.of rfl
    case hy => exact Is.of rfl
    case hl => omega
    case hb => omega
    case hz => rfl
    case hsz => rfl
    case h63 => omega
  case hd => rfl
  intro bg hbg
  rw [show (List.replicate ns.length (Value.agg #[.int .i64 0, .bool false, .int .i64 0, .int .i64 0, .bool false]).cells.toList).flatten = tab ns.length (fun _ => [.int .i64 0, .bool false, .int .i64 0, .int .i64 0, .bool false]) from rep_tab _ _]
  have hst := out_start ns.length f hf
  have hsl : f * 5 + 4 + 1 ≤ (tab ns.length fun _ => [Value.int .i64 0, .bool false, .int .i64 0, .int .i64 0, .bool false]).length := by rw [tab_length (sz := 5) (fun _ _ => rfl)]; omega
  (refine tr_new (rk_alloc rfl) rfl (fun _ _ => ?_); refine tr_store (Is.of rfl) (Is.of rfl) Take.here rfl rfl (okc_cons rfl okc_nil) (lenb rfl) norm_ ?_; refine tr_nil ?_; refine tr_then ?_; refine tr_seq ?_; refine tr_region ?_; refine tr_val (rk_load1 (Is.of rfl) (At.lit Take.here rfl)) rfl ?_; refine tr_val (rk_move (Is.of rfl)) rfl ?_; refine tr_val (rk_indexAddr (Is.of rfl) (Is.of rfl) rfl (by omega) (by omega) norm1_) rfl ?_; refine tr_val (rk_fieldAddr (Is.of rfl) norm0_) rfl ?_; refine tr_store (Is.of rfl) (Is.of rfl) (Take.there Take.here) rfl rfl (okc_cons rfl okc_nil) hsl hst ?_; refine tr_nil ?_; refine tr_then ?_; refine tr_seq ?_; refine tr_region ?_; refine tr_new (rk_alloc rfl) rfl (fun _ _ => ?_); refine tr_store (Is.of rfl) (Is.of rfl) Take.here rfl rfl (okc_cons rfl okc_nil) (lenb rfl) norm_ ?_; refine tr_nil ?_; refine tr_then ?_; refine tr_seq ?_; refine tr_seq ?_; refine tr_region ?_; refine tr_val (rk_fieldAddr (Is.of rfl) norm0_) rfl ?_; refine tr_val (rk_load1 (Is.of rfl) (At.lit (Take.there (Take.there (Take.there Take.here))) rfl)) rfl ?_; refine tr_val (rk_len_slice (Is.of rfl)) rfl ?_; refine tr_val (rk_add (Is.of rfl) (Is.of rfl) (ini (by omega))) rfl ?_; refine tr_val (rk_move (Is.of rfl)) rfl ?_; refine tr_nil ?_; refine tr_then ?_; refine tr_block ?_)
  rename_i b2 hb2 b7 hb7 b8 hb8
  generalize hL : lvs es ns.length = L
  have hrds : ∀ ρ : Nat, Bd (rounds L ns.length f ρ).1 (5000 * ρ) := fun ρ => hL ▸ Bd.rounds g hE ρ
  refine tr_forD (fun ρ : Nat => ρ ≤ ns.length + 1) (fun ρ => [(25, .int .i64 ρ), (24, .int .i64 (ns.length + 1)), (2, .pointer (some ⟨b2, 0, none⟩)), (7, .pointer (some ⟨b7, 0, none⟩)), (8, .pointer (some ⟨b8, 0, none⟩))])
    (fun ρ => [blk b8 (.cells #[.int .i64 (grewV (rounds L ns.length f ρ).2)] 3 (0, 0)), blk bg (.cells (tab ns.length (seenL (rounds L ns.length f ρ).1)).toArray 61 (0, 0)), blk b7 (.cells #[.slice (some ⟨bg, 0, none⟩) ns.length ns.length] 54 (0, 0)), blk b2 (.cells #[.slice a ns.length cap, .slice a2 es.length cap2] 37 (0, 0))]) (fun ρ => ns.length + 1 - ρ) ?_ ?_
  · apply tr_startD 0 (by omega)
    case hs1 => exact Subs.cons rfl (Subs.cons rfl (Subs.cons rfl (Subs.cons rfl (Subs.cons rfl Subs.nil))))
    case ht =>
      show Takes _ [blk b8 (.cells #[.int .i64 (-1)] 3 (0, 0)), blk bg (.cells (tab ns.length (seenL (start f))).toArray 61 (0, 0)), _, _] _
      exact Takes.cons Take.here (Takes.cons Take.here (Takes.cons Take.here (Takes.cons Take.here Takes.nil)))
  intro ρ hρ D
  by_cases hlt : ρ < ns.length + 1
  · (refine tr_seq ?_; refine tr_region ?_; refine tr_val (rk_lss (Is.of rfl) (Is.of rfl)) rfl ?_; refine tr_nil ?_; refine tr_then ?_; refine tr_seq ?_; refine tr_cond_d (Is.of rfl) (fun hcd => ?_) (fun hcd => (by omega)); refine tr_skip ?_; refine tr_then ?_; refine tr_seq ?_; refine tr_block ?_; refine tr_seq ?_; refine tr_region ?_; refine tr_store (Is.of rfl) (Is.of rfl) Take.here rfl rfl (okc_cons rfl okc_nil) (lenb rfl) norm_ ?_; refine tr_nil ?_; refine tr_then ?_; refine tr_seq ?_; refine tr_region ?_; refine tr_val (rk_fieldAddr (Is.of rfl) norm0_) rfl ?_; refine tr_val (rk_load1 (Is.of rfl) (At.lit (Take.there (Take.there (Take.there Take.here))) rfl)) rfl ?_; refine tr_val (rk_len_slice (Is.of rfl)) rfl ?_; refine tr_val (rk_move (Is.of rfl)) rfl ?_; refine tr_nil ?_; refine tr_then ?_; refine tr_block ?_)
    generalize hs0 : (rounds L ns.length f ρ).1 = s0
    have hbd0 : Bd s0 (5000 * ρ) := hs0 ▸ hrds ρ
    have hbi : ∀ i : Nat, Bd (nodes L (ρ + 1) i s0).1 (5000 * ρ + 1000 * i) := fun i => hL ▸ Bd.nodes g hE hbd0 i
    refine tr_forD (fun i : Nat => i ≤ ns.length) (fun i => [(30, .int .i64 i), (29, .int .i64 ns.length), (25, .int .i64 ρ), (24, .int .i64 (ns.length + 1)), (2, .pointer (some ⟨b2, 0, none⟩)), (7, .pointer (some ⟨b7, 0, none⟩)), (8, .pointer (some ⟨b8, 0, none⟩))])
      (fun i => [blk b8 (.cells #[.int .i64 (grewV (nodes L (ρ + 1) i s0).2)] 3 (0, 0)), blk bg (.cells (tab ns.length (seenL (nodes L (ρ + 1) i s0).1)).toArray 61 (0, 0)), blk b7 (.cells #[.slice (some ⟨bg, 0, none⟩) ns.length ns.length] 54 (0, 0)), blk b2 (.cells #[.slice a ns.length cap, .slice a2 es.length cap2] 37 (0, 0))]) (fun i => ns.length - i) ?_ ?_
    · apply tr_startD 0 (by omega)
      case hs1 => exact Subs.cons rfl (Subs.cons rfl (Subs.cons rfl (Subs.cons rfl (Subs.cons rfl (Subs.cons rfl (Subs.cons rfl Subs.nil))))))
      case ht =>
        show Takes _ [blk b8 (.cells #[.int .i64 (-1)] 3 (0, 0)), blk bg (.cells (tab ns.length (seenL s0)).toArray 61 (0, 0)), _, _] _
        exact Takes.cons Take.here (Takes.cons Take.here (Takes.cons Take.here (Takes.cons Take.here Takes.nil)))
    intro i hi D
    by_cases hli : i < ns.length
    · generalize hq0 : nodes L (ρ + 1) i s0 = q0
      have hbq : Bd q0.1 (5000 * ρ + 1000 * i) := hq0 ▸ hbi i
      have hr4 := (out_get q0.1 hli (j := 4) (by omega)).trans (seenL_4 q0.1 i)
      have hnext : nodes L (ρ + 1) (i + 1) s0 = (L i).foldl (relax (ρ + 1)) q0 := by rw [nodes, hq0]; rfl
      (refine tr_seq ?_; refine tr_region ?_; refine tr_val (rk_lss (Is.of rfl) (Is.of rfl)) rfl ?_; refine tr_nil ?_; refine tr_then ?_; refine tr_seq ?_; refine tr_cond_d (Is.of rfl) (fun hcd => ?_) (fun hcd => (by omega)); refine tr_skip ?_; refine tr_then ?_; refine tr_seq ?_; refine tr_block ?_; refine tr_seq ?_; refine tr_region ?_; refine tr_val (rk_move (Is.of rfl)) rfl ?_; refine tr_new (rk_alloc rfl) rfl (fun _ _ => ?_); refine tr_store (Is.of rfl) (Is.of rfl) Take.here rfl rfl (okc_cons rfl okc_nil) (lenb rfl) norm_ ?_; refine tr_nil ?_; refine tr_then ?_; refine tr_seq ?_; refine tr_seq ?_; refine tr_region ?_; refine tr_val (rk_load1 (Is.of rfl) (At.lit (Take.there (Take.there (Take.there Take.here))) rfl)) rfl ?_; refine tr_val (rk_load1 (Is.of rfl) (At.lit Take.here rfl)) rfl ?_; refine tr_val (rk_indexAddr (Is.of rfl) (Is.of rfl) rfl (by omega) hcd norm1_) rfl ?_; refine tr_val (rk_fieldAddr (Is.of rfl) norm0_) rfl ?_; refine tr_val (rk_load1 (Is.of rfl) (At.blkL (Take.there (Take.there Take.here)) hr4)) rfl ?_; refine tr_val (rk_not (Is.of rfl)) rfl ?_; refine tr_nil ?_; refine tr_then ?_; refine tr_condB (Is.of rfl) inferInstance (fun hcd => ?_) (fun hcd => ?_); refine tr_exit ?_; refine tr_then_exit ?_; refine tr_blk_exit ?_; refine tr_then ?_; refine tr_region ?_; refine tr_val (rk_add (Is.of rfl) (Is.of rfl) (ini (by omega))) rfl ?_; refine tr_val (rk_move (Is.of rfl)) rfl ?_; refine tr_nil ?_; refine tr_then ?_; rotate_left; refine tr_skip ?_; refine tr_then ?_; refine tr_seq ?_; refine tr_region ?_; refine tr_val (rk_loadB (Is.of rfl) (Take.there (Take.there (Take.there (Take.there Take.here)))) norm_ (by rfl)) rfl ?_; refine tr_val (rk_load1 (Is.of rfl) (At.lit Take.here rfl)) rfl ?_; rotate_right)
      · have hnone : q0.1.lab i = none := by simpa using hcd
        rw [fold_none (u := i) (fun a ha => by subst hL; exact (arc_facts g ha).1) hnone] at hnext
        apply tr_nextD (i + 1) (by omega) (by omega)
        case hs1 => exact Subs.cons rfl (Subs.cons rfl (Subs.cons rfl (Subs.cons rfl (Subs.cons rfl (Subs.cons rfl (Subs.cons rfl Subs.nil))))))
        case ht =>
          rw [hnext]
          exact Takes.cons (Take.there Take.here) (Takes.cons (Take.there Take.here) (Takes.cons (Take.there Take.here) (Takes.cons (Take.there Take.here) Takes.nil)))
      · rename_i b9 hb9
        have hsome : (q0.1.lab i).isSome = true := by simpa using hcd
        with_reducible apply tr_call
        case hr => exact rk_call (Is.of rfl) (Iss.cons (Is.of rfl) (Iss.cons (Is.of rfl) Iss.nil)) inferInstance normc_
        case hd => rfl
        case ht => exact Takes.nil
        case hc =>
          intro w1 fp hm1 _ hs1
          obtain rfl : fp = [] := hs1
          exact leaving_c _ _ _ _ rfl rfl
        rintro ⟨x1, x2⟩ _
        dsimp only [List.cons_append, List.nil_append]
        (refine tr_nil ?_; refine tr_then ?_; refine tr_block ?_)
        refine tr_rangeSeq (ps := [42]) (f := 39) (first := []) (cap := [.pointer (some ⟨x1, 0, none⟩), .pointer (some ⟨x2, 0, none⟩)]) (ι := S × Option Nat) (κ := Empty) (rst := []) ?hg
          [blk x1 (.cells #[.slice a ns.length cap, .slice a2 es.length cap2] 37 (0, 0)), blk x2 (.cells #[.int .i64 i] 3 (0, 0))] ((L i).map arcI) ?hit (fun k q => q = ((L i).take k).foldl (relax (ρ + 1)) q0)
          (fun q => [blk b9 (.cells #[.int .i64 i] 3 (0, 0)), blk b8 (.cells #[.int .i64 (grewV q.2)] 3 (0, 0)), blk bg (.cells (tab ns.length (seenL q.1)).toArray 61 (0, 0)), blk b7 (.cells #[.slice (some ⟨bg, 0, none⟩) ns.length ns.length] 54 (0, 0)), blk b2 (.cells #[.slice a ns.length cap, .slice a2 es.length cap2] 37 (0, 0))])
          (fun _ => False) (fun _ => []) (fun _ => .ret) q0 rfl ?ht ?hlen ?hps ?round ?kn ?kj
        case hg => exact Is.of rfl
        case hit => intro w' hm'; exact hL ▸ iter39 h1' h2' rfl (fun e he => by have := g.ed e he; omega) (Out.nil _ _) (Out.nil _ _)
        case ht =>
          simp only [List.cons_append, List.nil_append]
          exact Takes.cons (Take.there (Take.there Take.here)) (Takes.cons (Take.there (Take.there Take.here)) (Takes.cons (Take.there (Take.there Take.here)) (Takes.cons (Take.there (Take.there Take.here)) (Takes.cons (Take.there (Take.there Take.here)) (Takes.cons Take.here (Takes.cons Take.here Takes.nil))))))
        case hlen => intro vs hvs; obtain ⟨x, _, rfl⟩ := List.mem_map.1 hvs; rfl
        case hps => intro t ht; simp only [List.mem_singleton] at ht; subst ht; exact Nat.le_of_ble_eq_true rfl
        case kj => intro y; cases y
        case kn =>
          intro q D hq
          dsimp only [List.cons_append, List.nil_append]
          rw [List.length_map, List.take_length] at hq
          subst hq
          (refine tr_blk_normal ?_; refine tr_blk_normal ?_; refine tr_then ?_; refine tr_region ?_; refine tr_val (rk_add (Is.of rfl) (Is.of rfl) (ini (by omega))) rfl ?_; refine tr_val (rk_move (Is.of rfl)) rfl ?_; refine tr_nil ?_; refine tr_then ?_)
          apply tr_nextD (i + 1) (by omega) (by omega)
          case hs1 => exact Subs.cons rfl (Subs.cons rfl (Subs.cons rfl (Subs.cons rfl (Subs.cons rfl (Subs.cons rfl (Subs.cons rfl Subs.nil))))))
          case ht =>
            rw [hnext]
            exact Takes.cons (Take.there Take.here) (Takes.cons (Take.there Take.here) (Takes.cons (Take.there Take.here) (Takes.cons (Take.there Take.here) Takes.nil)))
        case round =>
          intro l rc W fp k q vs hsz hk hq hB hF
          rw [List.getElem?_map, Option.map_eq_some_iff] at hk
          obtain ⟨x, hk, rfl⟩ := hk
          have hmem : x ∈ lvs es ns.length i := hL ▸ List.mem_of_getElem? hk
          obtain ⟨hu, hv, hid, hends, hbound⟩ := arc_facts g hmem
          have hw4 := g.w4 hmem
          have hrdW := h2'.keepsN (Out.nil _ _) hB
          have hoW := h2'.out (by omega) (Out.nil _ _) hF
          have hk52 : k < 52 := by
            have h1 := (List.getElem?_eq_some_iff.1 hk).1
            have h2 := lvs_len (u := i) hE hV4
            rw [hL] at h2; omega
          have hbk : Bd q.1 (5000 * ρ + 1000 * i + 4 * ((L i).take k).length) := by
            subst hq
            exact Bd.fold hbq (fun b hb => by
              have hb' : b ∈ lvs es ns.length i := hL ▸ List.mem_of_mem_take hb
              have := g.w4 hb'; omega)
          have htk : ((L i).take k).length ≤ k := by simp; omega
          obtain ⟨y, hy⟩ := Option.isSome_iff_exists.1 (show (q.1.lab i).isSome = true by subst hq; exact fold_some hsome)
          have hyb := hbk _ _ hy
          have hri := (out_get q.1 hli (j := 3) (by omega)).trans (seenL_3 q.1 i)
          rw [hy, Option.getD_some] at hri
          have hr3 := (out_get q.1 hv (j := 3) (by omega)).trans (seenL_3 q.1 x.v)
          have hr4 := (out_get q.1 hv (j := 4) (by omega)).trans (seenL_4 q.1 x.v)
          have hst := out_grown (ρ + 1) y q.1 hv
          have hsl : x.v * 5 + 5 ≤ (tab ns.length (seenL q.1)).length := by rw [tab_length (sz := 5) (fun i _ => seenL_length _ i)]; omega
          have hnx := fold_take (r := ρ + 1) (q := q0) hk
          rw [← hq] at hnx
          have hrel : relax (ρ + 1) q x = if grows q.1 x y then (grown (ρ + 1) x y q.1, some x.v) else q := by simp [relax, hu, hy]
          clear hq
          have hbw : -4 ≤ boundF es x.id.1 x.id.2.1 ∧ boundF es x.id.1 x.id.2.1 ≤ 4 := by rw [hbound]; omega
          obtain ⟨hbw1, hbw2⟩ := hbw
          dsimp only [List.zip_cons_cons, List.zip_nil_right, putAll, arcI, arcL, List.cons_append, List.nil_append] at hst ⊢
          (refine tr_region ?_; refine tr_new (rk_alloc rfl) rfl (fun _ _ => ?_); refine tr_store (Is.of rfl) (Is.of rfl) Take.here rfl rfl (okc_cons rfl (okc_cons rfl (okc_cons rfl okc_nil))) (lenb rfl) norm_ ?_; refine tr_nil ?_; refine tr_then ?_)
          with_reducible apply tr_begin
          case ht => exact Take.there Take.here
          (refine tr_block ?_; refine tr_seq ?_)
          with_reducible refine tr_draw 15 (by kernel_rfl) ?_
          (refine any_val (rk_loadB (Is.of rfl) (Take.there (Take.there (Take.there (Take.there (Take.there (Take.there Take.here)))))) norm_ (by rfl)) rfl ?_; refine any_val (rk_loadB (Is.of rfl) (Take.there Take.here) norm_ (by rfl)) rfl ?_; refine any_call (rk_call (Is.of rfl) (Iss.cons (Is.of rfl) (Iss.cons (Is.of rfl) Iss.nil)) inferInstance normc_) rfl (fun w' hm' => (ends_c _ _ es _ _ _ w' (Rd.keepsN hrdW hoW (Mem.keeps hm')) hid)) ?_; refine any_val (rk_index (Is.of rfl) (Is.of rfl) (by omega) (by omega) norm_) rfl ?_; refine any_val (rk_load1 (Is.of rfl) (At.lit (Take.there (Take.there (Take.there (Take.there (Take.there Take.here))))) rfl)) rfl ?_; refine any_val (rk_load1 (Is.of rfl) (At.lit (Take.there (Take.there Take.here)) rfl)) rfl ?_; refine any_val (rk_indexAddr (Is.of rfl) (Is.of rfl) rfl (by omega) (by assumption) norm1_) rfl ?_; refine any_val (rk_fieldAddr (Is.of rfl) norm0_) rfl ?_; refine any_val (rk_load1 (Is.of rfl) (At.blkL (Take.there (Take.there (Take.there (Take.there Take.here)))) hri)) rfl ?_; refine any_val (rk_loadB (Is.of rfl) (Take.there (Take.there (Take.there (Take.there (Take.there (Take.there Take.here)))))) norm_ (by rfl)) rfl ?_; refine any_val (rk_loadB (Is.of rfl) (Take.there Take.here) norm_ (by rfl)) rfl ?_; refine any_call (rk_call (Is.of rfl) (Iss.cons (Is.of rfl) (Iss.cons (Is.of rfl) Iss.nil)) inferInstance normc_) rfl (fun w' hm' => (bound_c _ _ es _ _ _ w' (Rd.keepsN hrdW hoW (Mem.keeps hm')) hid hbd)) ?_; refine any_val (rk_add (Is.of rfl) (Is.of rfl) (ini (by omega))) rfl ?_; refine any_val (rk_assign (Is.of rfl)) rfl ?_; refine any_val (rk_assign (Is.of rfl)) rfl ?_)
          simp only [hends, hbound]
          with_reducible refine any_end ?_
          (refine tr_nil ?_; refine tr_then ?_; refine tr_seq ?_; refine tr_region ?_; refine tr_val (rk_load1 (Is.of rfl) (At.lit (Take.there (Take.there (Take.there (Take.there (Take.there Take.here))))) rfl)) rfl ?_; refine tr_val (rk_move (Is.of rfl)) rfl ?_; refine tr_val (rk_indexAddr (Is.of rfl) (Is.of rfl) rfl (by omega) (by omega) norm1_) rfl ?_; refine tr_val (rk_fieldAddr (Is.of rfl) norm0_) rfl ?_; refine tr_val (rk_load1 (Is.of rfl) (At.blkL (Take.there (Take.there (Take.there (Take.there Take.here)))) hr4)) rfl ?_; refine tr_val (rk_not (Is.of rfl)) rfl ?_; refine tr_val (rk_move (Is.of rfl)) rfl ?_; refine tr_vG1 rfl rfl inferInstance (fun hg hgp => (rk_move (Is.of rfl))) rfl ?_; refine tr_vG1 rfl rfl inferInstance (fun hg hgp => (rk_load1 (Is.of rfl) (At.lit (Take.there (Take.there (Take.there (Take.there (Take.there Take.here))))) rfl))) rfl ?_; refine tr_vG1 rfl rfl inferInstance (fun hg hgp => (rk_move (Is.of rfl))) rfl ?_; refine tr_vG1 rfl rfl inferInstance (fun hg hgp => (rk_indexAddr (Is.ofg hg rfl) (Is.ofg hg rfl) rfl (by omega) (by omega) norm1_)) rfl ?_; refine tr_vG1 rfl rfl inferInstance (fun hg hgp => (rk_fieldAddr (Is.ofg hg rfl) norm0_)) rfl ?_; refine tr_vG1 rfl rfl inferInstance (fun hg hgp => (rk_load1 (Is.ofg hg rfl) (At.blkL (Take.there (Take.there (Take.there (Take.there Take.here)))) hr3))) rfl ?_; refine tr_vG1 rfl rfl inferInstance (fun hg hgp => (rk_gtr (Is.ofg hg rfl) (Is.ofg hg rfl))) rfl ?_; refine tr_val (rk_pick_or (Is.of rfl) rfl) rfl ?_; refine tr_nil ?_; refine tr_then ?_; refine tr_condB (Is.of rfl) inferInstance (fun hcd => ?_) (fun hcd => ?_); refine tr_seq ?_; refine tr_region ?_; refine tr_val (rk_load1 (Is.of rfl) (At.lit (Take.there (Take.there (Take.there (Take.there (Take.there Take.here))))) rfl)) rfl ?_; refine tr_val (rk_move (Is.of rfl)) rfl ?_; refine tr_val (rk_loadB (Is.of rfl) (Take.there Take.here) norm_ (by rfl)) rfl ?_; refine tr_val (rk_move (Is.of rfl)) rfl ?_; refine tr_val (rk_buildL (Parts.cons (Is.of rfl) (Parts.cons (Is.of rfl) (Parts.cons (Is.of rfl) Parts.nil))) norm_) rfl ?_; refine tr_val (rk_indexAddr (Is.of rfl) (Is.of rfl) rfl (by omega) (by omega) norm1_) rfl ?_; refine tr_store (Is.of rfl) (Is.of rfl) (Take.there (Take.there (Take.there (Take.there Take.here)))) rfl rfl (okc_cons rfl (okc_cons rfl (okc_cons rfl (okc_cons rfl (okc_cons rfl okc_nil))))) hsl hst ?_; refine tr_nil ?_; refine tr_then ?_; refine tr_region ?_; refine tr_val (rk_move (Is.of rfl)) rfl ?_; refine tr_store (Is.of rfl) (Is.of rfl) (Take.there (Take.there (Take.there (Take.there Take.here)))) rfl rfl (okc_cons rfl okc_nil) (lenb rfl) norm_ ?_; refine tr_nil ?_; refine tr_blk_normal ?_; rotate_left; refine tr_skip ?_; refine tr_blk_normal ?_; rotate_right)
          · have hgr : grows q.1 x y = true := by rw [← growsB]; simpa using hcd
            rw [hgr, if_pos rfl] at hrel
            apply tr_seqN (relax (ρ + 1) q x)
            case ht => exact Take.there (Take.there Take.here)
            case hx => exact hnx.symm
            case h2 =>
              rw [hrel]
              try dsimp only [grewV]
              exact Takes.cons (Take.there (Take.there (Take.there Take.here))) (Takes.cons Take.here (Takes.cons Take.here (Takes.cons (Take.there Take.here) (Takes.cons (Take.there Take.here) Takes.nil))))
          · have hgr : grows q.1 x y = false := by rw [← growsB]; simpa using hcd
            rw [hgr, if_neg (by simp)] at hrel
            apply tr_seqN (relax (ρ + 1) q x)
            case ht => exact Take.here
            case hx => exact hnx.symm
            case h2 =>
              rw [hrel]
              try dsimp only [grewV]
              exact Takes.cons (Take.there Take.here) (Takes.cons (Take.there Take.here) (Takes.cons (Take.there Take.here) (Takes.cons (Take.there Take.here) (Takes.cons (Take.there Take.here) Takes.nil))))
    · obtain rfl : i = ns.length := by omega
      (refine tr_seq ?_; refine tr_region ?_; refine tr_val (rk_lss (Is.of rfl) (Is.of rfl)) rfl ?_; refine tr_nil ?_; refine tr_then ?_; refine tr_seq ?_; refine tr_cond_d (Is.of rfl) (fun hcd => (by omega)) (fun hcd => ?_); refine tr_exit ?_; refine tr_then_exit ?_; refine tr_then_exit ?_; refine tr_blk_exit ?_; refine tr_blk_normal ?_; refine tr_then ?_; refine tr_region ?_; refine tr_val (rk_add (Is.of rfl) (Is.of rfl) (ini (by omega))) rfl ?_; refine tr_val (rk_move (Is.of rfl)) rfl ?_; refine tr_nil ?_; refine tr_then ?_)
      apply tr_nextD (ρ + 1) (by omega) (by omega)
      case hs1 => exact Subs.cons rfl (Subs.cons rfl (Subs.cons rfl (Subs.cons rfl (Subs.cons rfl Subs.nil))))
      case ht =>
        rw [show rounds L ns.length f (ρ + 1) = nodes L (ρ + 1) ns.length s0 by rw [rounds, hs0]]
        exact Takes.cons Take.here (Takes.cons Take.here (Takes.cons Take.here (Takes.cons Take.here Takes.nil)))
  · obtain rfl : ρ = ns.length + 1 := by omega
    (refine tr_seq ?_; refine tr_region ?_; refine tr_val (rk_lss (Is.of rfl) (Is.of rfl)) rfl ?_; refine tr_nil ?_; refine tr_then ?_; refine tr_seq ?_; refine tr_cond_d (Is.of rfl) (fun hcd => (by omega)) (fun hcd => ?_); refine tr_exit ?_; refine tr_then_exit ?_; refine tr_then_exit ?_; refine tr_blk_exit ?_; refine tr_then ?_; refine tr_seq ?_)
    with_reducible refine tr_draw 7 (by kernel_rfl) ?_
    (refine any_val (rk_load1 (Is.of rfl) (At.lit (Take.there (Take.there Take.here)) rfl)) rfl ?_; refine any_val (rk_load1 (Is.of rfl) (At.lit Take.here rfl)) rfl ?_; refine any_val (rk_load1 (Is.of rfl) (At.lit Take.here rfl)) rfl ?_; refine any_val (rk_geq (Is.of rfl) (Is.of rfl)) rfl ?_; refine any_val (rk_assign (Is.of rfl)) rfl ?_; refine any_val (rk_assign (Is.of rfl)) rfl ?_; refine any_val (rk_assign (Is.of rfl)) rfl ?_)
    with_reducible refine any_end ?_
    (refine tr_nil ?_; refine tr_then ?_; refine tr_ret ?_)
    have hdec : decide (0 ≤ grewV (rounds L ns.length f (ns.length + 1)).2) = (rounds L ns.length f (ns.length + 1)).2.isSome := by
      cases (rounds L ns.length f (ns.length + 1)).2 with
      | none => rfl
      | some v => simp [grewV]
    rw [hdec]
    first | with_reducible apply tr_retM | with_reducible apply tr_endM
    case he => exact ends3 rfl rfl rfl rfl
    case hR =>
      intro w' hm'
      exact gives_end bg trivial (show Takes _ [blk bg (.cells (tab ns.length (seenL (rounds L ns.length f (ns.length + 1)).1)).toArray 61 (0, 0))] _ by exact Takes.cons (Take.there Take.here) Takes.nil) hm' rfl
end Go.Proofs.A1
