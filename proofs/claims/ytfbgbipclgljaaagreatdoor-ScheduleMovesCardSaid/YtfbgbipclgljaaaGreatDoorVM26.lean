/- Parts of the proof: S84 S85 R1 R2 R3 R4 R5 R6 Q1p R7 R8. -/
import Derived.Test.YtfbgbipclgljaaaGreatDoorVM24
import Derived.Test.YtfbgbipclgljaaaGreatDoorVM25
import Derived.Test.YtfbgbipclgljaaaGreatDoorVM06
import Derived.Test.YtfbgbipclgljaaaGreatDoorVM21
import Derived.Test.YtfbgbipclgljaaaGreatDoorVM23
set_option linter.unusedSectionVars false
set_option linter.unusedVariables false
set_option linter.unusedSimpArgs false
/- S84 -/
namespace Go.Proofs.A1
open Go Go.SL

theorem mem_row_slice {c : Cx} {hs hs' : List Asn} {w : World} {E : TypeId} {sz n : Nat} {v : Value} {xs : List Value} (hm : Mem c hs w) (ht : Take hs (row E sz v n xs) hs') : ∃ a cp, v = .slice a n cp := by
  obtain ⟨k, fp, hnd, ⟨f1, f2, rfl, h1, h2⟩, hb⟩ := hm.take ht
  obtain ⟨_, _, ⟨e, h0⟩ | ⟨g, cap, cur, e, _⟩⟩ := h1
  · subst h0; exact ⟨none, 0, e⟩
  · exact ⟨_, cap, e⟩
theorem int_one (l : List Int) : ∀ r ∈ ints l, ∀ u ∈ r, u.oneCell' = true := by
  intro r hr
  obtain ⟨x, _, rfl⟩ := List.mem_map.1 hr
  exact okc_cons rfl okc_nil
set_option maxHeartbeats 4000000 in
theorem changedX_c {sa sb : Value} {a b : List En} {w : World} (h1 : Rd w sa 6 (ensL a)) (h2 : Rd w sb 6 (ensL b)) (hG : Glob w) :
    Gives Tryz.prog 92 [.agg #[sa], .agg #[sb]] w [] (ChR a b) (fun x => .tuple #[.agg #[.int .i64 x.1, .int .i64 x.2.1], .int .i64 x.2.2]) (fun _ => []) := by
  have hone1 := Rd.one h1
  have hone2 := Rd.one h2
  refine gives_of_tr Tryz.func92 rfl rfl ?_
  (refine s_r ?_; refine tr_new (rk_box (.of rfl) rfl) rfl (fun _ _ => ?_); refine tr_new (rk_box (.of rfl) rfl) rfl (fun _ _ => ?_); refine tr_new (rk_alloc rfl) rfl (fun _ _ => ?_); refine a_s rfl rfl ?_; refine n_t ?_; refine tr_scope ?_; refine tr_seq ?_; refine tr_seq ?_)
  rename_i b2 hb2 b3 hb3 b4 hb4
  with_reducible refine tr_draw 4 (by kernel_rfl) ?_
  (refine any_val (rk_loadB (.of rfl) (.there (.there .here)) norm_ (by rfl)) rfl ?_; refine any_call (rk_call (.of rfl) (.cons (.of rfl) .nil) inferInstance normc_) rfl (fun w' hm' => (chk_c (Rd.keeps h1 (Mem.keeps hm')) (Glob.keeps hG (Mem.keeps hm')))) ?_; refine any_val (rk_loadB (.of rfl) (.there .here) norm_ (by rfl)) rfl ?_; refine any_call (rk_call (.of rfl) (.cons (.of rfl) .nil) inferInstance normc_) rfl (fun w' hm' => (chk_c (Rd.keeps h2 (Mem.keeps hm')) (Glob.keeps hG (Mem.keeps hm')))) ?_)
  with_reducible refine any_end ?_
  (refine tr_new (rk_sliceLit (.cons (.of rfl) (.cons (.of rfl) .nil)) rfl rfl rfl rfl) rfl (fun _ _ => ?_); refine tr_callV (rk_call (.of rfl) (.cons (.of rfl) .nil) inferInstance normc_) rfl (fun w' hm' => (first_pB (Mem.rdBlk hm' .here rfl rfl) (IntL.cons (IntL.cons IntL.nil)))) ?_; refine a_s rfl rfl ?_; refine n_r ?_; refine m_v rfl rfl ?_; refine tr_val (rk_neq (.of rfl) (.of rfl)) rfl ?_; refine n_t ?_; refine c_d rfl (fun hcd => ?_) (fun hcd => ?_); refine s_r ?_; refine tr_val (rk_buildL .nil norm_) rfl ?_; refine m_v rfl rfl ?_; refine tr_store (.of rfl) (.of rfl) (.there .here) rfl rfl (okc_cons rfl (okc_cons rfl okc_nil)) (lenb rfl) norm_ ?_; refine a_s rfl rfl ?_; refine n_t ?_; refine r_t ?_; refine tr_ng_ret ?_; rotate_left; refine s_t ?_; refine tr_seq ?_; rotate_right)
  · have hne : chE a b ≠ 0 := hcd
    first | with_reducible apply tr_retM | with_reducible apply tr_endM
    case he => exact endsCT rfl inferInstance rfl .here norm_ (by rfl) (by rfl)
    case hR =>
      intro w' hm'
      exact gives_end (0, 0, chE a b) (.inl ⟨hne, rfl⟩) (show Takes _ [] _ from Takes.nil) hm' rfl
  have hE0 : chE a b = 0 := Decidable.not_not.1 hcd
  obtain ⟨hza, hzb⟩ := chE_zero hE0
  have hsa := Sound.of hza
  have hsb := Sound.of hzb
  clear hcd
  generalize hQ : Exit.then _ _ = Q
  suffices hk : ∀ (a7 : Option Addr) (c7 : Nat) (a8 : Option Addr) (c8 : Nat) (b7 b8 : Nat), Tr _ _ [(4, .pointer (some ⟨b4, 0, none⟩)), (7, .pointer (some ⟨b7, 0, none⟩)), (8, .pointer (some ⟨b8, 0, none⟩))] [blk b7 (.cells #[.slice a7 a.length c7] 192), blk b8 (.cells #[.slice a8 b.length c8] 192), row 191 8 (.slice a7 a.length c7) a.length (plR a a.length), row 191 8 (.slice a8 b.length c8) b.length (plR b b.length), blk b4 (.cells #[.int .i64 0, .int .i64 0] 66)] (Q .normal) by
    with_reducible refine tr_drawM 6 (by kernel_rfl) ?_
    refine am_val (fun β => (rk_loadB (.of rfl) (.there (.there (.there .here))) norm_ (by rfl))) ind0x rfl ?_
    dsimp only [Nat.zero_add, Nat.reduceAdd]
    with_reducible apply am_call (ι := Value) (Φ := fun _ => True) (val := id) (own := fun v => [row 191 8 v a.length (plR a a.length)]) (g := id) (B := []) (args := fun _ => [.agg #[sa]])
    case hg => exact fun x => ⟨x, rfl⟩
    case hB => rfl
    case hr => exact fun β => rk_call (.of rfl) (.cons (.of rfl) .nil) inferInstance rfl
    case hd => rfl
    case hc => exact fun β w' hb => spans_c (h1.keeps hb.mem.keeps) hsa.all.ok hsa.all.few (hG.keeps hb.mem.keeps)
    dsimp only [id_eq, Nat.reduceAdd]
    refine am_val (fun β => (rk_loadB (.of rfl) (.there (.there .here)) norm_ (by rfl))) ind0x rfl ?_
    dsimp only [Nat.reduceAdd]
    with_reducible apply am_call (ι := Value) (Φ := fun _ => True) (val := id) (own := fun v => [row 191 8 v b.length (plR b b.length)]) (g := id) (B := []) (args := fun _ => [.agg #[sb]])
    case hg => exact fun x => ⟨x, rfl⟩
    case hB => rfl
    case hr => exact fun β => rk_call (.of rfl) (.cons (.of rfl) .nil) inferInstance rfl
    case hd => rfl
    case hc => exact fun β w' hb => spans_c (h2.keeps hb.mem.keeps) hsb.all.ok hsb.all.few (hG.keeps hb.mem.keeps)
    dsimp only [id_eq, Nat.reduceAdd]
    (refine am_new (fun β => (rk_alloc rfl)) (fun _ _ _ => rfl) rfl ?_; refine am_new (fun β => (rk_alloc rfl)) (fun _ _ _ => rfl) rfl ?_)
    dsimp only [Nat.reduceAdd]
    refine am_end fun β => ?_
    dsimp only [resAll, List.nil_append, List.cons_append, List.append_eq, Nat.reduceAdd]
    generalize β 1 = v1
    generalize β 3 = v3
    generalize gnat (β 4) = b7
    generalize gnat (β 5) = b8
    refine tr_rowSl (E := 191) (sz := 8) (v := v1) (by exact .here) fun a7 c7 e => ?_
    subst e
    refine tr_rowSl (E := 191) (sz := 8) (v := v3) (by exact Take.there .here) fun a8 c8 e => ?_
    subst e
    refine left_ready (rs := [6]) (by kernel_rfl) (by simp) (List.forall_mem_cons.2 ⟨?_, fun _ h => absurd h List.not_mem_nil⟩)
    refine next_step rfl ?_
    (refine tr_store (.of rfl) (.of rfl) (.there (.there .here)) rfl rfl (okc_cons rfl okc_nil) (lenb rfl) norm_ ?_; refine n_t ?_)
    refine left_ready (rs := [7]) (by kernel_rfl) (by simp) (List.forall_mem_cons.2 ⟨?_, fun _ h => absurd h List.not_mem_nil⟩)
    refine next_step rfl ?_
    (refine tr_store (.of rfl) (.of rfl) (.there (.there (.there .here))) rfl rfl (okc_cons rfl okc_nil) (lenb rfl) norm_ ?_; refine n_t ?_)
    with_reducible refine left_done (by kernel_rfl) ?_
    exact tr_cut _ _ (by exact .cons rfl (.cons rfl (.cons rfl .nil))) (by exact .cons (.there .here) (.cons .here (.cons .here (.cons .here (.cons (.there .here) .nil))))) (hk a7 c7 a8 c8 b7 b8)
  subst hQ
  intro a7 c7 a8 c8 b7 b8
  (refine tr_then ?_; refine tr_seq ?_)
  generalize hA : tnL a a.length = A
  generalize hB : tnL b b.length = B
  have hAl : A.length ≤ 7200 := by rw [← hA]; have := hsa.tn_len _ (Nat.le_refl _); have := hsa.all.few; omega
  have hBl : B.length ≤ 7200 := by rw [← hB]; have := hsb.tn_len _ (Nat.le_refl _); have := hsb.all.few; omega
  have hTL := tns_len hsa hsb
  have hTE : tnsL a b = Go.Lib.compact (srt (A ++ B)) := by rw [← hA, ← hB]; rfl
  generalize hTT : tnsL a b = T at hTE hTL
  generalize hQ : Exit.then _ _ = Q
  suffices hk : ∀ (v : Value), Tr _ _ [(4, .pointer (some ⟨b4, 0, none⟩)), (7, .pointer (some ⟨b7, 0, none⟩)), (8, .pointer (some ⟨b8, 0, none⟩)), (9, v)] [row 3 1 v T.length (intsV T), blk b7 (.cells #[.slice a7 a.length c7] 192), blk b8 (.cells #[.slice a8 b.length c8] 192), row 191 8 (.slice a7 a.length c7) a.length (plR a a.length), row 191 8 (.slice a8 b.length c8) b.length (plR b b.length), blk b4 (.cells #[.int .i64 0, .int .i64 0] 66)] (Q .normal) by
    with_reducible refine tr_drawK 9 (tkOf [(1, 4), (6, 7)]) (by kernel_rfl) ?_
    refine ak_valB (fun β => (rk_load1 (.of rfl) (At.lit .here rfl))) ind0x rfl rfl ?_
    with_reducible apply ak_callB (ι := Value) (Φ := fun _ => True) (val := id) (own := fun v => [row 3 1 v A.length (intsV A)]) (g := id) (B := []) (args := fun _ => [.slice a7 a.length c7])
    case hg => exact fun x => ⟨x, rfl⟩
    case hB => rfl
    case hr => exact fun β => rk_call (.of rfl) (.cons (.of rfl) .nil) inferInstance rfl
    case hd => rfl
    case hn => rfl
    case hc =>
      intro β w' hb
      have := turns_c (rdPl (v := .slice a7 a.length c7) hb.mem (by exact Take.there (.there .here))) hsa
      rwa [hA] at this
    dsimp only [id_eq, Nat.reduceAdd]
    refine ak_valB (fun β => (rk_load1 (.of rfl) (At.lit (.there .here) rfl))) ind0x rfl rfl ?_
    dsimp only [Nat.reduceAdd]
    with_reducible apply ak_callB (ι := Value) (Φ := fun _ => True) (val := id) (own := fun v => [row 3 1 v B.length (intsV B)]) (g := id) (B := []) (args := fun _ => [.slice a8 b.length c8])
    case hg => exact fun x => ⟨x, rfl⟩
    case hB => rfl
    case hr => exact fun β => rk_call (.of rfl) (.cons (.of rfl) .nil) inferInstance rfl
    case hd => rfl
    case hn => rfl
    case hc =>
      intro β w' hb
      have := turns_c (rdPl (v := .slice a8 b.length c8) hb.mem (by exact Take.there (.there (.there .here)))) hsb
      rwa [hB] at this
    dsimp only [id_eq, Nat.reduceAdd]
    with_reducible apply ak_append (jx := 1) (n0 := A.length) (xs := intsV A) (news := ints B) (Vx := fun β => β 1) (Vy := fun β => β 3) (Ax := fun β => [row 3 1 (β 1) A.length (intsV A)]) (B := [3])
    case hB => kernel_rfl
    case hS => rfl
    case hrow => exact fun β w' fp ⟨f1, f2, e, h, h0⟩ => by obtain rfl : f2 = [] := h0; rw [e, List.append_nil]; exact h
    case htk => exact tkOf_only rfl rfl
    case hti => rfl
    case h0 => rfl
    case hwx => kernel_rfl
    case hx => exact fun β => .of rfl
    case hy => exact fun β => .of rfl
    case hsrc =>
      intro β w' hb
      have m3 := hb.at 3 (by simp) (s := ⟨fun β => β 3, fun β => [row 3 1 (β 3) B.length (intsV B)]⟩) (by kernel_rfl)
      dsimp only [List.cons_append, List.nil_append] at m3
      exact rdIntsV m3 (by exact .here) rfl
    case h1 => exact int_one B
    case hz => rfl
    case hsz => rfl
    case hb0 => rfl
    case hb => rw [ints_length]; omega
    case hd => rfl
    rw [← intsV_flat, ← intsV_app, ints_length, ← List.length_append]
    dsimp only [Nat.reduceAdd]
    with_reducible apply ak_callD (ι := Nat) (Φ := fun _ => True) (val := fun x => .func (.func 205) #[] #[.pointer (some ⟨x, 0, none⟩)]) (own := fun β x => [blk x (.cells #[β 4] 44 (0, 0))]) (g := gnat) (B := [4]) (args := fun β => [β 4])
    case hg => exact fun x => ⟨_, gnat_of x⟩
    case hB => kernel_rfl
    case hn => rfl
    case hio => exact fun β β' h => by simp only [h 4 (by decide) (by kernel_rfl)]
    case hr => exact fun β => rk_call (.of rfl) (.cons (.of rfl) .nil) inferInstance rfl
    case hd => rfl
    case hc =>
      intro β w' hb
      have m4 := hb.at 4 (by simp) (s := ⟨fun β => β 4, fun β => [row 3 1 (β 4) (A ++ B).length (intsV (A ++ B))]⟩) (by kernel_rfl)
      dsimp only [List.cons_append, List.nil_append] at m4
      obtain ⟨q1, q2, q3⟩ := mem_row_slice (v := β 4) m4 (by exact .here)
      rw [q3]
      exact values_c _ _ _ _
    dsimp only [Nat.reduceAdd]
    with_reducible apply ak_callB (ι := Value) (Φ := fun _ => True) (val := id) (own := fun v => [row 3 1 v (A ++ B).length (intsV (srt (A ++ B)))]) (g := id) (B := [5, 4]) (args := fun β => [.func (.func 205) #[] #[.pointer (some ⟨gnat (β 5), 0, none⟩)]])
    case hg => exact fun x => ⟨x, rfl⟩
    case hB => kernel_rfl
    case hn => rfl
    case hr => exact fun β => rk_call (.of rfl) (.cons (.of rfl) .nil) inferInstance rfl
    case hd => rfl
    case hc =>
      intro β w' hb
      have m4 := hb.at 4 (by simp) (s := ⟨fun β => β 4, fun β => [row 3 1 (β 4) (A ++ B).length (intsV (A ++ B))]⟩) (by kernel_rfl)
      have m5 := hb.at 5 (by simp) (s := ⟨fun β => .func (.func 205) #[] #[.pointer (some ⟨gnat (β 5), 0, none⟩)], fun β => [blk (gnat (β 5)) (.cells #[β 4] 44 (0, 0))]⟩) (by kernel_rfl)
      dsimp only [List.cons_append, List.nil_append] at m4 m5
      have hcb : w'.cell? ⟨gnat (β 5), 0, none⟩ = some (β 4) := by
        have hb := m5.blk (b := gnat (β 5)) (by exact .here)
        rw [cell_of_block hb]; rfl
      exact sorted_c hcb (rdIntsV m4 (by exact .here) rfl) (by rw [List.length_append]; omega)
    dsimp only [id_eq, Nat.reduceAdd]
    with_reducible apply ak_callT (jx := 6) (ι := Value) (Φ := fun _ => True) (val := id) (own := fun v => [row 3 1 v T.length (intsV T)]) (g := id) (B := []) (args := fun β => [β 6]) (Vx := fun β => β 6) (Ax := fun β => [row 3 1 (β 6) (A ++ B).length (intsV (srt (A ++ B)))])
    case hg => exact fun x => ⟨x, rfl⟩
    case hB => rfl
    case hS => rfl
    case htk => exact tkOf_only rfl rfl
    case hti => rfl
    case h0 => rfl
    case hwx => kernel_rfl
    case hr => exact fun β => rk_call (.of rfl) (.cons (.of rfl) .nil) inferInstance rfl
    case hd => rfl
    case hc =>
      intro β w' fp hb hsat
      rw [hTE]
      exact compact_c (srt_len _).symm (by rw [List.length_append]; omega) hsat
    dsimp only [id_eq, Nat.reduceAdd]
    refine ak_valB (F := fun β => β 7) (fun β => rk_assign (.of rfl)) (fun β β' h => by simp only [h 7 (by kernel_rfl)]) rfl rfl ?_
    refine ak_end fun β => ?_
    change Tr _ _ _ [row 3 1 (β 3) B.length (intsV B), row 3 1 (β 4) (A ++ B).length (intsV (A ++ B)), blk (gnat (β 5)) (.cells #[β 4] 44), row 3 1 (β 7) T.length (intsV T), blk b7 (.cells #[.slice a7 a.length c7] 192), blk b8 (.cells #[.slice a8 b.length c8] 192), row 191 8 (.slice a7 a.length c7) a.length (plR a a.length), row 191 8 (.slice a8 b.length c8) b.length (plR b b.length), blk b4 (.cells #[.int .i64 0, .int .i64 0] 66)] _
    generalize β 3 = v3
    generalize β 4 = v4
    generalize β 7 = v7
    generalize gnat (β 5) = b5
    with_reducible refine left_done (by kernel_rfl) ?_
    exact tr_cut _ _ (by exact .cons rfl (.cons rfl (.cons rfl (.cons rfl .nil)))) (by exact .cons (.there (.there (.there .here))) (.cons (.there (.there (.there .here))) (.cons (.there (.there (.there .here))) (.cons (.there (.there (.there .here))) (.cons (.there (.there (.there .here))) (.cons (.there (.there (.there .here))) .nil)))))) (hk v7)
  subst hQ
  intro v
  refine tr_rowSl (E := 3) (sz := 1) (v := v) (by exact .here) fun aT cT e => ?_
  subst e
  (refine tr_then ?_; refine s_r ?_; refine tr_val (rk_makeFunc' .nil (.cons (.of rfl) (.cons (.of rfl) .nil))) rfl ?_; refine a_s rfl rfl ?_; refine n_r ?_; refine m_v rfl rfl ?_; refine m_v rfl rfl ?_)
  have hDf : ∀ (n : Int) (hs : List Asn) w', Mem ⟨w, [], Tryz.f92.ntmps⟩ hs w' → (∃ r, Take hs (blk b7 (.cells #[.slice a7 a.length c7] 192)) r) → (∃ r, Take hs (blk b8 (.cells #[.slice a8 b.length c8] 192)) r) → (∃ r, Take hs (row 191 8 (.slice a7 a.length c7) a.length (plR a a.length)) r) → (∃ r, Take hs (row 191 8 (.slice a8 b.length c8) b.length (plR b b.length)) r) → GivesV Tryz.prog 168 [.int .i64 n, .pointer (some ⟨b7, 0, none⟩), .pointer (some ⟨b8, 0, none⟩)] w' (.bool (dfB a b n)) := fun n hs w' hm ⟨_, t7⟩ ⟨_, t8⟩ ⟨_, r7⟩ ⟨_, r8⟩ =>
    differs_c (by rw [cell_of_block (hm.blk t7)]; rfl) (by rw [cell_of_block (hm.blk t8)]; rfl) (rdPl hm r7) (rdPl hm r8) hsa hsb
  with_reducible apply tr_callV
  case hr => exact rk_call (.of rfl) (.cons (.of rfl) (.cons (.of rfl) .nil)) inferInstance normc_
  case hd => rfl
  case hc =>
    intro w' hm'
    refine idxI_c (f := 168) (l := T) (D := dfB a b) (first := []) (cap := [.pointer (some ⟨b7, 0, none⟩), .pointer (some ⟨b8, 0, none⟩)]) (rdIntsV hm' (by exact .here) rfl) fun x _ w2 hk2 => ?_
    exact hDf x _ w2 (hm'.keepsOn hk2) ⟨_, by exact Take.there .here⟩ ⟨_, by exact Take.there (.there .here)⟩ ⟨_, by exact Take.there (.there (.there .here))⟩ ⟨_, by exact Take.there (.there (.there (.there .here)))⟩
  have hTO := turns_ok hsa hsb
  have hTL2 := fun k (hk : k < (tnsL a b).length) => tns_last hsa hsb hk
  have hTI := fun n (hn : n ∈ tnsL a b) => tns_in hsa hsb hn
  rw [hTT] at hTO hTI
  rcases idxD_cases (dfB a b) T with ⟨e, hno⟩ | ⟨k, hkl, e, hk1, hk0⟩
  · rw [e]
    (refine a_s rfl rfl ?_; refine n_t ?_; refine tr_seq ?_; refine s_r ?_; refine m_v rfl rfl ?_; refine tr_val (rk_lss (.of rfl) (.of rfl)) rfl ?_; refine n_t ?_; refine c_d rfl (fun hcd => ?_) (fun _ => by omega); refine s_r ?_; refine tr_val (rk_buildL .nil norm_) rfl ?_; refine tr_store (.of rfl) (.of rfl) (.there (.there (.there (.there (.there .here))))) rfl rfl (okc_cons rfl (okc_cons rfl okc_nil)) (lenb rfl) norm_ ?_; refine a_s rfl rfl ?_; refine n_t ?_; refine r_t ?_; refine tr_ng_ret ?_)
    first | with_reducible apply tr_retM | with_reducible apply tr_endM
    case he => exact endsCT rfl inferInstance rfl .here norm_ (by rfl) (by rfl)
    case hR =>
      intro w' hm'
      exact gives_end (0, 0, 7) (.inr ⟨hE0, .inr ⟨rfl, hTO.none hno⟩⟩) (show Takes _ [] _ from Takes.nil) hm' rfl
  rw [e]
  refine tr_rowOpen (E := 3) (sz := 1) (by exact .here) (by omega) fun gT cT2 curT e2 hkT hxT hzT hlT => ?_
  obtain ⟨rfl, -, rfl⟩ := Value.slice.inj e2
  (refine a_s rfl rfl ?_; refine n_t ?_; refine tr_seq ?_; refine s_r ?_; refine m_v rfl rfl ?_; refine tr_val (rk_lss (.of rfl) (.of rfl)) rfl ?_; refine n_t ?_; refine c_d rfl (fun _ => by omega) (fun hcd => ?_); refine s_t ?_; refine s_r ?_; refine m_v rfl rfl ?_; refine a_s rfl rfl ?_; refine n_t ?_; refine tr_seq ?_; refine tr_label ?_; refine tr_then ?_; refine tr_seq ?_; refine s_r ?_; refine m_v rfl rfl ?_; refine tr_val (rk_len_slice (.of rfl)) rfl ?_; refine tr_val (rk_sub (.of rfl) (.of rfl) (ini (by omega))) rfl ?_; refine a_s rfl rfl ?_; refine n_t ?_; refine tr_block ?_)
  clear hcd
  have hTin : ∀ j (hj : j < T.length), 0 ≤ T[j] ∧ T[j] ≤ 10000000 := fun j hj => hTI _ (List.getElem_mem hj)
  have hcl : ∀ j (hj : j < T.length), (intsV T ++ curT)[j * 1]? = some (.int .i64 T[j]) := fun j hj => by
    rw [Nat.mul_one, List.getElem?_append_left (by rw [intsV_length]; exact hj)]
    simp [intsV, hj]
  refine tr_for (ι := Nat) (fun i => k ≤ i ∧ i < T.length ∧ ∀ j (hj : j < T.length), i < j → dfB a b T[j] = false) (fun i => [(13, .int .i64 (i : Int)), (11, .int .i64 (k : Int)), (9, .slice (some ⟨gT, 0, none⟩) T.length cT), (10, .func (.func 168) #[] #[.pointer (some ⟨b7, 0, none⟩), .pointer (some ⟨b8, 0, none⟩)]), (4, .pointer (some ⟨b4, 0, none⟩))])
    (fun _ => [blk gT (.cells (intsV T ++ curT).toArray 3), blk b7 (.cells #[.slice a7 a.length c7] 192), blk b8 (.cells #[.slice a8 b.length c8] 192), row 191 8 (.slice a7 a.length c7) a.length (plR a a.length), row 191 8 (.slice a8 b.length c8) b.length (plR b b.length), blk b4 (.cells #[.int .i64 0, .int .i64 0] 66)]) (fun i => i) ?_ ?_
  · have hc1 : ((T.length : Int) - 1) = ((T.length - 1 : Nat) : Int) := by omega
    rw [hc1]
    apply tr_start (T.length - 1 : Nat) ⟨by omega, by omega, fun j hj h => by omega⟩
    case hs1 => exact .cons rfl (.cons rfl (.cons rfl (.cons rfl (.cons rfl .nil))))
    case ht => exact .cons .here (.cons .here (.cons .here (.cons .here (.cons .here (.cons .here .nil)))))
  rintro i ⟨hki, hil, hi0⟩
  have hci := hcl i hil
  have hli : dfB a b T[i] = true → i + 1 < T.length := fun h => by
    apply Classical.byContradiction
    intro hn
    have := hTL2 i (by rw [hTT]; exact hil) (by rw [hTT]; omega)
    simp only [hTT] at this
    rw [h] at this; cases this
  generalize hx : T[i] = x at hci hli
  (refine tr_seq ?_; refine s_r ?_; refine m_v rfl rfl ?_; refine m_v rfl rfl ?_; refine tr_val (rk_geq (.of rfl) (.of rfl)) rfl ?_; refine n_t ?_; refine c_d rfl (fun hcd => ?_) (fun _ => by omega); refine s_t ?_; refine tr_seq ?_; refine tr_block ?_; refine s_r ?_; refine m_v rfl rfl ?_; refine m_v rfl rfl ?_; refine m_v rfl rfl ?_; refine tr_val (rk_indexAddr (.of rfl) (.of rfl) rfl (by omega) (by omega) norm1_) rfl ?_; refine tr_val (rk_load1 (.of rfl) (At.blkL .here hci)) rfl ?_)
  with_reducible apply tr_callV
  case hr => exact rk_call (.of rfl) (.cons (.of rfl) .nil) inferInstance normc_
  case hd => rfl
  case hc =>
    intro w' hm'
    exact hDf x _ w' hm' ⟨_, by exact Take.there .here⟩ ⟨_, by exact Take.there (.there .here)⟩ ⟨_, by exact Take.there (.there (.there .here))⟩ ⟨_, by exact Take.there (.there (.there (.there .here)))⟩
  cases hD : dfB a b x with
  | false =>
    (refine n_t ?_; refine tr_cond_f (.of rfl) ?_; refine tr_skip ?_; refine tr_blk_normal ?_; refine tr_then ?_; refine tr_region ?_; refine m_v rfl rfl ?_; refine tr_val (rk_sub (.of rfl) (.of rfl) (ini (by omega))) rfl ?_; refine a_s rfl rfl ?_; refine n_t ?_)
    have hne : i ≠ k := fun e => by
      subst e
      rw [hx, hD] at hk1; cases hk1
    have hc2 : ((i : Int) - 1) = ((i - 1 : Nat) : Int) := by omega
    rw [hc2]
    apply tr_next (i - 1) ⟨by omega, by omega, fun j hj h => by
      by_cases e : j = i
      · subst e; rw [hx]; exact hD
      · exact hi0 j hj (by omega)⟩ (by omega)
    case hs1 => exact .cons rfl (.cons rfl (.cons rfl (.cons rfl (.cons rfl .nil))))
    case ht => exact .cons .here (.cons .here (.cons .here (.cons .here (.cons .here (.cons .here .nil)))))
  | true =>
    have hl1 := hli hD
    have hck := hcl k hkl
    have hcj : (intsV T ++ curT)[((i : Int) + 1).toNat * 1]? = some (.int .i64 T[i + 1]) := by
      rw [show ((i : Int) + 1).toNat = i + 1 by omega]; exact hcl (i + 1) hl1
    have hsp := hTO.span (i := k) (j := i) hl1 hki hk1 (fun q hq => hk0 q hq) (by rw [hx]; exact hD) (fun q hq h => hi0 q hq h)
    have hb1 := hTin k hkl
    have hb2 := hTin (i + 1) hl1
    generalize T[i + 1] = y at hcj hsp hb2
    generalize T[k] = z at hck hsp hb1
    (refine n_t ?_; refine tr_cond_t (.of rfl) ?_; refine s_r ?_; refine m_v rfl rfl ?_; refine tr_val (rk_add (.of rfl) (.of rfl) (ini (by omega))) rfl ?_; refine a_s rfl rfl ?_; refine n_t ?_; refine tr_exit ?_; refine tr_blk_exit_ne rfl ?_; refine tr_then_exit ?_; refine tr_then_exit ?_; refine tr_blk_exit ?_; refine tr_then ?_; refine tr_seq ?_)
    with_reducible refine tr_draw 9 (by kernel_rfl) ?_
    (refine a_m rfl rfl ?_; refine a_m rfl rfl ?_; refine any_val (rk_indexAddr (.of rfl) (.of rfl) rfl (by omega) (by omega) norm1_) rfl ?_; refine any_val (rk_load1 (.of rfl) (At.blkL .here hck)) rfl ?_; refine a_m rfl rfl ?_; refine a_m rfl rfl ?_; refine any_val (rk_indexAddr (.of rfl) (.of rfl) rfl (by omega) (by omega) norm1_) rfl ?_; refine any_val (rk_load1 (.of rfl) (At.blkL .here hcj)) rfl ?_; refine any_val (rk_buildL (.cons (.of rfl) (.cons (.of rfl) .nil)) norm_) rfl ?_)
    with_reducible refine any_end ?_
    (refine tr_store (.of rfl) (.of rfl) (.there (.there (.there (.there (.there .here))))) rfl rfl (okc_cons rfl (okc_cons rfl okc_nil)) (lenb rfl) norm_ ?_; refine a_s rfl rfl ?_; refine n_t ?_; refine tr_ret ?_; refine tr_ng_ret ?_)
    first | with_reducible apply tr_retM | with_reducible apply tr_endM
    case he => exact endsCT rfl inferInstance rfl .here norm_ (by rfl) (by rfl)
    case hR =>
      intro w' hm'
      exact gives_end (z, y, 0) (.inr ⟨hE0, .inl ⟨z, y, rfl, hsp⟩⟩) (show Takes _ [] _ from Takes.nil) hm' rfl
end Go.Proofs.A1


/- S85 -/
namespace Go.Proofs.A1
open Go Go.SL

theorem duo_at {l : List Value} {i : Nat} {u v : Value} (h0 : l[i]? = some u) (h1 : l[i + 1]? = some v) : cellsAt l i 2 = [u, v] := by
  rw [cellsAt_eq]
  obtain ⟨l0, g0⟩ := List.getElem?_eq_some_iff.1 h0
  obtain ⟨l1, g1⟩ := List.getElem?_eq_some_iff.1 h1
  rw [List.drop_eq_getElem_cons l0, List.drop_eq_getElem_cons l1]
  simp only [List.take_succ_cons, List.take_zero]
  rw [g0, g1]
/-- the end of the last entry, or 0 -/
def enE (es : List En) : Int := if es.length = 0 then 0 else to es (es.length - 1)
theorem Sound.enE_ge {es : List En} (h : Sound es) {k : Nat} (hk : k < es.length) : to es k ≤ enE es := by
  unfold enE
  rw [if_neg (by omega)]
  by_cases e : k = es.length - 1
  · subst e; exact Int.le_refl _
  · have := h.to_lt (i := k) (k := es.length - 1) (by omega) (by omega); omega
theorem Sound.enE_in {es : List En} (h : Sound es) : 0 ≤ enE es ∧ enE es ≤ 10000000 := by
  unfold enE
  split
  · exact ⟨Int.le_refl _, by decide⟩
  · have := h.fr_nn (k := es.length - 1) (by omega); omega
theorem end_c {sv : Value} {es : List En} {w : World} (h1 : Rd w sv 6 (ensL es)) (hs : Sound es) : GivesV Tryz.prog 163 [.agg #[sv]] w (.int .i64 (enE es)) := by
  have hone := Rd.one h1
  have hfew := hs.all.few
  refine givesV_of_tr Tryz.func163 rfl rfl ?_
  (refine s_r ?_; refine tr_new (rk_box (.of rfl) rfl) rfl (fun _ _ => ?_); refine a_s rfl rfl ?_; refine n_r ?_; refine tr_val (rk_loadB (.of rfl) .here norm_ (by rfl)) rfl ?_)
  with_reducible apply tr_call
  case hr => exact rk_call (.of rfl) (.cons (.of rfl) .nil) inferInstance normc_
  case hd => rfl
  case ht => exact Takes.nil
  case hc =>
    intro w1 fp hm1 _ hs1
    obtain rfl : fp = [] := hs1
    exact spansQ_c (h1.keeps hm1.keeps) hs
  intro v _
  dsimp only [id_eq, List.cons_append, List.nil_append]
  (refine a_s rfl rfl ?_; refine n_t ?_; refine tr_seq ?_; refine s_r ?_; refine m_v rfl rfl ?_)
  refine tr_rowSl (E := 66) (sz := 2) (by exact .here) fun va vc e => ?_
  subst e
  by_cases hn0 : 0 < es.length
  · refine tr_rowOpen (E := 66) (sz := 2) (by exact .here) hn0 fun g cap' cur e hcap' hmx' hsz' hl' => ?_
    obtain ⟨rfl, -, rfl⟩ := Value.slice.inj e
    have hk1 : ((es.length : Int) - 1).toNat = es.length - 1 := by omega
    have q1 : (spV es es.length ++ cur)[((es.length : Int) - 1).toNat * 2 + 1]? = some (.int .i64 (to es (es.length - 1))) := by rw [hk1]; exact spV_at (j := 1) (by omega) cur (by omega)
    (refine tr_val (rk_len_slice (.of rfl)) rfl ?_; refine tr_val (rk_eql (.of rfl) (.of rfl)) rfl ?_; refine n_t ?_; refine c_d rfl (fun _ => by omega) (fun hcd => ?_); refine s_t ?_; refine s_r ?_; refine m_v rfl rfl ?_; refine m_v rfl rfl ?_; refine tr_val (rk_len_slice (.of rfl)) rfl ?_; refine tr_val (rk_sub (.of rfl) (.of rfl) (ini (by omega))) rfl ?_; refine tr_val (rk_indexAddr (.of rfl) (.of rfl) rfl (by omega) (by omega) norm1_) rfl ?_; refine f_a rfl rfl norm0_ ?_; refine tr_val (rk_load1 (.of rfl) (At.blkL .here q1)) rfl ?_; refine a_s rfl rfl ?_; refine n_t ?_; refine tr_ret ?_; refine tr_retE rfl (ends1 rfl rfl) ?_)
    rw [enE, if_neg (by omega)]
  · have e0 : es.length = 0 := by omega
    rw [e0]
    (refine tr_val (rk_len_slice (.of rfl)) rfl ?_; refine tr_val (rk_eql (.of rfl) (.of rfl)) rfl ?_; refine n_t ?_; refine c_d rfl (fun hcd => ?_) (fun _ => by omega); refine s_r ?_; refine a_s rfl rfl ?_; refine n_t ?_; refine r_t ?_; refine tr_retE rfl (ends1 rfl rfl) ?_)
    rw [enE, if_pos e0]
theorem triG_at {L : List (Int × Int × Int)} {j : Nat} {x : Int × Int × Int} {i : Nat} (hi : i < 3) (h : L[j]? = some x) (cur : List Value) : (L.flatMap triV ++ cur)[j * 3 + i]? = (triV x)[i]? := by
  obtain ⟨hj, rfl⟩ := List.getElem?_eq_some_iff.1 h
  have hs : L = L.take j ++ L[j] :: L.drop (j + 1) := by
    rw [← List.drop_eq_getElem_cons hj, List.take_append_drop]
  have hl : ((L.take j).flatMap triV).length = j * 3 := by
    have : ∀ M : List (Int × Int × Int), (M.flatMap triV).length = M.length * 3 := fun M => by
      induction M with
      | nil => rfl
      | cons a M ih => rw [List.flatMap_cons, List.length_append, ih]; simp [triV]; omega
    rw [this, List.length_take]; omega
  conv => lhs; rw [hs]
  rw [List.flatMap_append, List.flatMap_cons, List.append_assoc, List.append_assoc, List.getElem?_append_right (by omega), hl, show j * 3 + i - j * 3 = i by omega, List.getElem?_append_left (by simpa [triV] using hi)]
theorem vw_get {es : List En} {f : Int} {k : Nat} {x : Int × Int × Int} (h : (shF es f)[k]? = some x) : (vwL es f)[k]? = some ((nth es x.1.toNat).nm, x.2) := by
  rw [vwL, List.getElem?_map, h]; rfl
set_option maxHeartbeats 2000000 in
theorem alike_c {sa sb : Value} {a b : List En} {f : Int} {w : World} (h1 : Rd w sa 6 (ensL a)) (h2 : Rd w sb 6 (ensL b)) (hsa : Sound a) (hsb : Sound b) (hf0 : 0 ≤ f) (hf1 : f ≤ 10000000) :
    GivesV Tryz.prog 173 [.agg #[sa], .agg #[sb], .int .i64 f] w (.bool (!dfB a b f)) := by
  have h1' := h1
  have h2' := h2
  obtain ⟨a1, cap1, b1, o1, rfl, hcap1, hmax1, ha1, hc1⟩ := h1
  obtain ⟨a2, cap2, b2, o2, rfl, hcap2, hmax2, ha2, hc2⟩ := h2
  rw [ensL_length] at *
  rw [ensL_length] at *
  unfold maxLen at hmax1 hmax2
  refine givesV_of_tr Tryz.func173 rfl rfl ?_
  (refine s_r ?_; refine tr_new (rk_box (.of rfl) rfl) rfl (fun _ _ => ?_); refine tr_new (rk_box (.of rfl) rfl) rfl (fun _ _ => ?_); refine a_s rfl rfl ?_; refine n_t ?_; refine tr_seq ?_)
  rename_i p3 hp3 p4 hp4
  generalize hQ : Exit.then _ _ = Q
  suffices hk : ∀ (v1 v2 : Value), Tr _ _ [(3, .pointer (some ⟨p3, 0, none⟩)), (4, .pointer (some ⟨p4, 0, none⟩)), (7, v1), (8, v2)] [row 185 3 v1 (shF a f).length ((shF a f).flatMap triV), row 185 3 v2 (shF b f).length ((shF b f).flatMap triV), blk p3 (.cells #[.slice a1 a.length cap1] 24), blk p4 (.cells #[.slice a2 b.length cap2] 24)] (Q .normal) by
    with_reducible refine tr_drawM 8 (by kernel_rfl) ?_
    (refine am_val (fun β => (rk_loadB (.of rfl) (.there .here) norm_ (by rfl))) ind0x rfl ?_; refine am_val (fun β => (rk_move (.of rfl))) ind0x rfl ?_)
    dsimp only [Nat.zero_add, Nat.reduceAdd]
    with_reducible apply am_call (ι := Value) (Φ := fun _ => True) (val := id) (own := fun v => [row 185 3 v (shF a f).length ((shF a f).flatMap triV)]) (g := id) (B := []) (args := fun _ => [.agg #[.slice a1 a.length cap1], .int .i64 f])
    case hg => exact fun x => ⟨x, rfl⟩
    case hB => rfl
    case hr => exact fun β => rk_call (.of rfl) (.cons (.of rfl) (.cons (.of rfl) .nil)) inferInstance rfl
    case hd => rfl
    case hc => exact fun β w' hb => onAirQ_c (h1'.keeps hb.mem.keeps) hsa hf0 hf1
    dsimp only [id_eq, Nat.reduceAdd]
    (refine am_val (fun β => (rk_loadB (.of rfl) .here norm_ (by rfl))) ind0x rfl ?_; refine am_val (fun β => (rk_move (.of rfl))) ind0x rfl ?_)
    dsimp only [Nat.reduceAdd]
    with_reducible apply am_call (ι := Value) (Φ := fun _ => True) (val := id) (own := fun v => [row 185 3 v (shF b f).length ((shF b f).flatMap triV)]) (g := id) (B := []) (args := fun _ => [.agg #[.slice a2 b.length cap2], .int .i64 f])
    case hg => exact fun x => ⟨x, rfl⟩
    case hB => rfl
    case hr => exact fun β => rk_call (.of rfl) (.cons (.of rfl) (.cons (.of rfl) .nil)) inferInstance rfl
    case hd => rfl
    case hc => exact fun β w' hb => onAirQ_c (h2'.keeps hb.mem.keeps) hsb hf0 hf1
    dsimp only [id_eq, Nat.reduceAdd]
    refine am_val (F := fun β => β 2) (fun β => rk_assign (.of rfl)) (fun β β' h => by simp only [h 2 (by kernel_rfl)]) rfl ?_
    refine am_val (F := fun β => β 5) (fun β => rk_assign (.of rfl)) (fun β β' h => by simp only [h 5 (by kernel_rfl)]) rfl ?_
    refine am_end fun β => ?_
    dsimp only [resAll, List.nil_append, List.cons_append, List.append_eq, Nat.reduceAdd]
    generalize β 2 = v1
    generalize β 5 = v2
    with_reducible refine left_done (by kernel_rfl) ?_
    exact tr_cut _ _ (by exact .cons rfl (.cons rfl (.cons rfl (.cons rfl .nil)))) (by exact .cons .here (.cons .here (.cons (.there .here) (.cons .here .nil)))) (hk v1 v2)
  subst hQ
  intro v1 v2
  have hva := vwL_len a f
  have hvb := vwL_len b f
  have h2a := shF_two hsa f
  have h2b := shF_two hsb f
  refine tr_rowSl (E := 185) (sz := 3) (v := v1) (by exact .here) fun x1 y1 e => ?_
  subst e
  refine tr_rowSl (E := 185) (sz := 3) (v := v2) (by exact Take.there .here) fun x2 y2 e => ?_
  subst e
  (refine tr_then ?_; refine tr_seq ?_; refine s_r ?_; refine m_v rfl rfl ?_; refine tr_val (rk_len_slice (.of rfl)) rfl ?_; refine m_v rfl rfl ?_; refine tr_val (rk_len_slice (.of rfl)) rfl ?_; refine tr_val (rk_neq (.of rfl) (.of rfl)) rfl ?_; refine n_t ?_; refine c_d rfl (fun hcd => ?_) (fun hcd => ?_); refine s_r ?_; refine a_s rfl rfl ?_; refine n_t ?_; refine r_t ?_; refine tr_retE rfl (ends1 rfl rfl) ?_; rotate_left; refine s_t ?_; refine tr_seq ?_; refine s_r ?_; refine a_s rfl rfl ?_; refine n_t ?_; refine tr_block ?_; rotate_right)
  · have : dfB a b f = true := by
      unfold dfB
      rw [decide_eq_true_eq]
      intro e
      have := congrArg List.length e
      omega
    rw [this]; rfl
  have hll : (shF a f).length = (shF b f).length := by omega
  by_cases hn0 : 0 < (shF a f).length
  · refine tr_rowOpen (E := 185) (sz := 3) (v := .slice x1 (shF a f).length y1) (by exact .here) hn0 fun g1 z1 cur1 e hk1 hxx1 hz1 hl1 => ?_
    obtain ⟨rfl, -, rfl⟩ := Value.slice.inj e
    refine tr_rowOpen (E := 185) (sz := 3) (v := .slice x2 (shF b f).length y2) (by exact Take.there .here) (by omega) fun g2 z2 cur2 e hk2 hxx2 hz2 hl2 => ?_
    obtain ⟨rfl, -, rfl⟩ := Value.slice.inj e
    refine tr_for (ι := Nat) (fun k => k ≤ (shF a f).length ∧ (vwL a f = vwL b f ↔ (vwL a f).drop k = (vwL b f).drop k)) (fun k => [(9, .int .i64 (k : Int)), (3, .pointer (some ⟨p3, 0, none⟩)), (4, .pointer (some ⟨p4, 0, none⟩)), (7, .slice (some ⟨g1, 0, none⟩) (shF a f).length y1), (8, .slice (some ⟨g2, 0, none⟩) (shF b f).length y2)])
      (fun _ => [blk g1 (.cells ((shF a f).flatMap triV ++ cur1).toArray 185), blk g2 (.cells ((shF b f).flatMap triV ++ cur2).toArray 185), blk p3 (.cells #[.slice a1 a.length cap1] 24), blk p4 (.cells #[.slice a2 b.length cap2] 24)]) (fun k => (shF a f).length - k) ?_ ?_
    · apply tr_start (0 : Nat) ⟨Nat.zero_le _, Iff.rfl⟩
      case hs1 => exact .cons rfl (.cons rfl (.cons rfl (.cons rfl (.cons rfl .nil))))
      case ht => exact .cons (.there .here) (.cons .here (.cons .here (.cons .here .nil)))
    rintro k ⟨hk, hf⟩
    by_cases hlt : k < (shF a f).length
    · have hx : (shF a f)[k]? = some (shF a f)[k] := List.getElem?_eq_getElem hlt
      have hy : (shF b f)[k]? = some ((shF b f)[k]'(by omega)) := List.getElem?_eq_getElem (by omega)
      have ex := shF_ent hsa f _ (List.getElem_mem hlt)
      have ey := shF_ent hsb f _ (List.getElem_mem (show k < (shF b f).length by omega))
      generalize (shF a f)[k] = x at hx ex
      generalize (shF b f)[k] = y at hy ey
      have hvx := vw_get hx
      have hvy := vw_get hy
      obtain ⟨x0, x1', x2'⟩ := x
      obtain ⟨y0, y1', y2'⟩ := y
      dsimp only at ex ey hvx hvy
      have hla : x0.toNat < a.length := by omega
      have hlb : y0.toNat < b.length := by omega
      have ha1' := ha1 (ensL_ne hla)
      have ha2' := ha2 (ensL_ne hlb)
      have n1 : w.cell? ⟨b1, o1 + x0.toNat * 6, none⟩ = some (.string (nth a x0.toNat).nm) := (hc1 _ _ (ensL_get hla)).2 0 _ rfl
      have n2 : w.cell? ⟨b2, o2 + y0.toNat * 6, none⟩ = some (.string (nth b y0.toNat).nm) := (hc2 _ _ (ensL_get hlb)).2 0 _ rfl
      have s0 : ((shF a f).flatMap triV ++ cur1)[k * 3]? = some (.int .i64 x0) := triG_at (i := 0) (by omega) hx cur1
      have s1 : ((shF a f).flatMap triV ++ cur1)[k * 3 + 1]? = some (.int .i64 x1') := triG_at (i := 1) (by omega) hx cur1
      have s2 : ((shF a f).flatMap triV ++ cur1)[k * 3 + 2]? = some (.int .i64 x2') := triG_at (i := 2) (by omega) hx cur1
      have t0 : ((shF b f).flatMap triV ++ cur2)[k * 3]? = some (.int .i64 y0) := triG_at (i := 0) (by omega) hy cur2
      have s12 := duo_at s1 s2
      have t1 : ((shF b f).flatMap triV ++ cur2)[k * 3 + 1]? = some (.int .i64 y1') := triG_at (i := 1) (by omega) hy cur2
      have t2 : ((shF b f).flatMap triV ++ cur2)[k * 3 + 2]? = some (.int .i64 y2') := triG_at (i := 2) (by omega) hy cur2
      have t12 := duo_at t1 t2
      have hd : ((vwL a f).drop k = (vwL b f).drop k) ↔ ((nth a x0.toNat).nm, x1', x2') = ((nth b y0.toNat).nm, y1', y2') ∧ (vwL a f).drop (k + 1) = (vwL b f).drop (k + 1) := by
        obtain ⟨g1, e1⟩ := List.getElem?_eq_some_iff.1 hvx
        obtain ⟨g2, e2⟩ := List.getElem?_eq_some_iff.1 hvy
        rw [List.drop_eq_getElem_cons g1, List.drop_eq_getElem_cons g2, e1, e2]
        exact ⟨fun e => ⟨(List.cons.inj e).1, (List.cons.inj e).2⟩, fun e => by rw [e.1, e.2]⟩
      (refine tr_seq ?_; refine s_r ?_; refine m_v rfl rfl ?_; refine m_v rfl rfl ?_; refine tr_val (rk_len_slice (.of rfl)) rfl ?_; refine tr_val (rk_lss (.of rfl) (.of rfl)) rfl ?_; refine n_t ?_; refine c_d rfl (fun hcd => ?_) (fun _ => by omega); refine s_t ?_; refine tr_seq ?_; refine tr_block ?_; refine tr_seq ?_)
      with_reducible refine tr_draw 34 (by kernel_rfl) ?_
      (refine a_f rfl rfl norm0_ ?_; refine any_val (rk_load1 (.of rfl) (At.lit (.there (.there .here)) rfl)) rfl ?_; refine a_m rfl rfl ?_; refine a_m rfl rfl ?_; refine any_val (rk_indexAddr (.of rfl) (.of rfl) rfl (by omega) hcd norm1_) rfl ?_; refine a_f rfl rfl norm0_ ?_; refine any_val (rk_load1 (.of rfl) (At.blkL .here s0)) rfl ?_; refine any_val (rk_indexAddr (.of rfl) (.of rfl) ha1' (by omega) (by omega) norm1_) rfl ?_; refine a_f rfl rfl norm0_ ?_; refine any_val (rk_load1 (.of rfl) (At.base n1 rfl)) rfl ?_; refine a_f rfl rfl norm0_ ?_; refine any_val (rk_load1 (.of rfl) (At.lit (.there (.there (.there .here))) rfl)) rfl ?_; refine a_m rfl rfl ?_; refine a_m rfl rfl ?_; refine any_val (rk_indexAddr (.of rfl) (.of rfl) rfl (by omega) (by omega) norm1_) rfl ?_; refine a_f rfl rfl norm0_ ?_; refine any_val (rk_load1 (.of rfl) (At.blkL (.there .here) t0)) rfl ?_; refine any_val (rk_indexAddr (.of rfl) (.of rfl) ha2' (by omega) (by omega) norm1_) rfl ?_; refine a_f rfl rfl norm0_ ?_; refine any_val (rk_load1 (.of rfl) (At.base n2 rfl)) rfl ?_; refine any_val (rk_neqs (.of rfl) (.of rfl)) rfl ?_; refine a_m rfl rfl ?_; refine any_vG1 rfl rfl inferInstance (fun hg hgp => (rk_move (.of rfl))) rfl ?_; refine any_vG1 rfl rfl inferInstance (fun hg hgp => (rk_move (.of rfl))) rfl ?_; refine any_vG1 rfl rfl inferInstance (fun hg hgp => (rk_indexAddr (.ofg hg rfl) (.ofg hg rfl) rfl (by omega) hcd norm1_)) rfl ?_; refine any_vG1 rfl rfl inferInstance (fun hg hgp => (rk_fieldAddr (.ofg hg rfl) norm0_)) rfl ?_; refine any_vG1 rfl rfl inferInstance (fun hg hgp => (rk_loadB (.ofg hg rfl) .here s12 rfl)) rfl ?_; refine any_vG1 rfl rfl inferInstance (fun hg hgp => (rk_move (.of rfl))) rfl ?_; refine any_vG1 rfl rfl inferInstance (fun hg hgp => (rk_move (.of rfl))) rfl ?_; refine any_vG1 rfl rfl inferInstance (fun hg hgp => (rk_indexAddr (.ofg hg rfl) (.ofg hg rfl) rfl (by omega) (by omega) norm1_)) rfl ?_; refine any_vG1 rfl rfl inferInstance (fun hg hgp => (rk_fieldAddr (.ofg hg rfl) norm0_)) rfl ?_; refine any_vG1 rfl rfl inferInstance (fun hg hgp => (rk_loadB (.ofg hg rfl) (.there .here) t12 rfl)) rfl ?_; refine any_vG1 rfl rfl inferInstance (fun hg hgp => (rk_neqA (.ofg hg rfl) (.ofg hg rfl) (okL_int (okL_int okL_nil)) rfl)) rfl ?_; refine any_val (rk_pick_or (.of rfl) rfl) rfl ?_)
      with_reducible refine any_end ?_
      (refine n_t ?_; refine c_b rfl (fun hcd => ?_) (fun hcd => ?_); refine s_r ?_; refine a_s rfl rfl ?_; refine n_t ?_; refine tr_ret ?_; refine tr_blk_ret ?_; refine tr_then_ret ?_; refine tr_then_ret ?_; refine tr_blk_ret ?_; refine tr_then_ret ?_; refine tr_retE rfl (ends1 rfl rfl) ?_; rotate_left; refine tr_skip ?_; refine tr_blk_normal ?_; refine tr_then ?_; refine tr_region ?_; refine m_v rfl rfl ?_; refine tr_val (rk_add (.of rfl) (.of rfl) (ini (by omega))) rfl ?_; refine a_s rfl rfl ?_; refine n_t ?_; rotate_right)
      · have : dfB a b f = true := by
          unfold dfB
          rw [decide_eq_true_eq]
          intro e
          obtain ⟨e1, e2⟩ := Prod.mk.inj (hd.1 (hf.1 e)).1
          obtain ⟨e2, e3⟩ := Prod.mk.inj e2
          rcases hcd with h | h | h | h
          · exact h e1
          · exact h e2
          · exact h e3
          · cases h
        rw [this]; rfl
      have hee : ((nth a x0.toNat).nm, x1', x2') = ((nth b y0.toNat).nm, y1', y2') := by
        rw [Decidable.not_not.1 hcd.1, hcd.2.1, hcd.2.2.1]
      clear hcd
      apply tr_next (k + 1) ⟨(show k + 1 ≤ (shF a f).length from hlt), hf.trans (hd.trans ⟨fun e => e.2, fun e => ⟨hee, e⟩⟩)⟩ (show (shF a f).length - (k + 1) < (shF a f).length - k by omega)
      case hs1 => exact .cons rfl (.cons rfl (.cons rfl (.cons rfl (.cons rfl .nil))))
      case ht => exact .cons .here (.cons .here (.cons .here (.cons .here .nil)))
    · obtain rfl : k = (shF a f).length := by omega
      have he : vwL a f = vwL b f := hf.2 (by rw [List.drop_of_length_le (by omega), List.drop_of_length_le (by omega)])
      (refine tr_seq ?_; refine s_r ?_; refine m_v rfl rfl ?_; refine m_v rfl rfl ?_; refine tr_val (rk_len_slice (.of rfl)) rfl ?_; refine tr_val (rk_lss (.of rfl) (.of rfl)) rfl ?_; refine n_t ?_; refine c_d rfl (fun _ => by omega) (fun hcd => ?_); refine x_t ?_; refine tr_then_exit ?_; refine tr_blk_exit ?_; refine tr_then ?_; refine s_r ?_; refine a_s rfl rfl ?_; refine n_t ?_; refine tr_ret ?_; refine tr_retE rfl (ends1 rfl rfl) ?_)
      have : dfB a b f = false := by unfold dfB; rw [he]; simp
      rw [this]; rfl
  · have e0 : (shF a f).length = 0 := by omega
    have e1 : (shF b f).length = 0 := by omega
    rw [e0, e1]
    refine tr_for (ι := Unit) (fun _ => True) (fun _ => [(9, .int .i64 0), (7, .slice x1 0 y1)]) (fun _ => []) (fun _ => 0) ?_ ?_
    · apply tr_start () trivial
      case hs1 => exact .cons rfl (.cons rfl .nil)
      case ht => exact .nil
    rintro ⟨⟩ _
    (refine tr_seq ?_; refine s_r ?_; refine m_v rfl rfl ?_; refine m_v rfl rfl ?_; refine tr_val (rk_len_slice (.of rfl)) rfl ?_; refine tr_val (rk_lss (.of rfl) (.of rfl)) rfl ?_; refine n_t ?_; refine c_d rfl (fun _ => by omega) (fun hcd => ?_); refine x_t ?_; refine tr_then_exit ?_; refine tr_blk_exit ?_; refine tr_then ?_; refine s_r ?_; refine a_s rfl rfl ?_; refine n_t ?_; refine tr_ret ?_; refine tr_retE rfl (ends1 rfl rfl) ?_)
    have he : vwL a f = vwL b f := by rw [List.eq_nil_of_length_eq_zero (hva.trans e0), List.eq_nil_of_length_eq_zero (hvb.trans e1)]
    have : dfB a b f = false := by unfold dfB; rw [he]; simp
    rw [this]; rfl
set_option maxHeartbeats 2000000 in
theorem changedQ_c {sa sb : Value} {a b : List En} {w : World} (h1 : Rd w sa 6 (ensL a)) (h2 : Rd w sb 6 (ensL b)) (hsa : Sound a) (hsb : Sound b) :
    Gives Tryz.prog 93 [.agg #[sa], .agg #[sb]] w [] (ChOk a b) (fun x => .tuple #[.agg #[.int .i64 x.1, .int .i64 x.2.1], .int .i64 x.2.2]) (fun _ => []) := by
  have hone1 := Rd.one h1
  have hone2 := Rd.one h2
  have hen1 : ∀ w', Keeps [] w w' → GivesV Tryz.prog 163 [.agg #[sa]] w' (.int .i64 (enE a)) := fun w' hk => end_c (h1.keeps hk) hsa
  have hen2 : ∀ w', Keeps [] w w' → GivesV Tryz.prog 163 [.agg #[sb]] w' (.int .i64 (enE b)) := fun w' hk => end_c (h2.keeps hk) hsb
  have hi1 := hsa.enE_in
  have hi2 := hsb.enE_in
  have hend : ∀ m, enE a ≤ m → enE b ≤ m → dfB a b m = false := fun m ha hb => by
    unfold dfB
    rw [vw_off fun k hk => .inr (Int.le_trans (hsa.enE_ge hk) ha), vw_off fun k hk => .inr (Int.le_trans (hsb.enE_ge hk) hb)]
    simp
  have hneg : ∀ m, m < 0 → dfB a b m = false := fun m hm => df_neg hsa hsb hm
  refine gives_of_tr Tryz.func93 rfl rfl ?_
  (refine s_r ?_; refine tr_new (rk_box (.of rfl) rfl) rfl (fun _ _ => ?_); refine tr_new (rk_box (.of rfl) rfl) rfl (fun _ _ => ?_); refine tr_new (rk_alloc rfl) rfl (fun _ _ => ?_); refine a_s rfl rfl ?_; refine n_r ?_; refine tr_new (rk_alloc rfl) rfl (fun _ _ => ?_); refine n_r ?_; refine a_s rfl rfl ?_; refine n_t ?_; refine tr_seq ?_; refine s_r ?_; refine a_s rfl rfl ?_; refine n_t ?_; refine tr_block ?_)
  rename_i b2 hb2 b3 hb3 b4 hb4 b6 hb6
  refine tr_for (ι := Nat × Bool × Int × Int) (fun x => ((x.1 : Int) ≤ max (enE a) (enE b)) ∧ (x.2.1 = false → x.2.2 = (0, 0) ∧ ∀ m, m < (x.1 : Int) → dfB a b m = false) ∧ (x.2.1 = true → dfB a b x.2.2.1 = true ∧ (∀ m, m < x.2.2.1 → dfB a b m = false) ∧ dfB a b (x.2.2.2 - 1) = true ∧ x.2.2.2 ≤ (x.1 : Int) ∧ ∀ m, x.2.2.2 ≤ m → m < (x.1 : Int) → dfB a b m = false))
    (fun x => [(8, .int .i64 (x.1 : Int)), (7, .bool x.2.1), (2, .pointer (some ⟨b2, 0, none⟩)), (3, .pointer (some ⟨b3, 0, none⟩)), (4, .pointer (some ⟨b4, 0, none⟩)), (5, .int .i64 0), (6, .pointer (some ⟨b6, 0, none⟩))])
    (fun x => [blk b6 (.cells #[.int .i64 x.2.2.1, .int .i64 x.2.2.2] 66), blk b2 (.cells #[sa] 24), blk b3 (.cells #[sb] 24), blk b4 (.cells #[.int .i64 0, .int .i64 0] 66)]) (fun x => (max (enE a) (enE b) - (x.1 : Int)).toNat) ?_ ?_
  · apply tr_start (0, false, 0, 0) ⟨by show ((0 : Nat) : Int) ≤ _; omega, fun _ => ⟨rfl, fun m hm => hneg m (by simpa using hm)⟩, fun h => by cases h⟩
    case hs1 => exact .cons rfl (.cons rfl (.cons rfl (.cons rfl (.cons rfl (.cons rfl (.cons rfl .nil))))))
    case ht => exact .cons .here (.cons (.there (.there .here)) (.cons (.there .here) (.cons .here .nil)))
  rintro ⟨n, fnd, p, q⟩ ⟨hn, hF, hT⟩
  dsimp only at hn hF hT ⊢
  (refine tr_seq ?_; refine tr_seq ?_)
  with_reducible refine tr_draw 6 (by kernel_rfl) ?_
  (refine a_m rfl rfl ?_; refine any_val (rk_loadB (.of rfl) (.there .here) norm_ (by rfl)) rfl ?_; refine any_call (rk_call (.of rfl) (.cons (.of rfl) .nil) inferInstance normc_) rfl (fun w' hm' => (hen1 w' (Mem.keeps hm'))) ?_; refine any_val (rk_loadB (.of rfl) (.there (.there .here)) norm_ (by rfl)) rfl ?_; refine any_call (rk_call (.of rfl) (.cons (.of rfl) .nil) inferInstance normc_) rfl (fun w' hm' => (hen2 w' (Mem.keeps hm'))) ?_; refine any_val (rk_max2 (.of rfl) (.of rfl)) rfl ?_)
  with_reducible refine any_end ?_
  (refine tr_val (rk_lss (.of rfl) (.of rfl)) rfl ?_; refine n_t ?_; refine c_d rfl (fun hcd => ?_) (fun hcd => ?_); refine s_t ?_; refine tr_seq ?_; refine tr_block ?_; refine s_r ?_; refine tr_val (rk_loadB (.of rfl) (.there .here) norm_ (by rfl)) rfl ?_; refine tr_val (rk_loadB (.of rfl) (.there (.there .here)) norm_ (by rfl)) rfl ?_; refine m_v rfl rfl ?_; rotate_left; refine x_t ?_; refine tr_then_exit ?_; refine tr_blk_exit ?_; refine tr_then ?_; refine tr_seq ?_; rotate_right)
  · have hn1 : (n : Int) ≤ 10000000 := by omega
    have hal : ∀ w', Keeps [] w w' → GivesV Tryz.prog 173 [.agg #[sa], .agg #[sb], .int .i64 (n : Int)] w' (.bool (!dfB a b n)) := fun w' hk => alike_c (h1.keeps hk) (h2.keeps hk) hsa hsb (by omega) hn1
    cases hD : dfB a b (n : Int) with
    | false =>
      simp only [hD, Bool.not_false] at hal
      (refine tr_callV (rk_call (.of rfl) (.cons (.of rfl) (.cons (.of rfl) (.cons (.of rfl) .nil))) inferInstance normc_) rfl (fun w' hm' => (hal w' (Mem.keeps hm'))) ?_; refine tr_val (rk_not (.of rfl)) rfl ?_; refine n_t ?_; refine tr_cond_f (.of rfl) ?_; refine tr_skip ?_; refine tr_blk_normal ?_; refine tr_then ?_; refine tr_region ?_; refine m_v rfl rfl ?_; refine tr_val (rk_add (.of rfl) (.of rfl) (ini (by omega))) rfl ?_; refine a_s rfl rfl ?_; refine n_t ?_)
      apply tr_next (n + 1, fnd, p, q) ⟨by show ((n + 1 : Nat) : Int) ≤ _; omega, fun h => ⟨(hF h).1, fun m hm => by
        by_cases e : m = n
        · rw [e]; exact hD
        · exact (hF h).2 m (by dsimp only at hm; omega)⟩, fun h => by
        obtain ⟨t1, t2, t3, t4, t5⟩ := hT h
        refine ⟨t1, t2, t3, by show q ≤ ((n + 1 : Nat) : Int); omega, fun m h1 h2 => ?_⟩
        by_cases e : m = n
        · rw [e]; exact hD
        · exact t5 m h1 (by dsimp only at h2; omega)⟩ (by show (max (enE a) (enE b) - ((n + 1 : Nat) : Int)).toNat < (max (enE a) (enE b) - (n : Int)).toNat; omega)
      case hs1 => exact .cons rfl (.cons rfl (.cons rfl (.cons rfl (.cons rfl (.cons rfl (.cons rfl .nil))))))
      case ht => exact .cons .here (.cons .here (.cons .here (.cons .here .nil)))
    | true =>
      simp only [hD, Bool.not_true] at hal
      cases fnd with
      | false =>
        obtain ⟨f1, f2⟩ := hF rfl
        (refine tr_callV (rk_call (.of rfl) (.cons (.of rfl) (.cons (.of rfl) (.cons (.of rfl) .nil))) inferInstance normc_) rfl (fun w' hm' => (hal w' (Mem.keeps hm'))) ?_; refine tr_val (rk_not (.of rfl)) rfl ?_; refine n_t ?_; refine tr_cond_t (.of rfl) ?_; refine tr_seq ?_; refine s_r ?_; refine m_v rfl rfl ?_; refine tr_val (rk_not (.of rfl)) rfl ?_; refine n_t ?_; refine tr_cond_t (.of rfl) ?_; refine tr_region ?_; refine m_v rfl rfl ?_; refine f_a rfl rfl norm0_ ?_; refine tr_store (.of rfl) (.of rfl) .here rfl rfl (okc_cons rfl okc_nil) (lenb rfl) norm_ ?_; refine n_r ?_; refine a_s rfl rfl ?_; refine n_t ?_; refine tr_region ?_; refine m_v rfl rfl ?_; refine tr_val (rk_add (.of rfl) (.of rfl) (ini (by omega))) rfl ?_; refine f_a rfl rfl norm0_ ?_; refine tr_store (.of rfl) (.of rfl) .here rfl rfl (okc_cons rfl okc_nil) (lenb rfl) norm_ ?_; refine tr_nil ?_; refine tr_blk_normal ?_; refine tr_then ?_; refine tr_region ?_; refine m_v rfl rfl ?_; refine tr_val (rk_add (.of rfl) (.of rfl) (ini (by omega))) rfl ?_; refine a_s rfl rfl ?_; refine n_t ?_)
        apply tr_next (n + 1, true, (n : Int), (n : Int) + 1) ⟨by show ((n + 1 : Nat) : Int) ≤ _; omega, (fun h => by cases h), fun _ => ⟨hD, f2, by show dfB a b ((n : Int) + 1 - 1) = true; rw [Int.add_sub_cancel]; exact hD, by show (n : Int) + 1 ≤ ((n + 1 : Nat) : Int); omega, fun m h1 h2 => by dsimp only at h1 h2; omega⟩⟩ (by show (max (enE a) (enE b) - ((n + 1 : Nat) : Int)).toNat < (max (enE a) (enE b) - (n : Int)).toNat; omega)
        case hs1 => exact .cons rfl (.cons rfl (.cons rfl (.cons rfl (.cons rfl (.cons rfl (.cons rfl .nil))))))
        case ht => exact .cons .here (.cons .here (.cons .here (.cons .here .nil)))
      | true =>
        obtain ⟨t1, t2, t3, t4, t5⟩ := hT rfl
        (refine tr_callV (rk_call (.of rfl) (.cons (.of rfl) (.cons (.of rfl) (.cons (.of rfl) .nil))) inferInstance normc_) rfl (fun w' hm' => (hal w' (Mem.keeps hm'))) ?_; refine tr_val (rk_not (.of rfl)) rfl ?_; refine n_t ?_; refine tr_cond_t (.of rfl) ?_; refine tr_seq ?_; refine s_r ?_; refine m_v rfl rfl ?_; refine tr_val (rk_not (.of rfl)) rfl ?_; refine n_t ?_; refine tr_cond_f (.of rfl) ?_; refine s_t ?_; refine s_r ?_; refine a_s rfl rfl ?_; refine n_t ?_; refine tr_region ?_; refine m_v rfl rfl ?_; refine tr_val (rk_add (.of rfl) (.of rfl) (ini (by omega))) rfl ?_; refine f_a rfl rfl norm0_ ?_; refine tr_store (.of rfl) (.of rfl) .here rfl rfl (okc_cons rfl okc_nil) (lenb rfl) norm_ ?_; refine tr_nil ?_; refine tr_blk_normal ?_; refine tr_then ?_; refine tr_region ?_; refine m_v rfl rfl ?_; refine tr_val (rk_add (.of rfl) (.of rfl) (ini (by omega))) rfl ?_; refine a_s rfl rfl ?_; refine n_t ?_)
        apply tr_next (n + 1, true, p, (n : Int) + 1) ⟨by show ((n + 1 : Nat) : Int) ≤ _; omega, (fun h => by cases h), fun _ => ⟨t1, t2, by show dfB a b ((n : Int) + 1 - 1) = true; rw [Int.add_sub_cancel]; exact hD, by show (n : Int) + 1 ≤ ((n + 1 : Nat) : Int); omega, fun m h1 h2 => by dsimp only at h1 h2; omega⟩⟩ (by show (max (enE a) (enE b) - ((n + 1 : Nat) : Int)).toNat < (max (enE a) (enE b) - (n : Int)).toNat; omega)
        case hs1 => exact .cons rfl (.cons rfl (.cons rfl (.cons rfl (.cons rfl (.cons rfl (.cons rfl .nil))))))
        case ht => exact .cons .here (.cons .here (.cons .here (.cons .here .nil)))
  have hge : enE a ≤ n ∧ enE b ≤ n := by omega
  have hfin : ∀ m, (n : Int) ≤ m → dfB a b m = false := fun m hm => hend m (by omega) (by omega)
  clear hcd
  cases fnd with
  | false =>
    obtain ⟨f1, f2⟩ := hF rfl
    cases f1
    with_reducible refine tr_draw 4 (by kernel_rfl) ?_
    (refine any_val (rk_loadB (.of rfl) .here norm_ (by rfl)) rfl ?_; refine a_m rfl rfl ?_; refine any_val (rk_not (.of rfl)) rfl ?_; refine any_call (rk_call (.of rfl) (.cons (.of rfl) (.cons (.of rfl) .nil)) inferInstance normc_) rfl (fun w' hm' => (when_q _ 7 w')) ?_)
    with_reducible refine any_end ?_
    (refine tr_store (.of rfl) (.of rfl) (.there (.there (.there .here))) rfl rfl (okc_cons rfl (okc_cons rfl okc_nil)) (lenb rfl) norm_ ?_; refine a_s rfl rfl ?_; refine n_t ?_; refine tr_ret ?_)
    first | with_reducible apply tr_retM | with_reducible apply tr_endM
    case he => exact endsCT rfl inferInstance rfl .here norm_ (by rfl) (by rfl)
    case hR =>
      intro w' hm'
      exact gives_end (0, 0, 7) (.inr ⟨rfl, fun m => by
        by_cases e : m < (n : Int)
        · exact f2 m e
        · exact hfin m (by omega)⟩) (show Takes _ [] _ from Takes.nil) hm' rfl
  | true =>
    obtain ⟨t1, t2, t3, t4, t5⟩ := hT rfl
    with_reducible refine tr_draw 4 (by kernel_rfl) ?_
    (refine any_val (rk_loadB (.of rfl) .here norm_ (by rfl)) rfl ?_; refine a_m rfl rfl ?_; refine any_val (rk_not (.of rfl)) rfl ?_; refine any_call (rk_call (.of rfl) (.cons (.of rfl) (.cons (.of rfl) .nil)) inferInstance normc_) rfl (fun w' hm' => (when_q _ 7 w')) ?_)
    with_reducible refine any_end ?_
    (refine tr_store (.of rfl) (.of rfl) (.there (.there (.there .here))) rfl rfl (okc_cons rfl (okc_cons rfl okc_nil)) (lenb rfl) norm_ ?_; refine a_s rfl rfl ?_; refine n_t ?_; refine tr_ret ?_)
    first | with_reducible apply tr_retM | with_reducible apply tr_endM
    case he => exact endsCT rfl inferInstance rfl .here norm_ (by rfl) (by rfl)
    case hR =>
      intro w' hm'
      exact gives_end (p, q, 0) (.inl ⟨p, q, rfl, ⟨t1, t2, t3, fun m hm => by
        by_cases e : m < (n : Int)
        · exact t5 m hm e
        · exact hfin m (by omega)⟩⟩) (show Takes _ [] _ from Takes.nil) hm' rfl
end Go.Proofs.A1


/- R1 -/
namespace Go.Proofs.A1
open Go Go.SL

end Go.Proofs.A1


/- R2 -/
namespace Go.Proofs.A1
open Go Go.SL

end Go.Proofs.A1


/- R3 -/
namespace Go.Proofs.A1
open Go Go.SL

end Go.Proofs.A1


/- R4 -/
namespace Go.Proofs.A1
open Go Go.SL

end Go.Proofs.A1


/- R5 -/
namespace Go.Proofs.A1
open Go Go.SL

end Go.Proofs.A1


/- R6 -/
namespace Go.Proofs.A1
open Go Go.SL

theorem ind0 {α : Type} {l : List Oper} {i : Nat} {v : α} : Indep l i (fun _ => v) := fun _ _ _ => rfl
end Go.Proofs.A1


/- Q1p -/
/- Breaks: the rules of the reference and those of the program are the same. Plain Lean. -/
namespace Go.Proofs.A1
open Go Go.SL

end Go.Proofs.A1


/- R7 -/
namespace Go.Proofs.A1
open Go Go.SL

end Go.Proofs.A1


/- R8 -/
namespace Go.Proofs.A1
open Go Go.SL

end Go.Proofs.A1

