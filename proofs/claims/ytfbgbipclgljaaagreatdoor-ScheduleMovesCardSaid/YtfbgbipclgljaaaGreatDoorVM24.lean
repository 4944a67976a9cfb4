/- Parts of the proof: S82 TryzSort S83 S84p. -/
import Derived.Test.YtfbgbipclgljaaaGreatDoorVM22
import Derived.Test.YtfbgbipclgljaaaGreatDoorVM23
import Derived.Test.YtfbgbipclgljaaaGreatDoorVM06
import Derived.Shelf.Sort.Plain
import Derived.Shelf.Slices.CompactI
import Derived.Ground.NamesProg
import Derived.Ground.Names2Prog
import Derived.Test.YtfbgbipclgljaaaGreatDoorProg
import Derived.Shelf.Slices.In.SortNone
set_option linter.unusedSectionVars false
set_option linter.unusedVariables false
set_option linter.unusedSimpArgs false
/- S82 -/
namespace Go.Proofs.A1
open Go Go.SL

abbrev Sn := ByteArray × Int × Int
def senV (x : Sn) : List Value := [.string x.1, .int .i64 x.2.1, .int .i64 x.2.2]
theorem view1_c {bx : Nat} {lv : Value} {es : List En} {x : Int × Int × Int} {w : World} (hb : w.cell? ⟨bx, 0, none⟩ = some lv) (h : Rd w lv 8 (plRows es)) (hx : 0 ≤ x.1 ∧ x.1 < es.length) :
    GivesV Tryz.prog 207 [.agg (triV x).toArray, .pointer (some ⟨bx, 0, none⟩)] w (.agg (senV ((nth es x.1.toNat).nm, x.2)).toArray) := by
  obtain ⟨a, cp, b, o, rfl, hcap, hmax, ha, hc⟩ := h
  rw [plRows_length] at *
  unfold maxLen at hmax
  obtain ⟨i, p, q⟩ := x
  dsimp only at hx ⊢
  have hlt : i.toNat < es.length := by omega
  have ha' := ha (plRows_ne hlt)
  have hcell := (hc i.toNat _ (plRows_get hlt)).2
  have c0 : w.cell? ⟨b, o + i.toNat * 8, none⟩ = some (.string (nth es i.toNat).nm) := hcell 0 _ rfl
  unfold triV senV
  dsimp only
  refine givesV_of_tr Tryz.func207 rfl rfl ?_
  (refine s_r ?_; refine tr_new (rk_box (.of rfl) rfl) rfl (fun _ _ => ?_); refine tr_new (rk_alloc rfl) rfl (fun _ _ => ?_); refine n_t ?_; refine tr_seq ?_)
  with_reducible refine tr_draw 10 (by kernel_rfl) ?_
  (refine any_val (rk_load1 (.of rfl) (At.base hb rfl)) rfl ?_; refine a_f rfl rfl norm0_ ?_; refine any_val (rk_load1 (.of rfl) (At.lit (.there .here) rfl)) rfl ?_; refine any_val (rk_indexAddr (.of rfl) (.of rfl) ha' (by omega) (by omega) norm1_) rfl ?_; refine a_f rfl rfl norm0_ ?_; refine a_f rfl rfl norm0_ ?_; refine any_val (rk_load1 (.of rfl) (At.base c0 rfl)) rfl ?_; refine a_f rfl rfl norm0_ ?_; refine any_val (rk_loadB (.of rfl) (.there .here) norm_ (by rfl)) rfl ?_; refine any_val (rk_buildL (.cons (.of rfl) (.cons (.of rfl) .nil)) norm_) rfl ?_)
  with_reducible refine any_end ?_
  (refine tr_store (.of rfl) (.of rfl) .here rfl rfl (okc_cons rfl (okc_cons rfl (okc_cons rfl okc_nil))) (lenb rfl) norm_ ?_; refine n_t ?_; refine tr_ret ?_; refine tr_retE rfl (ends1cB rfl inferInstance rfl .here norm_ (by rfl)) ?_)
  rfl
def snsL (l : List Sn) : List (List Value) := l.map senV
theorem snsL_length (l : List Sn) : (snsL l).length = l.length := by simp [snsL]
theorem snsL_get {l : List Sn} {k : Nat} (h : k < l.length) : (snsL l)[k]? = some (senV l[k]) := by simp [snsL, h]
theorem snsL_ne {l : List Sn} {k : Nat} (h : k < l.length) : snsL l ≠ [] := by intro e; have := snsL_length l; rw [e] at this; simp at this; omega
theorem snsL_sz (l : List Sn) : ∀ r ∈ snsL l, r.length = 3 := by
  intro r hr
  obtain ⟨x, _, rfl⟩ := List.mem_map.1 hr
  rfl
theorem rdSns {c : Cx} {hs hs' : List Asn} {w : World} {E : TypeId} {v : Value} {l : List Sn} {n : Nat} (hm : Mem c hs w) (ht : Take hs (row E 3 v n (snsL l).flatten) hs') (hn : n = l.length) : Rd w v 3 (snsL l) :=
  hm.rdRow ht rfl (snsL_sz l) (by rw [hn]; exact snsL_length l)
theorem snsL_take {l : List Sn} {k : Nat} (h : k < l.length) : (snsL (l.take (k + 1))).flatten = (snsL (l.take k)).flatten ++ senV l[k] := by
  rw [List.take_add_one, List.getElem?_eq_getElem h, snsL, List.map_append, List.flatten_append]; simp [snsL]
theorem mapSn_c {lv : Value} {l : List (Int × Int × Int)} {F : Int × Int × Int → Sn} {cap : List Value} {w : World} (h : Rd w lv 3 (l.map triV)) (hn : l.length ≤ 1000)
    (hcall : ∀ x ∈ l, ∀ w', Keeps [] w w' → GivesV Tryz.prog 207 ([.agg (triV x).toArray] ++ cap) w' (.agg (senV (F x)).toArray)) :
    Gives Tryz.prog 206 [lv, .func (.func 207) #[] cap.toArray] w [] (fun _ : Value => True) id (fun v => [row 271 3 v l.length (snsL (l.map F)).flatten]) := by
  obtain ⟨a, cp, b, o, rfl, hcap, hmax, ha, hc⟩ := h
  rw [lenV triV l] at *
  unfold maxLen at hmax
  have hFl : (l.map F).length = l.length := List.length_map _
  refine gives_of_tr Tryz.func206 rfl rfl ?_
  (refine s_r ?_; refine a_s rfl rfl ?_; refine n_r ?_; refine a_s rfl rfl ?_; refine n_t ?_; refine tr_seq ?_; refine s_r ?_; refine m_v rfl rfl ?_; refine tr_val (rk_len_slice (.of rfl)) rfl ?_; refine m_v rfl rfl ?_; refine n_t ?_; refine tr_block ?_)
  refine tr_rowNil 271 3 ?_
  refine tr_for (ι := Nat × Value) (fun x => x.1 ≤ l.length) (fun x => [(10, .int .i64 x.1), (9, .int .i64 l.length), (8, .slice a l.length cp), (5, x.2), (1, .func (.func 207) #[] cap.toArray)]) (fun x => [row 271 3 x.2 x.1 (snsL ((l.map F).take x.1)).flatten]) (fun x => l.length - x.1) ?_ ?_
  · apply tr_start (0, .slice none 0 0) (Nat.zero_le _)
    case hs1 => exact .cons rfl (.cons rfl (.cons rfl (.cons rfl (.cons rfl .nil))))
    case ht =>
      show Takes _ [row 271 3 (.slice none 0 0) 0 []] _
      exact .cons .here .nil
  rintro ⟨k, v⟩ hk
  dsimp only at hk ⊢
  by_cases hlt : k < l.length
  · have ha' := ha (by intro e; rw [List.map_eq_nil_iff] at e; subst e; simp at hlt)
    have hcell := (hc k (triV l[k]) (by rw [List.getElem?_map, List.getElem?_eq_getElem hlt]; rfl)).2
    have hcl := hcall _ (List.getElem_mem hlt)
    have htk := snsL_take (l := l.map F) (k := k) (by rw [hFl]; exact hlt)
    rw [List.getElem_map] at htk
    generalize F l[k] = y at hcl htk
    obtain ⟨y0, y1, y2⟩ := y
    generalize l[k] = x at hcell hcl
    obtain ⟨x0, x1, x2⟩ := x
    unfold triV at hcell hcl
    unfold senV at hcl htk
    dsimp only at hcell hcl htk
    (refine s_r ?_; refine tr_val (rk_lss (.of rfl) (.of rfl)) rfl ?_; refine n_t ?_; refine tr_seq ?_; refine c_d rfl (fun hcd => ?_) (fun _ => by omega); refine s_t ?_; refine tr_seq ?_; refine tr_block ?_; refine s_r ?_; refine tr_val (rk_indexAddr (.of rfl) (.of rfl) ha' (by omega) hcd norm1_) rfl ?_; refine tr_val (rk_loadN (.of rfl) (Ats.base hcell rfl) rfl) rfl ?_; refine tr_new (rk_alloc rfl) rfl (fun _ _ => ?_); refine tr_store (.of rfl) (.of rfl) .here rfl rfl (okc_cons rfl (okc_cons rfl (okc_cons rfl okc_nil))) (lenb rfl) norm_ ?_; refine n_t ?_; refine tr_region ?_; refine m_v rfl rfl ?_; refine m_v rfl rfl ?_; refine tr_val (rk_loadB (.of rfl) .here norm_ (by rfl)) rfl ?_; refine tr_callV (rk_call (.of rfl) (.cons (.of rfl) .nil) inferInstance normc_) rfl (fun w' hm' => (hcl w' (Mem.keeps hm'))) ?_; refine tr_new (rk_sliceLitN (.cons (.of rfl) .nil) rfl rfl normp_ normp_ norm_) rfl (fun _ _ => ?_))
    refine tr_appendB (.of rfl) (.of rfl) (.there (.there .here)) .here norm_ (by rfl) (okc_cons rfl (okc_cons rfl (okc_cons rfl okc_nil))) (by rfl) (by rfl) (by rfl) lenx_ (by rfl) ?_
    intro v'
    (refine a_s rfl rfl ?_; refine tr_nil ?_; refine tr_blk_normal ?_; refine tr_then ?_; refine tr_region ?_; refine tr_val (rk_add (.of rfl) (.of rfl) (ini (by omega))) rfl ?_; refine m_v rfl rfl ?_; refine n_t ?_)
    apply tr_next (k + 1, v') (show k + 1 ≤ l.length by omega) (show l.length - (k + 1) < l.length - k by omega)
    case hs1 => exact .cons rfl (.cons rfl (.cons rfl (.cons rfl (.cons rfl .nil))))
    case ht =>
      show Takes _ [row 271 3 v' (k + 1) (snsL ((l.map F).take (k + 1))).flatten] _
      rw [htk]
      exact .cons .here .nil
  · obtain rfl : k = l.length := by omega
    rw [List.take_of_length_le (by omega)]
    (refine s_r ?_; refine tr_val (rk_lss (.of rfl) (.of rfl)) rfl ?_; refine n_t ?_; refine tr_seq ?_; refine c_d rfl (fun _ => by omega) (fun hcd => ?_); refine x_t ?_; refine tr_then_exit ?_; refine tr_blk_exit ?_; refine tr_then ?_; refine s_r ?_; refine m_v rfl rfl ?_; refine a_s rfl rfl ?_; refine n_t ?_; refine tr_ret ?_)
    first | with_reducible apply tr_retM | with_reducible apply tr_endM
    case he => exact ends1 rfl rfl
    case hR =>
      intro w' hm'
      exact gives_end v trivial (by exact .cons .here .nil) hm' rfl
theorem shF_ent {es : List En} (h : Sound es) (f : Int) : ∀ x ∈ shF es f, 0 ≤ x.1 ∧ x.1 < es.length := by
  intro x hx
  rcases h.air f with e | ⟨i, hi, hb, e⟩ | ⟨i, p, q, hi, e, _⟩
  · rw [e] at hx; cases hx
  · rw [e] at hx
    simp only [List.mem_singleton] at hx
    subst hx; dsimp only; omega
  · rw [e] at hx
    simp only [List.mem_cons, List.not_mem_nil, or_false] at hx
    rcases hx with rfl | rfl <;> dsimp only <;> omega
theorem shF_two {es : List En} (h : Sound es) (f : Int) : (shF es f).length ≤ 2 := by
  rcases h.air f with e | ⟨i, hi, hb, e⟩ | ⟨i, p, q, hi, e, _⟩ <;> rw [e] <;> simp
theorem vwL_len (es : List En) (f : Int) : (vwL es f).length = (shF es f).length := by rw [vwL, List.length_map]
theorem view_c {lv : Value} {es : List En} {f : Int} {w : World} (h : Rd w lv 8 (plRows es)) (hs : Sound es) :
    Gives Tryz.prog 170 [lv, .int .i64 f] w [] (fun _ : Value => True) id (fun v => [row 271 3 v (vwL es f).length (snsL (vwL es f)).flatten]) := by
  obtain ⟨a, n, cp, rfl⟩ := Rd.shape h
  refine gives_of_tr Tryz.func170 rfl rfl ?_
  (refine s_r ?_; refine tr_new (rk_box (.of rfl) rfl) rfl (fun _ _ => ?_); refine a_s rfl rfl ?_; refine n_r ?_; refine tr_val (rk_load1 (.of rfl) (At.lit .here rfl)) rfl ?_; refine m_v rfl rfl ?_)
  rename_i b2 hb2
  with_reducible apply tr_call
  case hr => exact rk_call (.of rfl) (.cons (.of rfl) (.cons (.of rfl) .nil)) inferInstance normc_
  case hd => rfl
  case ht => exact Takes.nil
  case hc =>
    intro w1 fp hm1 _ hs1
    obtain rfl : fp = [] := hs1
    exact shares_c (h.keeps hm1.keeps) hs
  intro v1 _
  dsimp only [id_eq, List.cons_append, List.nil_append]
  refine tr_val (rk_makeFunc' .nil (.cons (.of rfl) .nil)) rfl ?_
  with_reducible apply tr_call
  case hr => exact rk_call (.of rfl) (.cons (.of rfl) (.cons (.of rfl) .nil)) inferInstance normc_
  case hd => rfl
  case ht => exact Takes.nil
  case hc =>
    intro w1 fp hm1 _ hs1
    obtain rfl : fp = [] := hs1
    have hrd := rdTri (v := v1) hm1 (by exact .here)
    have key : Gives Tryz.prog 206 [v1, .func (.func 207) #[] #[.pointer (some ⟨b2, 0, none⟩)]] w1 [] (fun _ : Value => True) id (fun v => [row 271 3 v (vwL es f).length (snsL (vwL es f)).flatten]) := by
      rw [vwL_len]
      exact mapSn_c (F := fun x => ((nth es x.1.toNat).nm, x.2)) (cap := [.pointer (some ⟨b2, 0, none⟩)]) hrd (Nat.le_trans (shF_two hs f) (by decide)) fun x hx w2 hk2 => by
        have hm2 := hm1.keepsOn hk2
        refine view1_c (es := es) ?_ (h.keeps hm2.keeps) (shF_ent hs f x hx)
        have hb := hm2.blk (b := b2) (by exact Take.there .here)
        rw [cell_of_block hb]; rfl
    exact key
  intro v2 _
  dsimp only [id_eq, List.cons_append, List.nil_append]
  (refine a_s rfl rfl ?_; refine n_t ?_; refine tr_ret ?_)
  first | with_reducible apply tr_retM | with_reducible apply tr_endM
  case he => exact ends1 rfl rfl
  case hR =>
    intro w' hm'
    exact gives_end v2 trivial (by exact .cons .here .nil) hm' rfl
theorem sen_eq (x y : Sn) : decide (x = y) = (decide (x.1 = y.1) && (decide (x.2.1 = y.2.1) && (decide (x.2.2 = y.2.2) && true))) := by
  obtain ⟨a, b, c⟩ := x
  obtain ⟨d, e, f⟩ := y
  rw [Bool.and_true, ← Bool.decide_and, ← Bool.decide_and]
  exact decide_eq_decide.2 (by simp)
theorem senEq_c (x y : Sn) (w : World) : GivesV Tryz.prog 171 [.agg (senV x).toArray, .agg (senV y).toArray] w (.bool (decide (x = y))) := by
  rw [sen_eq]
  obtain ⟨a, b, c⟩ := x
  obtain ⟨d, e, f⟩ := y
  unfold senV
  dsimp only
  refine givesV_of_tr Tryz.func171 rfl rfl ?_
  (refine s_r ?_; refine tr_new (rk_box (.of rfl) rfl) rfl (fun _ _ => ?_); refine tr_new (rk_box (.of rfl) rfl) rfl (fun _ _ => ?_); refine a_s rfl rfl ?_; refine n_r ?_; refine tr_val (rk_loadB (.of rfl) (.there .here) norm_ (by rfl)) rfl ?_; refine tr_val (rk_loadB (.of rfl) .here norm_ (by rfl)) rfl ?_; refine tr_val (rk_eqlA (.of rfl) (.of rfl) (okL_string (okL_int (okL_int okL_nil))) rfl) rfl ?_; refine a_s rfl rfl ?_; refine n_t ?_; refine tr_ret ?_; refine tr_retE rfl (ends1 rfl rfl) ?_)
  rfl
theorem drop_eq_of {α : Type} {l m : List α} {k : Nat} (hl : k < l.length) (hm : k < m.length) (h : l[k] = m[k]) : (l.drop k = m.drop k) ↔ l.drop (k + 1) = m.drop (k + 1) := by
  rw [List.drop_eq_getElem_cons hl, List.drop_eq_getElem_cons hm, h]
  exact ⟨fun e => (List.cons.inj e).2, fun e => by rw [e]⟩
theorem eqSn_c {v1 v2 : Value} {l m : List Sn} {w : World} (h1 : Rd w v1 3 (snsL l)) (h2 : Rd w v2 3 (snsL m)) :
    GivesV Tryz.prog 169 [v1, v2, .func (.func 171) #[] #[]] w (.bool (decide (l = m))) := by
  obtain ⟨a1, cp1, b1, o1, rfl, hcap1, hmax1, ha1, hc1⟩ := h1
  obtain ⟨a2, cp2, b2, o2, rfl, hcap2, hmax2, ha2, hc2⟩ := h2
  rw [snsL_length] at *
  rw [snsL_length] at *
  unfold maxLen at hmax1 hmax2
  refine givesV_of_tr Tryz.func169 rfl rfl ?_
  (refine s_r ?_; refine a_s rfl rfl ?_; refine n_t ?_; refine tr_seq ?_; refine s_r ?_; refine m_v rfl rfl ?_; refine tr_val (rk_len_slice (.of rfl)) rfl ?_; refine m_v rfl rfl ?_; refine tr_val (rk_len_slice (.of rfl)) rfl ?_; refine tr_val (rk_neq (.of rfl) (.of rfl)) rfl ?_; refine n_t ?_; refine c_d rfl (fun hcd => ?_) (fun hcd => ?_); refine s_r ?_; refine a_s rfl rfl ?_; refine n_t ?_; refine r_t ?_; refine tr_retE rfl (ends1 rfl rfl) ?_; rotate_left; refine s_t ?_; refine tr_seq ?_; refine s_r ?_; refine m_v rfl rfl ?_; refine tr_val (rk_len_slice (.of rfl)) rfl ?_; refine m_v rfl rfl ?_; refine n_t ?_; refine tr_block ?_; rotate_right)
  · rw [decide_eq_false fun e => hcd (by rw [e])]
  have hlm : l.length = m.length := by omega
  refine tr_for (ι := Nat) (fun k => k ≤ l.length ∧ (l = m ↔ l.drop k = m.drop k)) (fun k => [(17, .int .i64 (k : Int)), (16, .int .i64 l.length), (15, .slice a1 l.length cp1), (1, .slice a2 m.length cp2), (2, .func (.func 171) #[] #[])]) (fun _ => []) (fun k => l.length - k) ?_ ?_
  · apply tr_start (0 : Nat) ⟨Nat.zero_le _, Iff.rfl⟩
    case hs1 => exact .cons rfl (.cons rfl (.cons rfl (.cons rfl (.cons rfl .nil))))
    case ht => (try simp only [List.take_zero, List.map_nil, List.nil_append]); exact .nil
  rintro k ⟨hk, hf⟩
  by_cases hlt : k < l.length
  · have hlt2 : k < m.length := by omega
    have ha1' := ha1 (snsL_ne hlt)
    have ha2' := ha2 (snsL_ne hlt2)
    have hcell1 := (hc1 k _ (snsL_get hlt)).2
    have hcell2 := (hc2 k _ (snsL_get hlt2)).2
    have hd := drop_eq_of (l := l) (m := m) hlt hlt2
    have hdn : l[k] ≠ m[k] → l.drop k ≠ m.drop k := fun hne e => hne (by
      rw [List.drop_eq_getElem_cons hlt, List.drop_eq_getElem_cons hlt2] at e
      exact (List.cons.inj e).1)
    generalize l[k] = x at hcell1 hd hdn
    generalize m[k] = y at hcell2 hd hdn
    obtain ⟨x0, x1, x2⟩ := x
    obtain ⟨y0, y1, y2⟩ := y
    have hse : ∀ w', GivesV Tryz.prog 171 [.agg #[.string x0, .int .i64 x1, .int .i64 x2], .agg #[.string y0, .int .i64 y1, .int .i64 y2]] w' (.bool (decide ((x0, x1, x2) = (y0, y1, y2)))) := fun w' => senEq_c (x0, x1, x2) (y0, y1, y2) w'
    unfold senV at hcell1 hcell2
    dsimp only at hcell1 hcell2
    (refine s_r ?_; refine tr_val (rk_lss (.of rfl) (.of rfl)) rfl ?_; refine n_t ?_; refine tr_seq ?_; refine c_d rfl (fun hcd => ?_) (fun _ => by omega); refine s_t ?_; refine tr_seq ?_; refine tr_block ?_; refine s_r ?_; refine m_v rfl rfl ?_; refine tr_val (rk_indexAddr (.of rfl) (.of rfl) ha1' (by omega) hcd norm1_) rfl ?_; refine tr_val (rk_loadN (.of rfl) (Ats.base hcell1 rfl) rfl) rfl ?_; refine tr_new (rk_alloc rfl) rfl (fun _ _ => ?_); refine a_s rfl rfl ?_; refine tr_store (.of rfl) (.of rfl) .here rfl rfl (okc_cons rfl (okc_cons rfl (okc_cons rfl okc_nil))) (lenb rfl) norm_ ?_; refine n_r ?_; refine m_v rfl rfl ?_; refine m_v rfl rfl ?_; refine tr_val (rk_indexAddr (.of rfl) (.of rfl) ha2' (by omega) (by omega) norm1_) rfl ?_; refine tr_val (rk_loadN (.of rfl) (Ats.base hcell2 rfl) rfl) rfl ?_; refine tr_new (rk_alloc rfl) rfl (fun _ _ => ?_); refine tr_store (.of rfl) (.of rfl) .here rfl rfl (okc_cons rfl (okc_cons rfl (okc_cons rfl okc_nil))) (lenb rfl) norm_ ?_; refine n_r ?_; refine m_v rfl rfl ?_; refine tr_val (rk_loadB (.of rfl) (.there .here) norm_ (by rfl)) rfl ?_; refine tr_val (rk_loadB (.of rfl) .here norm_ (by rfl)) rfl ?_; refine tr_callV (rk_call (.of rfl) (.cons (.of rfl) (.cons (.of rfl) .nil)) inferInstance normc_) rfl (fun w' hm' => (hse w')) ?_; refine tr_val (rk_not (.of rfl)) rfl ?_; refine n_t ?_; refine c_b rfl (fun hcd => ?_) (fun hcd => ?_); refine s_r ?_; refine a_s rfl rfl ?_; refine n_t ?_; refine tr_ret ?_; refine tr_blk_ret ?_; refine tr_then_ret ?_; refine tr_then_ret ?_; refine tr_blk_ret ?_; refine tr_then_ret ?_; refine tr_retE rfl (ends1 rfl rfl) ?_; rotate_left; refine tr_skip ?_; refine tr_blk_normal ?_; refine tr_then ?_; refine tr_region ?_; refine tr_val (rk_add (.of rfl) (.of rfl) (ini (by omega))) rfl ?_; refine m_v rfl rfl ?_; refine n_t ?_; rotate_right)
    · rw [decide_eq_false fun e => hdn hcd (hf.1 e)]
    · have he : ((x0, x1, x2) : Sn) = (y0, y1, y2) := by
        simpa using hcd
      clear hcd
      apply tr_next (k + 1) ⟨(show k + 1 ≤ l.length from hlt), hf.trans (hd he)⟩ (show l.length - (k + 1) < l.length - k by omega)
      case hs1 => exact .cons rfl (.cons rfl (.cons rfl (.cons rfl (.cons rfl .nil))))
      case ht => (try simp only [List.take_zero, List.map_nil, List.nil_append]); exact .nil
  · obtain rfl : k = l.length := by omega
    have : l = m := hf.2 (by rw [List.drop_length, hlm, List.drop_length])
    (refine s_r ?_; refine tr_val (rk_lss (.of rfl) (.of rfl)) rfl ?_; refine n_t ?_; refine tr_seq ?_; refine c_d rfl (fun _ => by omega) (fun hcd => ?_); refine x_t ?_; refine tr_then_exit ?_; refine tr_blk_exit ?_; refine tr_then ?_; refine s_r ?_; refine a_s rfl rfl ?_; refine n_t ?_; refine tr_ret ?_; refine tr_retE rfl (ends1 rfl rfl) ?_)
    rw [decide_eq_true this]
/-- the index of the first one with a property, or -1 -/
def idxD (D : Int → Bool) (l : List Int) : Int := ((List.range l.length).find? fun i => (l[i]?.map D).getD false).elim (-1) (fun i => (i : Int))
theorem idxD_at {D : Int → Bool} {l : List Int} {k : Nat} (h : ∀ i, i < k → (l[i]?.map D).getD false = false) (hk : k < l.length) (hp : D l[k] = true) : idxD D l = k := by
  unfold idxD
  have : (List.range l.length).find? (fun i => (l[i]?.map D).getD false) = some k := by
    rw [List.find?_range_eq_some]
    exact ⟨by simp [hk, hp], by simpa using hk, fun i hi => by simpa using h i hi⟩
  rw [this]; rfl
theorem idxD_none {D : Int → Bool} {l : List Int} (h : ∀ i, i < l.length → (l[i]?.map D).getD false = false) : idxD D l = -1 := by
  unfold idxD
  have : (List.range l.length).find? (fun i => (l[i]?.map D).getD false) = none := by
    rw [List.find?_eq_none]
    intro i hi
    simp [h i (List.mem_range.1 hi)]
  rw [this]; rfl
theorem idxD_cases (D : Int → Bool) (l : List Int) : (idxD D l = -1 ∧ ∀ x ∈ l, D x = false) ∨ ∃ k : Nat, ∃ hk : k < l.length, idxD D l = k ∧ D l[k] = true ∧ ∀ i (hi : i < k), D (l[i]'(by omega)) = false := by
  by_cases h : ∀ i, i < l.length → (l[i]?.map D).getD false = false
  · left
    refine ⟨idxD_none h, fun x hx => ?_⟩
    obtain ⟨i, hi, rfl⟩ := List.getElem_of_mem hx
    simpa [hi] using h i hi
  · right
    have : ∃ k, k < l.length ∧ (l[k]?.map D).getD false = true ∧ ∀ i, i < k → (l[i]?.map D).getD false = false := by
      apply Classical.byContradiction
      intro hc
      apply h
      intro i
      induction i using Nat.strongRecOn with
      | _ i ih =>
        intro hi
        cases hb : (l[i]?.map D).getD false with
        | false => rfl
        | true => exact absurd ⟨i, hi, hb, fun k hk => ih k hk (by omega)⟩ hc
    obtain ⟨k, hk, h1, h2⟩ := this
    have h3 : D l[k] = true := by simpa [hk] using h1
    exact ⟨k, hk, idxD_at h2 hk h3, h3, fun i hi => by have := h2 i hi; simpa [show i < l.length by omega] using this⟩
theorem idxI_c {lv : Value} {l : List Int} {D : Int → Bool} {f : FuncId} {first cap : List Value} [Bod Tryz.prog f] {w : World} (h : Rd w lv 1 (ints l)) (hcall : ∀ x ∈ l, ∀ w', Keeps [] w w' → GivesV Tryz.prog f (first ++ [.int .i64 x] ++ cap) w' (.bool (D x))) :
    GivesV Tryz.prog 172 [lv, .func (.func f) first.toArray cap.toArray] w (.int .i64 (idxD D l)) := by
  obtain ⟨a, cp, b, o, rfl, hcap, hmax, ha, hc⟩ := h
  rw [ints_length] at *
  unfold maxLen at hmax
  refine givesV_of_tr Tryz.func172 rfl rfl ?_
  (refine s_r ?_; refine a_s rfl rfl ?_; refine n_t ?_; refine tr_seq ?_; refine s_r ?_; refine m_v rfl rfl ?_; refine tr_val (rk_len_slice (.of rfl)) rfl ?_; refine m_v rfl rfl ?_; refine n_t ?_; refine tr_block ?_)
  refine tr_for (fun k : Nat => k ≤ l.length ∧ ∀ i, i < k → (l[i]?.map D).getD false = false) (fun k => [(8, .int .i64 k), (7, .int .i64 l.length), (0, .slice a l.length cp), (1, .func (.func f) first.toArray cap.toArray)]) (fun _ => []) (fun k => l.length - k) ?_ ?_
  · apply tr_start 0 ⟨Nat.zero_le _, fun i h => by omega⟩
    case hs1 => exact .cons rfl (.cons rfl (.cons rfl (.cons rfl .nil)))
    case ht => (try simp only [List.take_zero, List.map_nil, List.nil_append]); exact .nil
  rintro k ⟨hk, hf⟩
  by_cases hlt : k < l.length
  · have ha' := ha (ints_ne hlt)
    have c0 : w.cell? ⟨b, o + k * 1, none⟩ = some (.int .i64 l[k]) := (hc k _ (ints_get hlt)).2 0 _ rfl
    have hcl := hcall _ (List.getElem_mem hlt)
    have hps : (l[k]?.map D).getD false = D l[k] := by simp [hlt]
    (refine s_r ?_; refine tr_val (rk_lss (.of rfl) (.of rfl)) rfl ?_; refine n_t ?_; refine tr_seq ?_; refine c_d rfl (fun hcd => ?_) (fun _ => by omega); refine s_t ?_; refine tr_seq ?_; refine tr_block ?_; refine s_r ?_; refine m_v rfl rfl ?_; refine a_s rfl rfl ?_; refine n_r ?_; refine m_v rfl rfl ?_; refine m_v rfl rfl ?_; refine m_v rfl rfl ?_; refine tr_val (rk_indexAddr (.of rfl) (.of rfl) ha' (by omega) hcd norm1_) rfl ?_; refine tr_val (rk_load1 (.of rfl) (At.base c0 rfl)) rfl ?_; refine tr_callV (rk_call (.of rfl) (.cons (.of rfl) .nil) inferInstance normc_) rfl (fun w' hm' => (hcl w' (Mem.keeps hm'))) ?_; refine n_t ?_; refine c_b rfl (fun hcd => ?_) (fun hcd => ?_); refine s_r ?_; refine m_v rfl rfl ?_; refine a_s rfl rfl ?_; refine n_t ?_; refine tr_ret ?_; refine tr_blk_ret ?_; refine tr_then_ret ?_; refine tr_then_ret ?_; refine tr_blk_ret ?_; refine tr_then_ret ?_; refine tr_retE rfl (ends1 rfl rfl) ?_; rotate_left; refine tr_skip ?_; refine tr_blk_normal ?_; refine tr_then ?_; refine tr_region ?_; refine tr_val (rk_add (.of rfl) (.of rfl) (ini (by omega))) rfl ?_; refine m_v rfl rfl ?_; refine n_t ?_; rotate_right)
    · rw [idxD_at hf hlt hcd]
    · apply tr_next (k + 1) ⟨by omega, fun i hi => by
        by_cases e : i = k
        · rw [e, hps]; exact hcd
        · exact hf i (by omega)⟩ (by omega)
      case hs1 => exact .cons rfl (.cons rfl (.cons rfl (.cons rfl .nil)))
      case ht => (try simp only [List.take_zero, List.map_nil, List.nil_append]); exact .nil
  · obtain rfl : k = l.length := by omega
    (refine s_r ?_; refine tr_val (rk_lss (.of rfl) (.of rfl)) rfl ?_; refine n_t ?_; refine tr_seq ?_; refine c_d rfl (fun _ => by omega) (fun hcd => ?_); refine x_t ?_; refine tr_then_exit ?_; refine tr_blk_exit ?_; refine tr_then ?_; refine s_r ?_; refine a_s rfl rfl ?_; refine n_t ?_; refine tr_ret ?_; refine tr_retE rfl (ends1 rfl rfl) ?_)
    rw [idxD_none hf]
theorem ind0x {α : Type} {l : List Oper} {i : Nat} {v : α} : Indep l i (fun _ => v) := fun _ _ _ => rfl
theorem differs_c {va vb : Value} {a b : List En} {n : Int} {pa pb : Nat} {w : World} (ca : w.cell? ⟨pa, 0, none⟩ = some va) (cb : w.cell? ⟨pb, 0, none⟩ = some vb) (ha : Rd w va 8 (plRows a)) (hb : Rd w vb 8 (plRows b)) (hsa : Sound a) (hsb : Sound b) :
    GivesV Tryz.prog 168 [.int .i64 n, .pointer (some ⟨pa, 0, none⟩), .pointer (some ⟨pb, 0, none⟩)] w (.bool (dfB a b n)) := by
  obtain ⟨aa, na, cpa, rfl⟩ := Rd.shape ha
  obtain ⟨ab, nb, cpb, rfl⟩ := Rd.shape hb
  refine givesV_of_tr Tryz.func168 rfl rfl ?_
  (refine s_r ?_; refine a_s rfl rfl ?_; refine n_t ?_; refine tr_seq ?_)
  with_reducible refine tr_drawM 9 (by kernel_rfl) ?_
  (refine am_val (fun β => (rk_load1 (.of rfl) (At.base ca rfl))) ind0x rfl ?_; refine am_val (fun β => (rk_move (.of rfl))) ind0x rfl ?_)
  dsimp only [Nat.zero_add, Nat.reduceAdd]
  with_reducible apply am_call (ι := Value) (Φ := fun _ => True) (val := id) (own := fun v => [row 271 3 v (vwL a n).length (snsL (vwL a n)).flatten]) (g := id) (B := []) (args := fun _ => [.slice aa na cpa, .int .i64 n])
  case hg => exact fun x => ⟨x, rfl⟩
  case hB => rfl
  case hr => exact fun β => rk_call (.of rfl) (.cons (.of rfl) (.cons (.of rfl) .nil)) inferInstance rfl
  case hd => rfl
  case hc => exact fun β w' hb' => view_c (ha.keeps hb'.mem.keeps) hsa
  dsimp only [id_eq, Nat.reduceAdd]
  (refine am_val (fun β => (rk_load1 (.of rfl) (At.base cb rfl))) ind0x rfl ?_; refine am_val (fun β => (rk_move (.of rfl))) ind0x rfl ?_)
  dsimp only [Nat.reduceAdd]
  with_reducible apply am_call (ι := Value) (Φ := fun _ => True) (val := id) (own := fun v => [row 271 3 v (vwL b n).length (snsL (vwL b n)).flatten]) (g := id) (B := []) (args := fun _ => [.slice ab nb cpb, .int .i64 n])
  case hg => exact fun x => ⟨x, rfl⟩
  case hB => rfl
  case hr => exact fun β => rk_call (.of rfl) (.cons (.of rfl) (.cons (.of rfl) .nil)) inferInstance rfl
  case hd => rfl
  case hc => exact fun β w' hb' => view_c (hb.keeps hb'.mem.keeps) hsb
  dsimp only [id_eq, Nat.reduceAdd]
  with_reducible apply am_callV (B := [2, 5]) (F := fun _ => .bool (decide (vwL a n = vwL b n))) (args := fun β => [β 2, β 5, .func (.func 171) #[] #[]])
  case hB => kernel_rfl
  case hr => exact fun β => rk_call (.of rfl) (.cons (.of rfl) (.cons (.of rfl) (.cons (.of rfl) .nil))) inferInstance rfl
  case hi => exact ind0x
  case hd => rfl
  case hc =>
    intro β w' hb'
    have m2 := hb'.at 2 (by simp) (s := ⟨fun β => β 2, fun β => [row 271 3 (β 2) (vwL a n).length (snsL (vwL a n)).flatten]⟩) (by kernel_rfl)
    have m5 := hb'.at 5 (by simp) (s := ⟨fun β => β 5, fun β => [row 271 3 (β 5) (vwL b n).length (snsL (vwL b n)).flatten]⟩) (by kernel_rfl)
    dsimp only [List.cons_append, List.nil_append] at m2 m5
    exact eqSn_c (rdSns m2 (by exact .here) rfl) (rdSns m5 (by exact .here) rfl)
  (refine am_val (fun β => (rk_not (.of rfl))) ind0x rfl ?_; refine am_val (fun β => (rk_assign (.of rfl))) ind0x rfl ?_)
  refine am_end fun β => ?_
  dsimp only [resAll, List.nil_append, List.cons_append, List.append_eq, Nat.reduceAdd]
  with_reducible refine left_done (by kernel_rfl) ?_
  (refine tr_then ?_; refine tr_ret ?_; refine tr_retE rfl (ends1 rfl rfl) ?_)
  unfold dfB
  rw [decide_not]
end Go.Proofs.A1


/- TryzSort -/
/-
  DERIVED: THE SHELF's CONTRACTS AT THIS DUMP, IN PLAIN WORDS (tools/lay-plain.mjs out of 'TryzSort.lean', which tools/lay-shelf.mjs wrote): THE SAME DECLARATIONS UNDER THE SAME NAMES: 'import', 'namespace', 'open', 'def', 'theorem' AND NOTHING ELSE: no command of the shelf's: FOR A HAND-IN. Each laying: the table of numbers ('.._ren') and one theorem, a field a fact of the dump's own or the kernel's comparison; each contract: ONE APPLICATION.
-/
namespace Go.Proofs
open Go.Shelf
def Tryz.lays189_ren : Go.Shelf.Ren := ⟨fun | 189 => 204 | 125 => 222 | 257 => 221 | 128 => 244 | 129 => 245 | 294 => 235 | 295 => 236 | 296 => 237 | 297 => 238 | 298 => 239 | 299 => 240 | 216 => 241 | 300 => 242 | 301 => 243 | 328 => 255 | 329 => 256 | 330 => 257 | 331 => 258 | 332 => 259 | 215 => 180 | 343 => 268 | n => n, fun | 28 => 44 | 3 => 3 | 46 => 317 | 0 => 0 | 51 => 334 | 53 => 336 | 4 => 4 | 183 => 328 | 182 => 327 | 131 => 260 | 5 => 5 | 9 => 9 | 218 => 344 | 222 => 348 | 228 => 353 | 229 => 354 | n => n, fun | n => n⟩
theorem Tryz.lays189 : Go.Proofs.Lays.n189 Tryz.prog Tryz.lays189_ren := {
  mixed := by kernel_rfl
  f125 := Tryz.func222.trans (congrArg some (by kernel_rfl))
  f128 := Tryz.func244.trans (congrArg some (by kernel_rfl))
  f129 := Tryz.func245.trans (congrArg some (by kernel_rfl))
  f189 := Tryz.func204.trans (congrArg some (by kernel_rfl))
  f215 := Tryz.func180.trans (congrArg some (by kernel_rfl))
  f216 := Tryz.func241.trans (congrArg some (by kernel_rfl))
  f257 := Tryz.func221.trans (congrArg some (by kernel_rfl))
  f294 := Tryz.func235.trans (congrArg some (by kernel_rfl))
  f295 := Tryz.func236.trans (congrArg some (by kernel_rfl))
  f296 := Tryz.func237.trans (congrArg some (by kernel_rfl))
  f297 := Tryz.func238.trans (congrArg some (by kernel_rfl))
  f298 := Tryz.func239.trans (congrArg some (by kernel_rfl))
  f299 := Tryz.func240.trans (congrArg some (by kernel_rfl))
  f300 := Tryz.func242.trans (congrArg some (by kernel_rfl))
  f301 := Tryz.func243.trans (congrArg some (by kernel_rfl))
  f328 := Tryz.func255.trans (congrArg some (by kernel_rfl))
  f329 := Tryz.func256.trans (congrArg some (by kernel_rfl))
  f330 := Tryz.func257.trans (congrArg some (by kernel_rfl))
  f331 := Tryz.func258.trans (congrArg some (by kernel_rfl))
  f332 := Tryz.func259.trans (congrArg some (by kernel_rfl))
  f343 := Tryz.func268.trans (congrArg some (by kernel_rfl))
  t0 := Tryz.underlying0
  a0 := Tryz.isAgg0
  z0 := Tryz.sizeOf0
  v0 := Tryz.zeroValue0
  t3 := Tryz.underlying3
  a3 := Tryz.isAgg3
  z3 := Tryz.sizeOf3
  v3 := Tryz.zeroValue3
  t4 := Tryz.underlying4
  a4 := Tryz.isAgg4
  z4 := Tryz.sizeOf4
  v4 := Tryz.zeroValue4
  t5 := Tryz.underlying5
  a5 := Tryz.isAgg5
  z5 := Tryz.sizeOf5
  v5 := Tryz.zeroValue5
  t9 := Tryz.underlying9
  a9 := Tryz.isAgg9
  z9 := Tryz.sizeOf9
  v9 := Tryz.zeroValue9
  t28 := Tryz.underlying44
  a28 := Tryz.isAgg44
  z28 := Tryz.sizeOf44
  v28 := Tryz.zeroValue44
  t46 := Tryz.underlying317
  a46 := Tryz.isAgg317
  z46 := Tryz.sizeOf317
  v46 := Tryz.zeroValue317
  t51 := Tryz.underlying334
  a51 := Tryz.isAgg334
  z51 := Tryz.sizeOf334
  v51 := Tryz.zeroValue334
  t53 := Tryz.underlying336
  a53 := Tryz.isAgg336
  z53 := Tryz.sizeOf336
  v53 := Tryz.zeroValue336
  t131 := Tryz.underlying260
  a131 := Tryz.isAgg260
  z131 := Tryz.sizeOf260
  v131 := Tryz.zeroValue260
  t182 := Tryz.underlying327
  a182 := Tryz.isAgg327
  z182 := Tryz.sizeOf327
  v182 := Tryz.zeroValue327
  t183 := Tryz.underlying328
  a183 := Tryz.isAgg328
  z183 := Tryz.sizeOf328
  v183 := Tryz.zeroValue328
  t218 := Tryz.underlying344
  a218 := Tryz.isAgg344
  z218 := Tryz.sizeOf344
  v218 := Tryz.zeroValue344
  t222 := Tryz.underlying348
  a222 := Tryz.isAgg348
  z222 := Tryz.sizeOf348
  v222 := Tryz.zeroValue348
  t228 := Tryz.underlying353
  a228 := Tryz.isAgg353
  z228 := Tryz.sizeOf353
  v228 := Tryz.zeroValue353
  t229 := Tryz.underlying354
  a229 := Tryz.isAgg354
  z229 := Tryz.sizeOf354
  v229 := Tryz.zeroValue354 }
open Go.Sort Go.RowKit in
theorem Tryz.slices_Sort_int (blk off cap : Nat) (zs : List Int) (w : World) (hH : Holds (Value.int .i64) w blk off zs.toArray) (hblk : blk < w.heap.size) (hsz : zs.length < 4611686018427387904) :
    Calls Tryz.prog 204 #[.slice (some ⟨blk, off, none⟩) zs.length cap] w fun e w' =>
      e = .returned (.tuple #[]) ∧ ∃ n os, w' = grow (putRow (Value.int .i64) (Sort.ahead w n) blk off (zs.mergeSort fun x y => decide (x ≤ y)).toArray) os := Any.slices_Sort_int Tryz.lays189 blk off cap zs w hH hblk hsz
def Tryz.laysNm220_ren : Go.Shelf.Ren := ⟨fun | 20 => 164 | n => n, fun | 22 => 44 | 3 => 3 | 4 => 4 | 0 => 0 | n => n, fun | n => n⟩
theorem Tryz.laysNm220 : Go.Proofs.Lays2.n20 Tryz.prog Tryz.laysNm220_ren := {
  mixed := by kernel_rfl
  f20 := Tryz.func164.trans (congrArg some (by kernel_rfl))
  t0 := Tryz.underlying0
  a0 := Tryz.isAgg0
  z0 := Tryz.sizeOf0
  v0 := Tryz.zeroValue0
  t3 := Tryz.underlying3
  a3 := Tryz.isAgg3
  z3 := Tryz.sizeOf3
  v3 := Tryz.zeroValue3
  t4 := Tryz.underlying4
  a4 := Tryz.isAgg4
  z4 := Tryz.sizeOf4
  v4 := Tryz.zeroValue4
  t22 := Tryz.underlying44
  a22 := Tryz.isAgg44
  z22 := Tryz.sizeOf44
  v22 := Tryz.zeroValue44
  i3 := by kernel_rfl }
open Go.RowKit Go.Lib Go.Sort in
/-- slices.Compact at []int: "Compact replaces consecutive runs of equal elements with a single copy. This is like the uniq command found on Unix. Compact modifies the contents of the slice s and returns the modified slice, which may have a smaller length. Compact zeroes the elements between the new length and the original length. The result preserves the nilness of s.": IT RETURNS THE SLICE CUT TO 'Lib.compact zs'; ITS CELLS HOLD 'Lib.compact zs', THEN ZERO VALUES up to the old length; all else is as it was, but for the count of draws. IN THE WORDS OF slices.Sort's CONTRACT ('Holds', 'putRow'): so the everyday 'slices.Sort(xs); xs = slices.Compact(xs)' goes from the one contract to the other. It asks 'zs.length ≤ cap' (every slice's: the reslicing 's[:k]' looks at it). Length 0, nil: '.._empty'. (LAID: no walk: one application.) -/
theorem Tryz.slices_Compact_int (blk off cap : Nat) (zs : List Int) (w : World) (hH : Holds (Value.int .i64) w blk off zs.toArray) (hsz : zs.length ≤ 9223372036854775807) (hcap : zs.length ≤ cap) :
    Calls Tryz.prog 164 #[.slice (some ⟨blk, off, none⟩) zs.length cap] w fun e w' => e = .returned (.slice (some ⟨blk, off, none⟩) (Lib.compact zs).length cap) ∧ ∃ q, w' = putRow (Value.int .i64) (Sort.ahead w q) blk off (Lib.compact zs ++ List.replicate (zs.length - (Lib.compact zs).length) 0).toArray := Any.slices_Compact_int Tryz.laysNm220 blk off cap zs w hH hsz hcap
open Go.RowKit Go.Lib Go.Sort in
/-- The same at a slice of length 0, a nil one too: it comes back as it is. (LAID: no walk: one application.) -/
theorem Tryz.slices_Compact_int_empty (a : Option Addr) (cap : Nat) (w : World) :
    Calls Tryz.prog 164 #[.slice a 0 cap] w fun e w' => e = .returned (.slice a 0 cap) ∧ w' = w := Any.slices_Compact_int_empty Tryz.laysNm220 a cap w
end Go.Proofs


/- S83 -/
namespace Go.Proofs.A1
open Go Go.SL

/-! sorting and compacting in place: the shelf's contracts over an owned row -/
theorem put_heap {α : Type} [Inhabited α] {enc : α → Value} {w : World} {g n : Nat} {os : Array Obj} {cur : Array Value} {e : TypeId} {fr : Nat × Nat} (d : Array α) (hb : w.heap[g]? = some (.cells cur e fr)) :
    (Go.Sort.grow (Go.Sort.putRow enc (Go.Sort.ahead w n) g 0 d) os).heap[g]? = some (.cells (Go.Sort.putCells enc 0 d cur) e fr) := by
  have hg : g < w.heap.size := (Array.getElem?_eq_some_iff.1 hb).1
  rw [Go.Sort.heap_grow_old _ _ (by simpa using hg)]
  simp [Go.Sort.putRow, Go.Sort.mapBlock, Go.Sort.ahead, Array.getElem?_modify, hb, Go.Sort.onCells]
theorem put_keeps {α : Type} [Inhabited α] {enc : α → Value} {w : World} {g n : Nat} {os : Array Obj} (d : Array α) : Keeps [g] w (Go.Sort.grow (Go.Sort.putRow enc (Go.Sort.ahead w n) g 0 d) os) := by
  refine ⟨rfl, rfl, rfl, by simp, fun k hk hne => ?_⟩
  rw [Go.Sort.heap_grow_old _ _ (by simpa using hk)]
  have : g ≠ k := fun e => hne (by rw [e]; simp)
  simp [Go.Sort.putRow, Go.Sort.mapBlock, Go.Sort.ahead, Array.getElem?_modify, this]
theorem take_put {α : Type} [Inhabited α] {enc : α → Value} (cur : Array Value) (ts : List α) (h : ts.length ≤ cur.size) : (Go.Sort.putCells enc 0 ts.toArray cur).toList.take ts.length = ts.map enc := by
  apply List.ext_getElem?
  intro j
  by_cases hj : j < ts.length
  · rw [List.getElem?_take_of_lt hj, Array.getElem?_toList]
    simp [Go.Sort.putCells, hj, show j < cur.size by omega]
  · rw [List.getElem?_take_eq_none (by omega), List.getElem?_eq_none (by simp; omega)]
theorem holds_ints {w : World} {g : Nat} {cur : Array Value} {e : TypeId} {l : List Int} (hb : w.heap[g]? = some (.cells cur e (0, 0))) (ht : cur.toList.take l.length = intsV l) : Go.Sort.Holds (Value.int .i64) w g 0 l.toArray := by
  intro j hj
  have hj' : j < l.length := by simpa using hj
  refine ⟨?_, by simp [World.frozen?, hb]⟩
  have h1 : (cur.toList.take l.length)[j]? = (intsV l)[j]? := by rw [ht]
  rw [List.getElem?_take_of_lt hj'] at h1
  simp only [World.cell?, hb, Nat.zero_add]
  simp only [Option.isSome_none, Bool.false_eq_true, if_false]
  rw [Array.getElem?_toList] at h1
  rw [h1]
  simp [intsV, hj']
/-- in their order -/
def srt (l : List Int) : List Int := l.mergeSort fun x y => decide (x ≤ y)
theorem srt_len (l : List Int) : (srt l).length = l.length := List.length_mergeSort _
theorem sort_c {v : Value} {l : List Int} {n : Nat} {w : World} {fp : List Nat} (hn : n = l.length) (hl : n ≤ 1000000) (hs : Sats (hp w) [row 3 1 v n (intsV l)] fp) :
    Gives Tryz.prog 204 [v] w fp (fun _ : Unit => True) (fun _ => .tuple #[]) (fun _ => [row 3 1 v n (intsV (srt l))]) := by
  obtain ⟨f1, f2, rfl, h1, h2⟩ := hs
  obtain rfl : f2 = [] := h2
  obtain ⟨rfl, hlen, h1⟩ := h1
  rw [List.append_nil]
  rcases h1 with ⟨rfl, h0⟩ | ⟨g, cap, cur, rfl, hg, hc1, hc2, hc3, hc4⟩
  · have hl0 : l = [] := List.eq_nil_of_length_eq_zero (by omega)
    refine (Any.slices_Sort_int_none Tryz.lays189 none 0 w).mono fun e w' ⟨he, hw⟩ => ?_
    subst hw
    refine ⟨(), he, trivial, .refl _ _, [], List.nodup_nil, ⟨[], [], rfl, ⟨rfl, ?_, .inl ⟨rfl, h0⟩⟩, rfl⟩, by simp⟩
    rw [intsV_length, srt_len]; omega
  · rw [Nat.mul_one] at hc3 hc4
    have hgl : g < w.heap.size := (Array.getElem?_eq_some_iff.1 hg).1
    subst hn
    refine (Tryz.slices_Sort_int g 0 cap l w (holds_ints hg hc4) hgl (by omega)).mono fun e w' ⟨he, m, os, hw⟩ => ?_
    subst hw
    refine ⟨(), he, trivial, put_keeps _, [g], by simp, ⟨[g], [], rfl, ⟨rfl, ?_, .inr ⟨g, cap, _, rfl, put_heap _ hg, hc1, hc2, ?_, ?_⟩⟩, rfl⟩, by simp [Value.ownBlock]⟩
    · rw [intsV_length, srt_len]; omega
    · simp [Go.Sort.putCells, hc3]
    · rw [Nat.mul_one]
      have := take_put (enc := Value.int .i64) cur (srt l) (by rw [srt_len]; omega)
      rw [srt_len] at this
      exact this
theorem compact_le (l : List Int) : (Go.Lib.compact l).length ≤ l.length := by
  unfold Go.Lib.compact Go.Lib.compactUpTo
  rw [List.length_map]
  refine Nat.le_trans (List.length_filter_le _ _) ?_
  simp
theorem compact_c {v : Value} {l : List Int} {n : Nat} {w : World} {fp : List Nat} (hn : n = l.length) (hl : n ≤ 1000000) (hs : Sats (hp w) [row 3 1 v n (intsV l)] fp) :
    Gives Tryz.prog 164 [v] w fp (fun _ : Value => True) id (fun v' => [row 3 1 v' (Go.Lib.compact l).length (intsV (Go.Lib.compact l))]) := by
  obtain ⟨f1, f2, rfl, h1, h2⟩ := hs
  obtain rfl : f2 = [] := h2
  obtain ⟨rfl, hlen, h1⟩ := h1
  rw [List.append_nil]
  have hle := compact_le l
  rcases h1 with ⟨rfl, h0⟩ | ⟨g, cap, cur, rfl, hg, hc1, hc2, hc3, hc4⟩
  · have hl0 : (Go.Lib.compact l).length = 0 := by omega
    refine (Tryz.slices_Compact_int_empty none 0 w).mono fun e w' ⟨he, hw⟩ => ?_
    subst hw
    refine ⟨.slice none 0 0, he, trivial, .refl _ _, [], List.nodup_nil, ⟨[], [], rfl, ⟨rfl, ?_, .inl ⟨rfl, hl0⟩⟩, rfl⟩, by simp⟩
    rw [intsV_length]; omega
  · rw [Nat.mul_one] at hc3 hc4
    have hgl : g < w.heap.size := (Array.getElem?_eq_some_iff.1 hg).1
    subst hn
    refine (Tryz.slices_Compact_int g 0 cap l w (holds_ints hg hc4) (by omega) hc1).mono fun e w' ⟨he, m, hw⟩ => ?_
    have hw2 : w' = Go.Sort.grow (Go.Sort.putRow (Value.int .i64) (Go.Sort.ahead w m) g 0 (Go.Lib.compact l ++ List.replicate (l.length - (Go.Lib.compact l).length) 0).toArray) #[] := by rw [hw]; simp
    subst hw2
    clear hw
    refine ⟨.slice (some ⟨g, 0, none⟩) (Go.Lib.compact l).length cap, he, trivial, put_keeps _, [g], by simp, ⟨[g], [], rfl, ⟨rfl, ?_, .inr ⟨g, cap, _, rfl, put_heap _ hg, by omega, hc2, ?_, ?_⟩⟩, rfl⟩, by simp [Value.ownBlock]⟩
    · rw [intsV_length]; omega
    · simp [Go.Sort.putCells, hc3]
    · rw [Nat.mul_one]
      have := take_put (enc := Value.int .i64) cur (Go.Lib.compact l ++ List.replicate (l.length - (Go.Lib.compact l).length) 0) (by simp; omega)
      have h2 := congrArg (List.take (Go.Lib.compact l).length) this
      rw [List.take_take, List.map_append, Nat.min_eq_left (by simp), List.take_append_of_le_length (by simp), List.take_of_length_le (l := List.map (Value.int .i64) (Go.Lib.compact l)) (by simp)] at h2
      exact h2
/-! values -/
theorem values_c (a : Option Addr) (n cp : Nat) (w : World) :
    Gives Tryz.prog 166 [.slice a n cp] w [] (fun _ : Nat => True) (fun x => .func (.func 205) #[] #[.pointer (some ⟨x, 0, none⟩)]) (fun x => [blk x (.cells #[.slice a n cp] 44 (0, 0))]) := by
  refine gives_of_tr Tryz.func166 rfl rfl ?_
  (refine s_r ?_; refine tr_new (rk_box (.of rfl) rfl) rfl (fun _ _ => ?_); refine a_s rfl rfl ?_; refine n_r ?_; refine tr_val (rk_makeFunc' .nil (.cons (.of rfl) .nil)) rfl ?_; refine a_s rfl rfl ?_; refine n_t ?_; refine tr_ret ?_)
  rename_i b hb
  first | with_reducible apply tr_retM | with_reducible apply tr_endM
  case he => exact ends1 rfl rfl
  case hR =>
    intro w' hm'
    exact gives_end b trivial (by exact .cons .here .nil) hm' rfl
def iItems (l : List Int) : List (List Value) := l.map fun i => [Value.int .i64 i]
theorem iItems_length (l : List Int) : (iItems l).length = l.length := by simp [iItems]
theorem iItems_get {l : List Int} {k : Nat} (h : k < l.length) : (iItems l)[k]? = some [.int .i64 l[k]] := by simp [iItems, h]
theorem valIter_c {bx : Nat} {sv : Value} {l : List Int} {w0 w : World} {md : List Nat} (hcb : w0.cell? ⟨bx, 0, none⟩ = some sv) (h1 : Rd w0 sv 1 (ints l)) (hmd : bx ∉ md) (o1 : Out md sv (ints l)) :
    Iter Tryz.prog 205 [] [.pointer (some ⟨bx, 0, none⟩)] [] (iItems l) w0 md w := by
  intro l' fp J E hB hF hn hs hy
  have hrd1 := h1.keepsN o1 hB
  have ho1 := h1.out (by omega) o1 hF
  have hcb' := cell_keepsN hcb hmd hB
  have hnbx : bx ∉ fp := fun hq => by
    have hb := World.block_lt_of_cell? w0 _ hcb
    rcases hF _ hq with h | h
    · exact hmd h
    · exact absurd hb (by simp; omega)
  rw [iItems_length]
  obtain ⟨a, cap, b, o, rfl, hcap, hmax, ha, hc⟩ := hrd1
  rw [ints_length] at *
  unfold maxLen at hmax
  refine givesM_of_tr Tryz.func205 rfl rfl hn hs ?_
  (refine s_r ?_; refine tr_val (rk_load1 (.of rfl) (At.baseN hcb' hnbx)) rfl ?_; refine tr_val (rk_len_slice (.of rfl)) rfl ?_; refine m_v rfl rfl ?_; refine n_t ?_; refine tr_block ?_)
  refine tr_for (fun k : Nat => k ≤ l.length) (fun k => [(7, .int .i64 k), (6, .int .i64 l.length), (5, .slice a l.length cap), (0, .func (.yield l') #[] #[])])
    (fun k => [J k]) (fun k => l.length - k) ?_ ?_
  · apply tr_start 0 (by omega)
    case hs1 => exact .cons rfl (.cons rfl (.cons rfl (.cons rfl .nil)))
    case ht => exact .cons .here .nil
  intro k hk
  by_cases hlt : k < l.length
  · have ha' := ha (ints_ne hlt)
    have c0 : w.cell? ⟨b, o + k * 1, none⟩ = some (.int .i64 l[k]) := (hc k _ (ints_get hlt)).2 0 _ rfl
    have hnb := ho1.not_mem (ints_ne hlt) ha'
    have hyk := hy k _ (iItems_get hlt)
    (refine s_r ?_; refine tr_val (rk_lss (.of rfl) (.of rfl)) rfl ?_; refine n_t ?_; refine tr_seq ?_; refine c_d rfl (fun hcd => ?_) (fun _ => by omega); refine s_t ?_; refine tr_seq ?_; refine tr_block ?_; refine s_r ?_; refine tr_val (rk_indexAddr (.of rfl) (.of rfl) ha' (by omega) hcd norm1_) rfl ?_; refine tr_val (rk_load1 (.of rfl) (At.baseN c0 hnb)) rfl ?_; refine a_s rfl rfl ?_; refine n_r ?_; refine m_v rfl rfl ?_; refine m_v rfl rfl ?_)
    with_reducible apply tr_yieldB hB hF hyk
    case hx => exact Is.of rfl
    case ha => exact .cons (.of rfl) .nil
    case hd => rfl
    case ht => exact .here
    intro q
    cases q with
    | false =>
      simp only [cond_false]
      (refine tr_val (rk_not (.of rfl)) rfl ?_; refine n_t ?_; refine tr_cond_t (.of rfl) ?_; refine tr_ret ?_; refine tr_blk_ret ?_; refine tr_then_ret ?_; refine tr_then_ret ?_; refine tr_blk_ret ?_)
      first | with_reducible apply tr_retM | with_reducible apply tr_endM
      case he => exact ends0 rfl
      case hR =>
        intro w' hm'
        exact gives_end false trivial (show Takes _ [E] _ by exact .cons .here .nil) hm' rfl
    | true =>
      simp only [cond_true]
      (refine tr_val (rk_not (.of rfl)) rfl ?_; refine n_t ?_; refine tr_cond_f (.of rfl) ?_; refine tr_skip ?_; refine tr_blk_normal ?_; refine tr_then ?_; refine tr_region ?_; refine tr_val (rk_add (.of rfl) (.of rfl) (ini (by omega))) rfl ?_; refine m_v rfl rfl ?_; refine n_t ?_)
      apply tr_next (k + 1) (by omega) (by omega)
      case hs1 => exact .cons rfl (.cons rfl (.cons rfl (.cons rfl .nil)))
      case ht => exact .cons .here .nil
  · obtain rfl : k = l.length := by omega
    (refine s_r ?_; refine tr_val (rk_lss (.of rfl) (.of rfl)) rfl ?_; refine n_t ?_; refine tr_seq ?_; refine c_d rfl (fun _ => by omega) (fun hcd => ?_); refine x_t ?_; refine tr_then_exit ?_; refine tr_blk_exit ?_)
    first | with_reducible apply tr_retM | with_reducible apply tr_endM
    case he => exact ends0 rfl
    case hR =>
      intro w' hm'
      exact gives_end true trivial (show Takes _ [J l.length] _ by exact .cons .here .nil) hm' rfl
theorem ints_take {l : List Int} {k : Nat} (h : k < l.length) : intsV (l.take (k + 1)) = intsV (l.take k) ++ [.int .i64 l[k]] := by
  rw [List.take_add_one, List.getElem?_eq_getElem h, intsV_app]; rfl
theorem appSeq_c {bx : Nat} {sv : Value} {l : List Int} {w : World} (hcb : w.cell? ⟨bx, 0, none⟩ = some sv) (h1 : Rd w sv 1 (ints l)) (hl : l.length ≤ 1000000) :
    Gives Tryz.prog 220 [.slice none 0 0, .func (.func 205) #[] #[.pointer (some ⟨bx, 0, none⟩)]] w [] (fun _ : Value => True) id (fun v => [row 3 1 v l.length (intsV l)]) := by
  refine gives_of_tr Tryz.func220 rfl rfl ?_
  (refine s_r ?_; refine tr_new (rk_box (.of rfl) rfl) rfl (fun _ _ => ?_); refine a_s rfl rfl ?_; refine n_t ?_; refine tr_seq ?_; refine s_r ?_; refine m_v rfl rfl ?_; refine n_t ?_; refine tr_block ?_)
  rename_i b2 hb2
  refine tr_rowNil 3 1 ?_
  refine tr_rangeSeq (ps := [7]) (f := 205) (first := []) (cap := [.pointer (some ⟨bx, 0, none⟩)]) (ι := Nat × Value) (κ := Empty) (rst := []) ?hg
    [] (iItems l) ?hit (fun k x => x.1 = k ∧ k ≤ l.length)
    (fun x => [blk b2 (.cells #[x.2] 44 (0, 0)), row 3 1 x.2 x.1 (intsV (l.take x.1))])
    (fun _ => False) (fun _ => []) (fun _ => .ret) (0, .slice none 0 0) ⟨rfl, Nat.zero_le _⟩ ?ht ?hlen ?hps ?round ?kn ?kj
  case hg => exact Is.of rfl
  case hit => intro w' hm'; exact valIter_c hcb h1 (by simp) (Out.nil _ _)
  case ht =>
    show Takes _ [blk b2 (.cells #[.slice none 0 0] 44 (0, 0)), row 3 1 (.slice none 0 0) 0 []] _
    exact .cons (.there .here) (.cons .here .nil)
  case hlen => intro vs hvs; obtain ⟨x, _, rfl⟩ := List.mem_map.1 hvs; rfl
  case hps => intro t ht; simp only [List.mem_cons, List.not_mem_nil, or_false] at ht; subst ht; exact Nat.le_of_ble_eq_true rfl
  case kj => intro y; cases y
  case kn =>
    rintro ⟨n, v⟩ D ⟨hq, _⟩
    dsimp only [List.cons_append, List.nil_append] at hq ⊢
    rw [iItems_length] at hq
    subst hq
    rw [List.take_length]
    (refine tr_blk_normal ?_; refine tr_then ?_; refine s_r ?_; refine tr_val (rk_load1 (.of rfl) (At.lit .here rfl)) rfl ?_; refine a_s rfl rfl ?_; refine n_t ?_; refine tr_ret ?_)
    refine tr_rowSl (E := 3) (sz := 1) (by exact Take.there .here) fun va vc e => ?_
    subst e
    skip
    first | with_reducible apply tr_retM | with_reducible apply tr_endM
    case he => exact ends1 rfl rfl
    case hR =>
      intro w' hm'
      exact gives_end (.slice va l.length vc) trivial (show Takes _ [row 3 1 (.slice va l.length vc) l.length (intsV l)] _ by exact .cons (.there .here) .nil) hm' rfl
  case round =>
    rintro l2 rc W fp k ⟨n, v⟩ vs hsz hk ⟨hq, hkl⟩ hB hF
    dsimp only at hq
    subst hq
    have hlt : n < l.length := by have := (List.getElem?_eq_some_iff.1 hk).1; rwa [iItems_length] at this
    rw [iItems_get hlt, Option.some.injEq] at hk
    subst hk
    have htk := ints_take hlt
    have hlk : (l.take n).length = n := List.length_take_of_le (by omega)
    dsimp only [List.zip_cons_cons, List.zip_nil_right, putAll, List.cons_append, List.nil_append]
    (refine tr_region ?_; refine a_s rfl rfl ?_; refine n_t ?_)
    with_reducible apply tr_begin
    case ht => exact .here
    refine tr_rowSl (E := 3) (sz := 1) (by exact Take.there (.there .here)) fun v1 v2 e => ?_
    subst e
    (refine tr_block ?_; refine tr_region ?_; refine tr_val (rk_load1 (.of rfl) (At.lit (.there .here) rfl)) rfl ?_; refine m_v rfl rfl ?_; refine tr_new (rk_sliceLit (.cons (.of rfl) .nil) rfl rfl rfl rfl) rfl (fun _ _ => ?_))
    refine tr_appendB (.of rfl) (.of rfl) (.there (.there (.there .here))) .here norm_ (by rfl) (okc_cons rfl okc_nil) (by rfl) (by rfl) (by rfl) lenx_ (by rfl) ?_
    intro v'
    refine tr_rowSl (by exact .here) fun a' cap' e => ?_
    subst e
    (refine tr_store (.of rfl) (.of rfl) (.there (.there (.there .here))) rfl rfl (okc_cons rfl okc_nil) (lenb rfl) norm_ ?_; refine tr_nil ?_; refine tr_blk_normal ?_)
    apply tr_seqN (n + 1, .slice a' (n + 1) cap')
    case ht => exact Take.there (.there (.there .here))
    case hx => exact ⟨rfl, hlt⟩
    case h2 =>
      show Takes _ [blk b2 (.cells #[.slice a' (n + 1) cap'] 44 (0, 0)), row 3 1 (.slice a' (n + 1) cap') (n + 1) (intsV (l.take (n + 1)))] _
      rw [htk]
      exact .cons .here (.cons .here .nil)
theorem collect_c {bx : Nat} {sv : Value} {l : List Int} {w : World} (hcb : w.cell? ⟨bx, 0, none⟩ = some sv) (h1 : Rd w sv 1 (ints l)) (hl : l.length ≤ 1000000) :
    Gives Tryz.prog 203 [.func (.func 205) #[] #[.pointer (some ⟨bx, 0, none⟩)]] w [] (fun _ : Value => True) id (fun v => [row 3 1 v l.length (intsV l)]) := by
  refine gives_of_tr Tryz.func203 rfl rfl ?_
  (refine s_r ?_; refine a_s rfl rfl ?_; refine n_r ?_; refine m_v rfl rfl ?_)
  with_reducible apply tr_call
  case hr => exact rk_call (.of rfl) (.cons (.of rfl) (.cons (.of rfl) .nil)) inferInstance normc_
  case hd => rfl
  case ht => exact Takes.nil
  case hc =>
    intro w1 fp hm1 _ hs1
    obtain rfl : fp = [] := hs1
    exact appSeq_c (cell_keepsN hcb (by simp) hm1.keeps) (h1.keeps hm1.keeps) hl
  intro v _
  dsimp only [id_eq, List.cons_append, List.nil_append]
  (refine a_s rfl rfl ?_; refine n_t ?_; refine tr_ret ?_)
  first | with_reducible apply tr_retM | with_reducible apply tr_endM
  case he => exact ends1 rfl rfl
  case hR =>
    intro w' hm'
    exact gives_end v trivial (by exact .cons .here .nil) hm' rfl
theorem sorted_c {bx : Nat} {sv : Value} {l : List Int} {w : World} (hcb : w.cell? ⟨bx, 0, none⟩ = some sv) (h1 : Rd w sv 1 (ints l)) (hl : l.length ≤ 1000000) :
    Gives Tryz.prog 165 [.func (.func 205) #[] #[.pointer (some ⟨bx, 0, none⟩)]] w [] (fun _ : Value => True) id (fun v => [row 3 1 v l.length (intsV (srt l))]) := by
  refine gives_of_tr Tryz.func165 rfl rfl ?_
  (refine s_r ?_; refine a_s rfl rfl ?_; refine n_r ?_; refine m_v rfl rfl ?_)
  with_reducible apply tr_call
  case hr => exact rk_call (.of rfl) (.cons (.of rfl) .nil) inferInstance normc_
  case hd => rfl
  case ht => exact Takes.nil
  case hc =>
    intro w1 fp hm1 _ hs1
    obtain rfl : fp = [] := hs1
    exact collect_c (cell_keepsN hcb (by simp) hm1.keeps) (h1.keeps hm1.keeps) hl
  intro v _
  dsimp only [id_eq, List.cons_append, List.nil_append]
  (refine a_s rfl rfl ?_; refine n_r ?_; refine m_v rfl rfl ?_)
  with_reducible apply tr_call (As := [row 3 1 v l.length (intsV l)])
  case hr => exact rk_call (.of rfl) (.cons (.of rfl) .nil) inferInstance normc_
  case hd => rfl
  case ht => exact .cons .here .nil
  case hc => exact fun w1 fp hm1 _ hs1 => sort_c rfl hl hs1
  intro u _
  dsimp only [List.cons_append, List.nil_append]
  (refine n_r ?_; refine m_v rfl rfl ?_; refine a_s rfl rfl ?_; refine n_t ?_; refine tr_ret ?_)
  first | with_reducible apply tr_retM | with_reducible apply tr_endM
  case he => exact ends1 rfl rfl
  case hR =>
    intro w' hm'
    exact gives_end v trivial (by exact .cons .here .nil) hm' rfl
end Go.Proofs.A1


/- S84p -/
/- All turns of two schedules, in their order, each once. Plain Lean, no program in sight. -/
namespace Go.Proofs.A1
open Go Go.SL

theorem srt_mem {l : List Int} {x : Int} : x ∈ srt l ↔ x ∈ l := (List.mergeSort_perm _ _).mem_iff
theorem srt_inc (l : List Int) : (srt l).Pairwise (· ≤ ·) := by
  have h := List.pairwise_mergeSort (le := fun x y : Int => decide (x ≤ y)) (fun a b c h1 h2 => by simp only [decide_eq_true_eq] at *; omega) (fun a b => by simp only [Bool.or_eq_true, decide_eq_true_eq]; omega) l
  exact h.imp fun h => by simpa using h
theorem bang_eq {l : List Int} {j : Nat} (h : j < l.length) : l.toArray[j]! = l[j] := by simp [h]
theorem compact_mem {l : List Int} {x : Int} : x ∈ Go.Lib.compact l ↔ x ∈ l := by
  unfold Go.Lib.compact Go.Lib.compactUpTo
  rw [List.mem_map]
  constructor
  · rintro ⟨j, hj, rfl⟩
    have := List.mem_range.1 (List.mem_filter.1 hj).1
    rw [bang_eq this]; exact List.getElem_mem this
  · intro hx
    obtain ⟨j, hj, rfl⟩ := List.getElem_of_mem hx
    induction j with
    | zero => exact ⟨0, List.mem_filter.2 ⟨List.mem_range.2 hj, by simp [Go.Lib.keeps]⟩, bang_eq hj⟩
    | succ j ih =>
      by_cases e : l[j + 1] = l[j]
      · rw [e]; exact ih (by omega) (List.getElem_mem _)
      · refine ⟨j + 1, List.mem_filter.2 ⟨List.mem_range.2 hj, ?_⟩, bang_eq hj⟩
        unfold Go.Lib.keeps
        rw [decide_eq_true_eq, bang_eq hj, Nat.add_sub_cancel, bang_eq (show j < l.length by omega)]
        exact .inr e
theorem compact_inc {l : List Int} (h : l.Pairwise (· ≤ ·)) : (Go.Lib.compact l).Pairwise (· < ·) := by
  unfold Go.Lib.compact Go.Lib.compactUpTo
  rw [List.pairwise_map, List.pairwise_filter]
  have hm : ∀ i j (hi : i < l.length) (hj : j < l.length), i ≤ j → l[i] ≤ l[j] := fun i j hi hj hij => by
    by_cases e : i = j
    · subst e; exact Int.le_refl _
    · exact List.pairwise_iff_getElem.1 h i j hi hj (by omega)
  rw [List.pairwise_iff_getElem]
  intro i j hi hj hij h1 h2
  rw [List.length_range] at hi hj
  rw [List.getElem_range, List.getElem_range, bang_eq hi, bang_eq hj]
  rw [List.getElem_range] at h2
  unfold Go.Lib.keeps at h2
  rw [decide_eq_true_eq] at h2
  rcases h2 with h2 | h2
  · omega
  · rw [bang_eq hj, bang_eq (show j - 1 < l.length by omega)] at h2
    have a1 := hm i (j - 1) hi (by omega) (by omega)
    have a2 := hm (j - 1) j (by omega) hj (by omega)
    omega
/-- all turns -/
def tnsL (a b : List En) : List Int := Go.Lib.compact (srt (tnL a a.length ++ tnL b b.length))
theorem mem_tns {a b : List En} {n : Int} : n ∈ tnsL a b ↔ n ∈ tnL a a.length ∨ n ∈ tnL b b.length := by
  unfold tnsL
  rw [compact_mem, srt_mem, List.mem_append]
theorem turns_ok {a b : List En} (ha : Sound a) (hb : Sound b) : Turns (dfB a b) (tnsL a b) := by
  refine ⟨fun n hn => ?_, fun n hn => df_neg ha hb hn, compact_inc (srt_inc _)⟩
  rw [mem_tns] at hn
  exact df_still ha hb (fun h => hn (.inl h)) (fun h => hn (.inr h))
theorem tns_len {a b : List En} (ha : Sound a) (hb : Sound b) : (tnsL a b).length ≤ 20000 := by
  have h1 := compact_le (srt (tnL a a.length ++ tnL b b.length))
  have h2 := ha.tn_len _ (Nat.le_refl _)
  have h3 := hb.tn_len _ (Nat.le_refl _)
  have h4 := ha.all.few
  have h5 := hb.all.few
  rw [srt_len, List.length_append] at h1
  unfold tnsL; omega
/-- what 'Changed' answers for two valid schedules -/
def ChOk (a b : List En) (x : Int × Int × Int) : Prop := (∃ p q, x = (p, q, 0) ∧ ChSp (dfB a b) p q) ∨ (x = (0, 0, 7) ∧ ∀ n, dfB a b n = false)
theorem ChOk.same {a b : List En} {x y : Int × Int × Int} (hx : ChOk a b x) (hy : ChOk a b y) : x = y := by
  rcases hx with ⟨p, q, rfl, h⟩ | ⟨rfl, h⟩ <;> rcases hy with ⟨p', q', rfl, h'⟩ | ⟨rfl, h'⟩
  · obtain ⟨rfl, rfl⟩ := h.same h'; rfl
  · have := h.p1; rw [h' p] at this; cases this
  · have := h'.p1; rw [h p'] at this; cases this
  · rfl
def chE (a b : List En) : Int := firstF [chkF a, chkF b]
def ChR (a b : List En) (x : Int × Int × Int) : Prop := (chE a b ≠ 0 ∧ x = (0, 0, chE a b)) ∨ (chE a b = 0 ∧ ChOk a b x)
theorem chE_zero {a b : List En} (h : chE a b = 0) : chkF a = 0 ∧ chkF b = 0 := by
  unfold chE at h
  rw [firstF_zero] at h
  simpa using h
/-- the last turn is not changed -/
theorem tns_last {a b : List En} (ha : Sound a) (hb : Sound b) {k : Nat} (hk : k < (tnsL a b).length) (hl : k + 1 = (tnsL a b).length) : dfB a b (tnsL a b)[k] = false := by
  refine df_end fun m hm => ?_
  obtain ⟨j, hj, rfl⟩ := List.getElem_of_mem (mem_tns.2 hm)
  by_cases e : j = k
  · subst e; exact Int.le_refl _
  · have := (turns_ok ha hb).lt (i := j) (j := k) (by omega) hk
    omega
theorem tns_in {a b : List En} (ha : Sound a) (hb : Sound b) {n : Int} (h : n ∈ tnsL a b) : 0 ≤ n ∧ n ≤ 10000000 := by
  rcases mem_tns.1 h with h | h
  · exact ⟨(tn_in ha h).1, (tn_in ha h).2.1⟩
  · exact ⟨(tn_in hb h).1, (tn_in hb h).2.1⟩
end Go.Proofs.A1

