/- Parts of the proof: S88 S74p S89 S56 S57 S58 S74 S59 S60 S61p. -/
import Derived.Test.YtfbgbipclgljaaaGreatDoorBM22
import Derived.Test.YtfbgbipclgljaaaGreatDoorBM23
import Derived.Test.YtfbgbipclgljaaaGreatDoorBM06
import Derived.Test.YtfbgbipclgljaaaGreatDoorBM15
import Derived.Test.YtfbgbipclgljaaaGreatDoorBM19
set_option linter.unusedSectionVars false
set_option linter.unusedVariables false
set_option linter.unusedSimpArgs false
/- S88 -/
namespace Go.Proofs.A1
open Go Go.SL

theorem poolL_app {E : TypeId} : ∀ {vs : List Value} {xs : List (List Value)} {us : List Value} {ys : List (List Value)}, vs.length = xs.length → poolL E (vs ++ us) (xs ++ ys) = poolL E vs xs ++ poolL E us ys
  | [], [], _, _, _ => rfl
  | [], _ :: _, _, _, h => by simp at h
  | _ :: _, [], _, _, h => by simp at h
  | v' :: vs, x' :: xs, us, ys, h => by
    simp only [List.length_cons, Nat.add_right_cancel_iff] at h
    simp only [List.cons_append, poolL, poolL_app h]
theorem tr_poolApp {c : Cx} {D : List Nat} {sl : Slots} {hs : List Asn} {X : Act → World → Prop} {E : TypeId} {vs us : List Value} {xs ys : List (List Value)} {h1 h2 : List Asn} (ht : Take hs (pool E vs xs) h1) (ht2 : Take h1 (pool E us ys) h2) (hl : vs.length = xs.length)
    (k : Tr c D sl (pool E (vs ++ us) (xs ++ ys) :: h2) X) : Tr c D sl hs X := fun a w hst => by
  have hT : Takes hs [pool E vs xs, pool E us ys] h2 := .cons ht (.cons ht2 .nil)
  have hm := hst.mem.takes (hT.append (mks D))
  obtain ⟨kk, fp, hn', ⟨f1, f2', rfl, g1, ⟨f2, f3, rfl, g2, g3⟩⟩, hb⟩ := hm
  refine k a w (hst.heap ⟨kk, (f1 ++ f2) ++ f3, by rw [List.append_assoc]; exact hn', ⟨f1 ++ f2, f3, rfl, ?_, g3⟩, by rw [List.append_assoc]; exact hb⟩)
  show Sats (hp w) (poolL E (vs ++ us) (xs ++ ys)) (f1 ++ f2)
  rw [poolL_app hl]
  exact Sats.append_iff.2 ⟨f1, f2, rfl, g1, g2⟩
theorem pool_one {c : Cx} {hs hs' : List Asn} {w : World} {E : TypeId} {vs : List Value} {xs : List (List Value)} (hm : Mem c hs w) (ht : Take hs (pool E vs xs) hs') (hl : vs.length = xs.length) : ∀ u ∈ vs, u.oneCell' = true := fun u hu => by
  obtain ⟨j, hj, rfl⟩ := List.getElem_of_mem hu
  exact Rd.one (hm.rdPool ht (List.getElem?_eq_getElem hj) (List.getElem?_eq_getElem (by omega)))
theorem flat_one : ∀ l : List Value, (l.map fun u => [u]).flatten = l
  | [] => rfl
  | x :: l => by rw [List.map_cons, List.flatten_cons, flat_one l]; rfl
theorem natsL_flat (o : List Nat) : (natsL o).flatten = natsV o := by rw [← natsV_rows, flat_one]
theorem hasN_c {v : Value} {o : List Nat} {i : Nat} {w : World} (h : Rd w v 1 (natsL o)) : GivesV Tryz.prog 136 [v, .int .i64 (i : Int)] w (.bool (o.contains i)) := by
  rw [natsL_ints] at h
  rw [← contains_nat]
  exact hasQ_c _ h
/-- there are not too many -/
theorem fills_few {b : Br} (hb : b.sp.length ≤ 8) : ∀ (f : Nat) (o : List Nat), (fillsF b f o).length ≤ 9 ^ f
  | 0, o => by
    rw [fillsF]
    split <;> simp
  | f + 1, o => by
    rw [fillsF]
    split
    · simp
    · rw [List.length_cons]
      have hk : ∀ n, n ≤ b.sp.length → (subF b f o n).length ≤ n * 9 ^ f := by
        intro n
        induction n with
        | zero => intro _; simp [subF]
        | succ n ih =>
          intro hn
          have h1 := ih (by omega)
          have h2 := fills_few hb f (o ++ [n])
          rw [subF_succ, List.length_append, Nat.succ_mul]
          split
          · simp; omega
          · omega
      have h3 := hk b.sp.length (Nat.le_refl _)
      have h4 : b.sp.length * 9 ^ f ≤ 8 * 9 ^ f := Nat.mul_le_mul_right _ hb
      have h5 : 0 < 9 ^ f := Nat.pos_of_ne_zero (by simp)
      unfold subF at h3
      rw [Nat.pow_succ]; omega
theorem pow_few {f : Nat} (h : f ≤ 8) : 9 ^ f ≤ 43046721 := Nat.le_trans (Nat.pow_le_pow_right (by decide) h) (by decide)
theorem sub_few {b : Br} (hb : b.sp.length ≤ 8) {f : Nat} {o : List Nat} : ∀ n, n ≤ b.sp.length → (subF b f o n).length ≤ n * 9 ^ f
  | 0, _ => by simp [subF]
  | n + 1, hn => by
    have h1 := sub_few hb (f := f) (o := o) n (by omega)
    have h2 := fills_few hb f (o ++ [n])
    rw [subF_succ, List.length_append, Nat.succ_mul]
    split
    · simp; omega
    · omega
theorem nats_one (o : List Nat) : ∀ r ∈ natsL o, ∀ u ∈ r, u.oneCell' = true := by
  intro r hr
  obtain ⟨x, _, rfl⟩ := List.mem_map.1 hr
  exact okc_cons rfl okc_nil
def hdV (b : Br) (o : List Nat) (v : Value) : List Value := if fitE b o = 0 then [v] else []
def glstB (N : Nat) : Value → { x : Value × List Value // x.2.length = N }
  | .agg cs => if h : (cs.toList.tail).length = N then ⟨(cs.getD 0 undef, cs.toList.tail), h⟩ else ⟨(undef, List.replicate N undef), by simp⟩
  | _ => ⟨(undef, List.replicate N undef), by simp⟩
theorem glstB_of (N : Nat) (x : { x : Value × List Value // x.2.length = N }) : ∃ v, glstB N v = x := by
  obtain ⟨⟨v, vs⟩, h⟩ := x
  refine ⟨.agg (v :: vs).toArray, ?_⟩
  have h' : vs.length = N := h
  simp [glstB, h']
set_option maxHeartbeats 4000000 in
theorem fillsQ_c {b : Br} (hok : BrOk b) {sv cv xv : Value} : ∀ (f : Nat) (o : List Nat) (v : Value) (w : World), f ≤ 8 → Dif b.sp.length o → b.sp.length ≤ o.length + f → Rd w sv 4 (spsL b.sp) → Rd w cv 1 (ints b.cm) → Rd w xv 2 (prsL b.ex) → Rd w v 1 (natsL o) →
    Gives Tryz.prog 143 [.agg #[.int .i64 b.n, sv, cv, xv], v] w [] (fun x : { x : Value × List Value // x.2.length = (fillsF b f o).length - 1 } => True) (fun x => x.1.1) (fun x => [row 44 1 x.1.1 (fillsF b f o).length (hdV b o v ++ x.1.2), pool 3 x.1.2 ((fillsF b f o).tail.map natsV)]) := by
  intro f
  induction f using Nat.strongRecOn with
  | _ f ih =>
  intro o v w hf8 hdif hfu h1 h2 h3 h4
  have hfew := hok.few
  have hlen := hdif.len
  have hone2 := Rd.one h2
  have hone3 := Rd.one h3
  obtain ⟨va, vn, vc, rfl⟩ := Rd.shape h4
  have h1' := h1
  obtain ⟨a, cap, bs, os, rfl, hcap, hmax, ha, hc⟩ := h1'
  rw [spsL_length] at hcap
  rw [spsL_length] at h1 ih ⊢
  unfold maxLen at hmax
  have hrule : ∀ w', Keeps [] w w' → GivesV Tryz.prog 56 [.agg #[.int .i64 b.n, .slice a b.sp.length cap, cv, xv], .slice va vn vc] w' (.int .i64 (fitE b o)) := fun w' hk => by
    have := ruleQ_c (h1.keeps hk) (h2.keeps hk) (h3.keeps hk) (h4.keeps hk) hok hdif.lt (by omega)
    rwa [ruleQ_eq hok hdif.lt] at this
  have hhas : ∀ (i : Nat) w', Keeps [] w w' → GivesV Tryz.prog 136 [.slice va vn vc, .int .i64 (i : Int)] w' (.bool (o.contains i)) := fun i w' hk => hasN_c (h4.keeps hk)
  refine gives_of_tr Tryz.func143 rfl rfl ?_
  (refine s_r ?_; refine tr_new (rk_box (.of rfl) rfl) rfl (fun _ _ => ?_); refine a_s rfl rfl ?_; refine n_t ?_; refine tr_seq ?_; refine s_r ?_; refine tr_val (rk_loadB (.of rfl) .here norm_ (by rfl)) rfl ?_; refine m_v rfl rfl ?_; refine tr_callV (rk_call (.of rfl) (.cons (.of rfl) (.cons (.of rfl) .nil)) inferInstance normc_) rfl (fun w' hm' => (hrule w' (Mem.keeps hm'))) ?_; refine tr_val (rk_neq (.of rfl) (.of rfl)) rfl ?_; refine n_t ?_; refine c_d rfl (fun hcd => ?_) (fun hcd => ?_); refine s_r ?_; refine a_s rfl rfl ?_; refine n_t ?_; refine r_t ?_; rotate_left; refine s_t ?_; refine s_r ?_; refine m_v rfl rfl ?_; refine tr_new (rk_sliceLit (.cons (.of rfl) .nil) rfl rfl rfl rfl) rfl (fun _ _ => ?_); refine a_s rfl rfl ?_; refine n_t ?_; refine tr_seq ?_; refine s_r ?_; refine a_s rfl rfl ?_; refine n_t ?_; refine tr_block ?_; rotate_right)
  · have hE := fillsF_bad (f := f) hcd
    have hhd : hdV b o (.slice va vn vc) = [] := by rw [hdV, if_neg hcd]
    rw [hhd]
    refine tr_poolNil 3 ?_
    refine tr_rowNil 44 1 ?_
    first | with_reducible apply tr_retM | with_reducible apply tr_endM
    case he => exact ends1 rfl rfl
    case hR =>
      intro w' hm'
      exact gives_end ⟨(.slice none 0 0, []), by rw [hE]; rfl⟩ trivial (show Takes _ [row 44 1 (.slice none 0 0) (fillsF b f o).length [], pool 3 [] ((fillsF b f o).tail.map natsV)] _ by
        rw [hE]
        show Takes _ [row 44 1 (.slice none 0 0) 0 [], pool 3 [] []] _
        exact .cons .here (.cons .here .nil)) hm' rfl
  have hz : fitE b o = 0 := Decidable.not_not.1 hcd
  clear hcd
  have hE := fillsF_eq hdif hfu hz
  have hhd : hdV b o (.slice va vn vc) = [.slice va vn vc] := by rw [hdV, if_pos hz]
  rw [hE, hhd]
  skip
  rename_i b2 hb2 bq hbq
  refine tr_rowLitE (g := bq) (E := 44) (ys := [.slice va vn vc]) 1 1 (by exact .here) rfl rfl rfl ?_
  refine tr_poolNil 3 ?_
  refine tr_for (ι := Nat × Value × List Value) (fun x => x.1 ≤ b.sp.length ∧ x.2.2.length = (subF b (f - 1) o x.1).length) (fun x => [(6, .int .i64 (x.1 : Int)), (5, x.2.1), (2, .pointer (some ⟨b2, 0, none⟩)), (1, .slice va vn vc)])
    (fun x => [row 44 1 x.2.1 (1 + x.2.2.length) (.slice va vn vc :: x.2.2), pool 3 x.2.2 ((subF b (f - 1) o x.1).map natsV), blk b2 (.cells #[.int .i64 b.n, .slice a b.sp.length cap, cv, xv] 83)]) (fun x => b.sp.length - x.1) ?_ ?_
  · apply tr_start (0, .slice (some ⟨bq, 0, none⟩) 1 1, []) ⟨Nat.zero_le _, rfl⟩
    case hs1 => exact .cons rfl (.cons rfl (.cons rfl (.cons rfl .nil)))
    case ht =>
      show Takes _ [row 44 1 (.slice (some ⟨bq, 0, none⟩) 1 1) 1 [.slice va vn vc], pool 3 [] [], _] _
      exact .cons (.there .here) (.cons .here (.cons .here .nil))
  rintro ⟨i, out, t⟩ ⟨hi, ht⟩
  dsimp only at hi ht ⊢
  by_cases hlt : i < b.sp.length
  · have hsuc := subF_succ b (f - 1) o i
    cases hcon : o.contains i with
    | true =>
      rw [hcon, if_pos rfl, List.append_nil] at hsuc
      have hhi : ∀ w', Keeps [] w w' → GivesV Tryz.prog 136 [.slice va vn vc, .int .i64 (i : Int)] w' (.bool true) := fun w' hk => by
        have := hhas i w' hk
        rwa [hcon] at this
      (refine tr_seq ?_; refine s_r ?_; refine m_v rfl rfl ?_; refine f_a rfl rfl norm0_ ?_; refine tr_val (rk_load1 (.of rfl) (At.lit (.there (.there .here)) rfl)) rfl ?_; refine tr_val (rk_len_slice (.of rfl)) rfl ?_; refine tr_val (rk_lss (.of rfl) (.of rfl)) rfl ?_; refine n_t ?_; refine c_d rfl (fun hcd => ?_) (fun _ => by omega); refine s_t ?_; refine tr_seq ?_; refine tr_block ?_; refine s_r ?_; refine m_v rfl rfl ?_; refine m_v rfl rfl ?_; refine tr_callV (rk_call (.of rfl) (.cons (.of rfl) (.cons (.of rfl) .nil)) inferInstance normc_) rfl (fun w' hm' => (hhi w' (Mem.keeps hm'))) ?_; refine tr_val (rk_not (.of rfl)) rfl ?_; refine n_t ?_; refine tr_cond_f (.of rfl) ?_; refine tr_skip ?_; refine tr_blk_normal ?_; refine tr_then ?_; refine tr_region ?_; refine m_v rfl rfl ?_; refine tr_val (rk_add (.of rfl) (.of rfl) (ini (by omega))) rfl ?_; refine a_s rfl rfl ?_; refine n_t ?_)
      rw [← hsuc] at ht ⊢
      apply tr_next (i + 1, out, t) ⟨(show i + 1 ≤ b.sp.length from hlt), ht⟩ (show b.sp.length - (i + 1) < b.sp.length - i by omega)
      case hs1 => exact .cons rfl (.cons rfl (.cons rfl (.cons rfl .nil)))
      case ht => exact .cons .here (.cons .here (.cons .here .nil))
    | false =>
      rw [hcon, if_neg (by decide)] at hsuc
      have hhi : ∀ w', Keeps [] w w' → GivesV Tryz.prog 136 [.slice va vn vc, .int .i64 (i : Int)] w' (.bool false) := fun w' hk => by
        have := hhas i w' hk
        rwa [hcon] at this
      have hdi := hdif.snoc hlt hcon
      have hli := hdi.len
      rw [List.length_append, List.length_singleton] at hli
      have hrec : ∀ (u : Value) w', Keeps [] w w' → Rd w' u 1 (natsL (o ++ [i])) → _ := fun u w' hk hr => ih (f - 1) (by omega) (o ++ [i]) u w' (by omega) hdi (by rw [List.length_append, List.length_singleton]; omega) (h1.keeps hk) (h2.keeps hk) (h3.keeps hk) hr
      have hF1 := fills_few hfew (f - 1) (o ++ [i])
      have hF2 := sub_few hfew (f := f - 1) (o := o) i hi
      have hF3 := pow_few (f := f - 1) (by omega)
      have hF4 : i * 9 ^ (f - 1) ≤ 8 * 43046721 := Nat.mul_le_mul (by omega) hF3
      have hbadF := fun h => fillsF_bad (b := b) (f := f - 1) (o := o ++ [i]) h
      have hokF := fun h => fillsF_eq (b := b) (f := f - 1) (o := o ++ [i]) hdi (by rw [List.length_append, List.length_singleton]; omega) h
      have hpos : fitE b (o ++ [i]) = 0 → (fillsF b (f - 1) (o ++ [i])).length = (fillsF b (f - 1) (o ++ [i])).length - 1 + 1 := fun h => by rw [hokF h]; rfl
      have hcons : fitE b (o ++ [i]) = 0 → fillsF b (f - 1) (o ++ [i]) = (o ++ [i]) :: (fillsF b (f - 1) (o ++ [i])).tail := fun h => by rw [hokF h]; rfl
      generalize hFF : fillsF b (f - 1) (o ++ [i]) = FF at hrec hF1 hbadF hpos hcons hsuc
      clear hokF
      have hvI : (natsL o).length = o.length := natsL_length o
      (refine tr_seq ?_; refine s_r ?_; refine m_v rfl rfl ?_; refine f_a rfl rfl norm0_ ?_; refine tr_val (rk_load1 (.of rfl) (At.lit (.there (.there .here)) rfl)) rfl ?_; refine tr_val (rk_len_slice (.of rfl)) rfl ?_; refine tr_val (rk_lss (.of rfl) (.of rfl)) rfl ?_; refine n_t ?_; refine c_d rfl (fun hcd => ?_) (fun _ => by omega); refine s_t ?_; refine tr_seq ?_; refine tr_block ?_; refine s_r ?_; refine m_v rfl rfl ?_; refine m_v rfl rfl ?_; refine tr_callV (rk_call (.of rfl) (.cons (.of rfl) (.cons (.of rfl) .nil)) inferInstance normc_) rfl (fun w' hm' => (hhi w' (Mem.keeps hm'))) ?_; refine tr_val (rk_not (.of rfl)) rfl ?_; refine n_t ?_; refine tr_cond_t (.of rfl) ?_)
      generalize hQ : Exit.then _ _ = Q
      suffices hk : ∀ (out' : Value) (t' : List Value), t'.length = FF.length → Tr _ _ [(6, .int .i64 (i : Int)), (5, out'), (2, .pointer (some ⟨b2, 0, none⟩)), (1, .slice va vn vc)] [row 44 1 out' (1 + (t ++ t').length) (.slice va vn vc :: (t ++ t')), pool 3 (t ++ t') ((subF b (f - 1) o i ++ FF).map natsV), blk b2 (.cells #[.int .i64 b.n, .slice a b.sp.length cap, cv, xv] 83)] (Q .normal) by
        with_reducible refine tr_drawK 9 (tkOf [(2, 4), (4, 7)]) (by kernel_rfl) ?_
        refine ak_valB (fun β => (rk_move (.of rfl))) ind0x rfl rfl ?_
        refine ak_valB (fun β => (rk_loadB (.of rfl) (.there (.there .here)) norm_ (by rfl))) ind0x rfl rfl ?_
        refine ak_newB (fun β => (rk_sliceLit .nil rfl rfl rfl rfl)) (fun _ _ _ => rfl) rfl rfl ?_
        refine ak_valB (fun β => (rk_move (.of rfl))) ind0x rfl rfl ?_
        dsimp only [Nat.zero_add, Nat.reduceAdd]
        with_reducible apply ak_append (jx := 2) (n0 := 0) (xs := []) (news := natsL o) (Vx := fun β => .slice (some ⟨gnat (β 2), 0, none⟩) 0 0) (Vy := fun _ => .slice va vn vc) (Ax := fun β => [blk (gnat (β 2)) (.cells #[] 3 (0, 0))]) (B := [])
        case hB => rfl
        case hS => rfl
        case hrow =>
          rintro β w' fp ⟨f1, f2, e, ⟨h, h'⟩, h0⟩
          obtain rfl : f2 = [] := h0
          rw [e, h]
          exact ⟨rfl, rfl, .inr ⟨gnat (β 2), 0, #[], rfl, h', Nat.le_refl _, Nat.zero_le _, rfl, rfl⟩⟩
        case htk => exact tkOf_only rfl rfl
        case hti => rfl
        case h0 => rfl
        case hwx => kernel_rfl
        case hx => exact fun β => .of rfl
        case hy => exact fun β => .of rfl
        case hsrc => exact fun β w' hb => h4.keeps hb.mem.keeps
        case h1 => exact nats_one o
        case hz => rfl
        case hsz => rfl
        case hb0 => rfl
        case hb => rw [hvI]; omega
        case hd => rfl
        rw [natsL_flat, hvI, Nat.zero_add, List.nil_append]
        dsimp only [Nat.reduceAdd]
        refine ak_valB (fun β => (rk_move (.of rfl))) ind0x rfl rfl ?_
        refine ak_newB (fun β => (rk_sliceLit (.cons (.of rfl) .nil) rfl rfl rfl rfl)) (fun _ _ _ => rfl) rfl rfl ?_
        dsimp only [Nat.reduceAdd]
        with_reducible apply ak_append (jx := 4) (n0 := o.length) (xs := natsV o) (news := [[.int .i64 (i : Int)]]) (Vx := fun β => β 4) (Vy := fun β => .slice (some ⟨gnat (β 6), 0, none⟩) 1 1) (Ax := fun β => [row 3 1 (β 4) o.length (natsV o)]) (B := [6])
        case hB => kernel_rfl
        case hS => rfl
        case hrow => exact fun β w' fp ⟨f1, f2, e, h, h0⟩ => by obtain rfl : f2 = [] := h0; rw [e, List.append_nil]; exact h
        case htk => exact tkOf_only rfl rfl
        case hti => rfl
        case h0 => rfl
        case hwx => kernel_rfl
        case hx => exact fun β => .of rfl
        case hy => exact fun β => .of rfl
        case hsrc =>
          intro β w' hb
          have m6 := hb.at 6 (by simp) (s := ⟨fun β => .slice (some ⟨gnat (β 6), 0, none⟩) 1 1, fun β => [blk (gnat (β 6)) (.cells #[.int .i64 (i : Int)] 3 (0, 0))]⟩) (by kernel_rfl)
          dsimp only [List.cons_append, List.nil_append] at m6
          exact Mem.rdBlk m6 (by exact .here) rfl rfl
        case h1 =>
          intro r hr u hu
          simp only [List.mem_singleton] at hr
          subst hr
          simp only [List.mem_singleton] at hu
          subst hu; rfl
        case hz => rfl
        case hsz => rfl
        case hb0 => rfl
        case hb => simp only [List.length_singleton]; omega
        case hd => rfl
        rw [show ([[Value.int .i64 (i : Int)]] : List (List Value)).flatten = [.int .i64 (i : Int)] from rfl, show ([[Value.int .i64 (i : Int)]] : List (List Value)).length = 1 from rfl]
        dsimp only [Nat.reduceAdd]
        have hlo : o.length + 1 = (o ++ [i]).length := by rw [List.length_append]; rfl
        rw [← natsV_snoc, hlo]
        with_reducible apply ak_callD (ι := { x : Value × List Value // x.2.length = FF.length - 1 }) (Φ := fun _ => True) (val := fun x => x.1.1) (own := fun β x => [row 44 1 x.1.1 FF.length (hdV b (o ++ [i]) (β 7) ++ x.1.2), pool 3 x.1.2 (FF.tail.map natsV)]) (g := glstB (FF.length - 1)) (B := [7]) (args := fun β => [.agg #[.int .i64 b.n, .slice a b.sp.length cap, cv, xv], β 7])
        case hg => exact glstB_of _
        case hB => kernel_rfl
        case hn => rfl
        case hio => exact fun β β' h => by simp only [h 7 (by decide) (by kernel_rfl)]
        case hr => exact fun β => rk_call (.of rfl) (.cons (.of rfl) (.cons (.of rfl) .nil)) inferInstance rfl
        case hd => rfl
        case hc =>
          intro β w' hb
          have m7 := hb.at 7 (by simp) (s := ⟨fun β => β 7, fun β => [row 3 1 (β 7) (o ++ [i]).length (natsV (o ++ [i]))]⟩) (by kernel_rfl)
          dsimp only [List.cons_append, List.nil_append] at m7
          exact hrec _ w' hb.mem.keeps (rdRowN m7 (by exact .here))
        dsimp only [Nat.reduceAdd]
        refine ak_end fun β => ?_
        change Tr _ _ _ [blk (gnat (β 6)) (.cells #[.int .i64 (i : Int)] 3 (0, 0)), row 3 1 (β 7) (o ++ [i]).length (natsV (o ++ [i])), row 44 1 (glstB (FF.length - 1) (β 8)).1.1 FF.length (hdV b (o ++ [i]) (β 7) ++ (glstB (FF.length - 1) (β 8)).1.2), pool 3 (glstB (FF.length - 1) (β 8)).1.2 (FF.tail.map natsV), row 44 1 out (1 + t.length) (.slice va vn vc :: t), pool 3 t ((subF b (f - 1) o i).map natsV), blk b2 (.cells #[.int .i64 b.n, .slice a b.sp.length cap, cv, xv] 83)] _
        generalize glstB (FF.length - 1) (β 8) = y
        generalize gnat (β 6) = b6
        generalize β 7 = v7
        obtain ⟨⟨u, t2⟩, ht2⟩ := y
        dsimp only at ht2 ⊢
        refine tr_rowSl (E := 3) (sz := 1) (v := v7) (by exact Take.there .here) fun p7 q7 e => ?_
        subst e
        refine tr_rowSl (E := 44) (sz := 1) (v := u) (by exact Take.there (.there .here)) fun p8 q8 e => ?_
        subst e
        have htl : t2.length = (FF.tail.map natsV).length := by rw [ht2, List.length_map, List.length_tail]
        refine tr_fact (p := ∀ x ∈ t2, x.oneCell' = true) (fun w' hm' => pool_one (vs := t2) hm' (by exact Take.there (.there (.there .here))) htl) fun h1t => ?_
        by_cases hfit : fitE b (o ++ [i]) = 0
        · have hh : hdV b (o ++ [i]) (.slice p7 (o ++ [i]).length q7) = [.slice p7 (o ++ [i]).length q7] := by rw [hdV, if_pos hfit]
          have hFl := hpos hfit
          have hFc := hcons hfit
          rw [hh, List.singleton_append]
          refine tr_poolAdd (E := 3) (vs := t) (by exact Take.there (.there (.there (.there (.there .here))))) (v := .slice p7 (o ++ [i]).length q7) (by exact Take.there .here) (natsV_length _).symm (by rw [List.length_map]; exact ht) ?_
          refine tr_poolApp (E := 3) (vs := t ++ [.slice p7 (o ++ [i]).length q7]) (us := t2) (by exact .here) (by exact Take.there (.there .here)) (by simp only [List.length_append, List.length_map, List.length_singleton]; omega) ?_
          have e1 : t ++ [.slice p7 (o ++ [i]).length q7] ++ t2 = t ++ (.slice p7 (o ++ [i]).length q7 :: t2) := by rw [List.append_assoc]; rfl
          have e2 : (subF b (f - 1) o i).map natsV ++ [natsV (o ++ [i])] ++ FF.tail.map natsV = (subF b (f - 1) o i ++ FF).map natsV := by
            rw [List.append_assoc, List.map_append]
            conv => rhs; rw [hFc]
            rfl
          rw [e1, e2]
          refine left_ready (rs := [9]) (by kernel_rfl) (by simp) (List.forall_mem_cons.2 ⟨?_, fun _ h => absurd h List.not_mem_nil⟩)
          refine next_step rfl ?_
          with_reducible apply tr_appendR (n := 1 + t.length) (xs := .slice va vn vc :: t) (news := (.slice p7 (o ++ [i]).length q7 :: t2).map fun u => [u])
          case hx => exact Is.of rfl
          case hy => exact Is.of rfl
          case ht => exact Take.there (.there (.there .here))
          case hsrc => exact fun w' hm' => hm'.rdRow1 (E := 44) (n := FF.length) (ys := .slice p7 (o ++ [i]).length q7 :: t2) (v := .slice p8 FF.length q8) (by exact Take.there (.there .here)) (by rw [List.length_cons, ht2]; omega)
          case h1 =>
            intro r hr x hx
            obtain ⟨y, hy, rfl⟩ := List.mem_map.1 hr
            simp only [List.mem_singleton] at hx
            subst hx
            rcases List.mem_cons.1 hy with e | hy
            · rw [e]; rfl
            · exact h1t _ hy
          case hz => rfl
          case hsz => rfl
          case hb0 => rfl
          case hb => rw [List.length_map, List.length_cons, ht2]; omega
          case hd => rfl
          intro v'
          rw [flat_one, List.cons_append]
          (refine n_t ?_)
          refine left_ready (rs := [10]) (by kernel_rfl) (by simp) (List.forall_mem_cons.2 ⟨?_, fun _ h => absurd h List.not_mem_nil⟩)
          refine next_step rfl ?_
          (refine a_s rfl rfl ?_; refine n_t ?_)
          with_reducible refine left_done (by kernel_rfl) ?_
          have e3 : 1 + t.length + ((.slice p7 (o ++ [i]).length q7 :: t2).map fun u => [u]).length = 1 + (t ++ (.slice p7 (o ++ [i]).length q7 :: t2)).length := by simp only [List.length_map, List.length_append, List.length_cons]; omega
          rw [e3]
          exact tr_cut _ _ (by exact .cons rfl (.cons rfl (.cons rfl (.cons rfl .nil)))) (by exact .cons .here (.cons .here (.cons (.there (.there .here)) .nil))) (hk v' (.slice p7 (o ++ [i]).length q7 :: t2) (by rw [List.length_cons, ht2]; omega))
        · have hh : hdV b (o ++ [i]) (.slice p7 (o ++ [i]).length q7) = [] := by rw [hdV, if_neg hfit]
          have hF0 := hbadF hfit
          subst hF0
          obtain rfl : t2 = [] := List.eq_nil_of_length_eq_zero ht2
          rw [hh]
          simp only [List.append_nil, List.length_nil]
          refine left_ready (rs := [9]) (by kernel_rfl) (by simp) (List.forall_mem_cons.2 ⟨?_, fun _ h => absurd h List.not_mem_nil⟩)
          refine next_step rfl ?_
          with_reducible apply tr_appendR (n := 1 + t.length) (xs := .slice va vn vc :: t) (news := [])
          case hx => exact Is.of rfl
          case hy => exact Is.of rfl
          case ht => exact Take.there (.there (.there (.there .here)))
          case hsrc => exact fun w' hm' => hm'.rdRow1 (E := 44) (n := 0) (v := .slice p8 0 q8) (ys := []) (by exact Take.there (.there .here)) rfl
          case h1 => exact fun r hr => absurd hr List.not_mem_nil
          case hz => rfl
          case hsz => rfl
          case hb0 => rfl
          case hb => rw [List.length_nil]; omega
          case hd => rfl
          intro v'
          simp only [List.flatten_nil, List.append_nil, List.length_nil, Nat.add_zero]
          (refine n_t ?_)
          refine left_ready (rs := [10]) (by kernel_rfl) (by simp) (List.forall_mem_cons.2 ⟨?_, fun _ h => absurd h List.not_mem_nil⟩)
          refine next_step rfl ?_
          (refine a_s rfl rfl ?_; refine n_t ?_)
          with_reducible refine left_done (by kernel_rfl) ?_
          have hk0 := hk v' [] rfl
          simp only [List.append_nil] at hk0
          exact tr_cut _ _ (by exact .cons rfl (.cons rfl (.cons rfl (.cons rfl .nil)))) (by exact .cons .here (.cons (.there (.there (.there (.there .here)))) (.cons (.there (.there (.there (.there .here)))) .nil))) hk0
      subst hQ
      intro out' t' ht'
      (refine tr_then ?_; refine tr_region ?_; refine m_v rfl rfl ?_; refine tr_val (rk_add (.of rfl) (.of rfl) (ini (by omega))) rfl ?_; refine a_s rfl rfl ?_; refine n_t ?_)
      rw [← hsuc]
      apply tr_next (i + 1, out', t ++ t') ⟨(show i + 1 ≤ b.sp.length from hlt), (show (t ++ t').length = (subF b (f - 1) o (i + 1)).length by rw [hsuc, List.length_append, List.length_append, ht, ht'])⟩ (show b.sp.length - (i + 1) < b.sp.length - i by omega)
      case hs1 => exact .cons rfl (.cons rfl (.cons rfl (.cons rfl .nil)))
      case ht => exact .cons .here (.cons .here (.cons .here .nil))
  · obtain rfl : i = b.sp.length := by omega
    (refine tr_seq ?_; refine s_r ?_; refine m_v rfl rfl ?_; refine f_a rfl rfl norm0_ ?_; refine tr_val (rk_load1 (.of rfl) (At.lit (.there (.there .here)) rfl)) rfl ?_; refine tr_val (rk_len_slice (.of rfl)) rfl ?_; refine tr_val (rk_lss (.of rfl) (.of rfl)) rfl ?_; refine n_t ?_; refine c_d rfl (fun _ => by omega) (fun hcd => ?_); refine x_t ?_; refine tr_then_exit ?_; refine tr_blk_exit ?_; refine tr_then ?_; refine s_r ?_; refine m_v rfl rfl ?_; refine a_s rfl rfl ?_; refine n_t ?_; refine tr_ret ?_)
    refine tr_rowSl (E := 44) (sz := 1) (v := out) (by exact .here) fun p9 q9 e => ?_
    subst e
    have e1 : 1 + t.length = (o :: subF b (f - 1) o b.sp.length).length := by rw [List.length_cons, ht]; omega
    rw [e1]
    skip
    first | with_reducible apply tr_retM | with_reducible apply tr_endM
    case he => exact ends1 rfl rfl
    case hR =>
      intro w' hm'
      exact gives_end ⟨(.slice p9 (o :: subF b (f - 1) o b.sp.length).length q9, t), by rw [ht]; rfl⟩ trivial (show Takes _ [row 44 1 (.slice p9 (o :: subF b (f - 1) o b.sp.length).length q9) (o :: subF b (f - 1) o b.sp.length).length (.slice va vn vc :: t), pool 3 t ((subF b (f - 1) o b.sp.length).map natsV)] _ by exact .cons .here (.cons .here .nil)) hm' rfl
end Go.Proofs.A1


/- S74p -/
/- The best filling of a break, and what a price proves. Plain Lean, no program in sight. -/
namespace Go.Proofs.A1
open Go Go.SL

theorem nthN_pre {o r : List Nat} {k : Nat} (h : k < o.length) : nthN (o ++ r) k = nthN o k := by
  simp [nthN, List.getD_eq_getElem?_getD, List.getElem?_append_left h]
theorem tL_pre (l : List Sp) (o r : List Nat) : ∀ k, k ≤ o.length → tL l (o ++ r) k = tL l o k
  | 0, _ => rfl
  | k + 1, h => by rw [tL, tL, tL_pre l o r k (by omega), nthN_pre (by omega)]
theorem cpO_pre {b : Br} {o r : List Nat} {k : Nat} (h : k < o.length) : cpO b (o ++ r) k = cpO b o k := by
  unfold cpO; rw [nthN_pre h]
theorem lastO_pre {b : Br} {o r : List Nat} : ∀ {k : Nat}, k ≤ o.length → lastO b (o ++ r) k = lastO b o k
  | 0, _ => rfl
  | k + 1, h => by rw [lastO, lastO, cpO_pre (by omega)]
theorem cntO_pre {b : Br} {o r : List Nat} {c : Int} : ∀ {k : Nat}, k ≤ o.length → cntO b (o ++ r) c k = cntO b o c k
  | 0, _ => rfl
  | k + 1, h => by rw [cntO, cntO, cntO_pre (by omega), cpO_pre (by omega)]
theorem badO_pre {b : Br} {o r : List Nat} {k : Nat} (h : k < o.length) : badO b (o ++ r) k = badO b o k := by
  unfold badO; rw [cpO_pre h, lastO_pre (by omega), cntO_pre (by omega)]
theorem fitE_zero {b : Br} {o : List Nat} : fitE b o = 0 ↔ (∀ k, k < o.length → badO b o k = false) ∧ (∀ i j, i < o.length → j < o.length → exclB b (cpO b o i) (cpO b o j) = false) ∧ tL b.sp o o.length ≤ b.n := by
  unfold fitE
  by_cases h1 : (List.range o.length).any (badO b o) = true
  · rw [if_pos h1]
    refine ⟨fun h => absurd h (by decide), fun h => ?_⟩
    obtain ⟨k, hk, h2⟩ := List.any_eq_true.1 h1
    rw [h.1 k (List.mem_range.1 hk)] at h2
    cases h2
  · rw [if_neg h1]
    have h1' : ∀ k, k < o.length → badO b o k = false := fun k hk => by
      cases hb : badO b o k with
      | false => rfl
      | true => exact absurd (List.any_eq_true.2 ⟨k, List.mem_range.2 hk, hb⟩) h1
    by_cases h2 : exclO b o = true
    · rw [if_pos h2]
      refine ⟨fun h => absurd h (by decide), fun h => ?_⟩
      unfold exclO at h2
      obtain ⟨i, hi, h3⟩ := List.any_eq_true.1 h2
      obtain ⟨j, hj, h4⟩ := List.any_eq_true.1 h3
      rw [h.2.1 i j (List.mem_range.1 hi) (List.mem_range.1 hj)] at h4
      cases h4
    · rw [if_neg h2, whenF_zero (by decide), decide_eq_false_iff_not]
      refine ⟨fun h => ⟨h1', fun i j hi hj => ?_, by omega⟩, fun h => by have := h.2.2; omega⟩
      cases hx : exclB b (cpO b o i) (cpO b o j) with
      | false => rfl
      | true => exact absurd (List.any_eq_true.2 ⟨i, List.mem_range.2 hi, List.any_eq_true.2 ⟨j, List.mem_range.2 hj, hx⟩⟩) h2
theorem tL_mono {l : List Sp} {o : List Nat} (hb : ∀ x ∈ l, SpOk x) (ho : ∀ i ∈ o, i < l.length) (k : Nat) : ∀ m, k + m ≤ o.length → tL l o k ≤ tL l o (k + m)
  | 0, _ => Int.le_refl _
  | m + 1, h => by
    have h1 := tL_mono hb ho k m (by omega)
    have h2 := (hb _ (nthS_mem (ho _ (nthN_mem (show k + m < o.length by omega))))).ln
    rw [← Nat.add_assoc, tL]
    omega
theorem fitE_pre {b : Br} (hb : BrOk b) {o r : List Nat} (hd : Dif b.sp.length (o ++ r)) (h : fitE b (o ++ r) = 0) : fitE b o = 0 := by
  rw [fitE_zero] at h ⊢
  have hl : (o ++ r).length = o.length + r.length := List.length_append
  refine ⟨fun k hk => ?_, fun i j hi hj => ?_, ?_⟩
  · rw [← badO_pre (r := r) hk]; exact h.1 k (by omega)
  · rw [← cpO_pre (r := r) hi, ← cpO_pre (r := r) hj]; exact h.2.1 i j (by omega) (by omega)
  · have h1 := tL_mono hb.spOk hd.lt o.length r.length (by omega)
    rw [tL_pre b.sp o r o.length (Nat.le_refl _), ← hl] at h1
    have := h.2.2
    omega
theorem fills_self {b : Br} {f : Nat} {o : List Nat} (h : fitE b o = 0) : o ∈ fillsF b f o := by
  cases f with
  | zero => rw [fillsF, if_neg (by rw [h]; decide)]; exact List.mem_singleton.2 rfl
  | succ f => rw [fillsF, if_neg (by rw [h]; decide)]; exact List.mem_cons_self
theorem mem_fills {b : Br} (hb : BrOk b) : ∀ (r o : List Nat) (f : Nat), Dif b.sp.length (o ++ r) → fitE b (o ++ r) = 0 → r.length ≤ f → o ++ r ∈ fillsF b f o
  | [], o, f, _, h, _ => by rw [List.append_nil] at h ⊢; exact fills_self h
  | i :: r, o, 0, _, _, hf => by simp at hf
  | i :: r, o, f + 1, hd, h, hf => by
    have h0 := fitE_pre hb hd h
    have e : o ++ i :: r = (o ++ [i]) ++ r := by simp
    rw [fillsF, if_neg (by rw [h0]; decide)]
    refine List.mem_cons_of_mem _ (List.mem_flatMap.2 ⟨i, List.mem_range.2 (hd.lt i (by simp)), ?_⟩)
    have hn : i ∉ o := fun hi => by
      have := (List.nodup_append.1 hd.nd).2.2 i hi i (by simp)
      exact this rfl
    rw [if_neg (by simpa using hn)]
    rw [e] at hd h ⊢
    exact mem_fills hb r (o ++ [i]) f hd h (by simp at hf; omega)
theorem mem_fillsA {b : Br} (hb : BrOk b) {o : List Nat} (hd : Dif b.sp.length o) (h : fitE b o = 0) : o ∈ fillsA b :=
  mem_fills hb o [] b.sp.length (by simpa using hd) (by simpa using h) hd.len
theorem fills_fit {b : Br} : ∀ {f : Nat} {o : List Nat}, ∀ q ∈ fillsF b f o, fitE b q = 0
  | 0, o, q, hq => by
    rw [fillsF] at hq
    split at hq
    · cases hq
    · rename_i h
      simp only [List.mem_singleton] at hq; subst hq; exact Decidable.not_not.1 h
  | f + 1, o, q, hq => by
    rw [fillsF] at hq
    split at hq
    · cases hq
    · rename_i h
      rcases List.mem_cons.1 hq with e | hq
      · subst e; exact Decidable.not_not.1 h
      · obtain ⟨i, hi, hq⟩ := List.mem_flatMap.1 hq
        split at hq
        · cases hq
        · exact fills_fit q hq
/-- a filling -/
structure Filling (b : Br) (o : List Nat) : Prop where
  dif : Dif b.sp.length o
  fit : fitE b o = 0
theorem fillsA_iff {b : Br} (hb : BrOk b) {o : List Nat} : o ∈ fillsA b ↔ Filling b o :=
  ⟨fun h => ⟨fillsF_dif (Dif.nil _) _ h, fills_fit _ h⟩, fun h => mem_fillsA hb h.dif h.fit⟩
theorem Filling.nil {b : Br} (hb : BrOk b) : Filling b [] := by
  refine ⟨Dif.nil _, fitE_zero.2 ⟨fun k h => absurd h (Nat.not_lt_zero _), fun i j h => absurd h (Nat.not_lt_zero _), ?_⟩⟩
  have := hb.n; show (0 : Int) ≤ b.n; omega
theorem betterB_false {b : Br} {x y : List Nat} : betterB b x y = false ↔ tV b.sp x x.length < tV b.sp y y.length ∨ (tV b.sp x x.length = tV b.sp y y.length ∧ tL b.sp x x.length ≤ tL b.sp y y.length) := by
  unfold betterB
  rw [Bool.or_eq_false_iff, Bool.and_eq_false_iff]
  simp only [decide_eq_false_iff_not]
  omega
theorem betterB_true {b : Br} {x y : List Nat} : betterB b x y = true ↔ tV b.sp y y.length < tV b.sp x x.length ∨ (tV b.sp x x.length = tV b.sp y y.length ∧ tL b.sp y y.length < tL b.sp x x.length) := by
  unfold betterB
  rw [Bool.or_eq_true, Bool.and_eq_true]
  simp only [decide_eq_true_eq]
theorem best_fold (b : Br) : ∀ (l : List (List Nat)) (a : List Nat), (l.foldl (fun y x => if betterB b x y then x else y) a = a ∨ l.foldl (fun y x => if betterB b x y then x else y) a ∈ l) ∧ betterB b a (l.foldl (fun y x => if betterB b x y then x else y) a) = false ∧ ∀ x ∈ l, betterB b x (l.foldl (fun y x => if betterB b x y then x else y) a) = false
  | [], a => ⟨.inl rfl, by rw [betterB_false]; exact .inr ⟨rfl, Int.le_refl _⟩, by simp⟩
  | z :: l, a => by
    rw [List.foldl_cons]
    by_cases h : betterB b z a = true
    · rw [if_pos h]
      obtain ⟨h1, h2, h3⟩ := best_fold b l z
      generalize l.foldl (fun y x => if betterB b x y then x else y) z = q at h1 h2 h3
      refine ⟨.inr ?_, ?_, ?_⟩
      · rcases h1 with h1 | h1
        · rw [h1]; exact List.mem_cons_self
        · exact List.mem_cons_of_mem _ h1
      · rw [betterB_true] at h
        rw [betterB_false] at h2 ⊢
        omega
      · intro x hx
        rcases List.mem_cons.1 hx with e | hx
        · subst e; exact h2
        · exact h3 x hx
    · rw [if_neg h]
      obtain ⟨h1, h2, h3⟩ := best_fold b l a
      generalize l.foldl (fun y x => if betterB b x y then x else y) a = q at h1 h2 h3
      refine ⟨?_, h2, ?_⟩
      · rcases h1 with h1 | h1
        · exact .inl h1
        · exact .inr (List.mem_cons_of_mem _ h1)
      · intro x hx
        rcases List.mem_cons.1 hx with e | hx
        · subst e
          have h' := Bool.eq_false_iff.2 h
          rw [betterB_false] at h' h2 ⊢
          omega
        · exact h3 x hx
theorem fillF_ok {b : Br} (hb : BrOk b) : Filling b (fillF b) := by
  have := (best_fold b (fillsA b) []).1
  rcases this with h | h
  · have e : fillF b = [] := h
    rw [e]; exact Filling.nil hb
  · exact (fillsA_iff hb).1 h
theorem Filling.le {b : Br} {o : List Nat} (h : Filling b o) : tL b.sp o o.length ≤ b.n := (fitE_zero.1 h.fit).2.2

/-! orders -/
theorem Filling.few {b : Br} (hb : BrOk b) {o : List Nat} (h : Filling b o) : o.length ≤ 8 := by
  have := h.dif.len; have := hb.few; omega
/-! what a price proves -/
/-! one frame longer -/
end Go.Proofs.A1


/- S89 -/
namespace Go.Proofs.A1
open Go Go.SL

theorem fills_cons {b : Br} (hok : BrOk b) : fillsA b = [] :: (fillsA b).tail := by
  have hz := (Filling.nil hok).fit
  have := fillsF_eq (b := b) (f := b.sp.length) (o := []) (Dif.nil _) (by simp) hz
  unfold fillsA
  rw [this]; rfl
theorem fills_all {b : Br} (hok : BrOk b) : (fillsA b).length ≤ 43046721 := Nat.le_trans (fills_few hok.few _ _) (pow_few hok.few)
theorem best_one (b : Br) : bestF b [[]] = [] := by
  show (if betterB b [] [] then [] else []) = ([] : List Nat)
  split <;> rfl
set_option maxHeartbeats 2000000 in
theorem fillQ_c {b : Br} {sv cv xv : Value} {w : World} (hz : brE b = 0) (h1 : Rd w sv 4 (spsL b.sp)) (h2 : Rd w cv 1 (ints b.cm)) (h3 : Rd w xv 2 (prsL b.ex)) :
    Gives Tryz.prog 64 [.agg #[.int .i64 b.n, sv, cv, xv]] w [] (fun _ : Value => True) id (fun v => [row 3 1 v (fillF b).length (natsV (fillF b))]) := by
  have hok := BrOk.of hz
  have hfew := hok.few
  have hone1 := Rd.one h1
  have hone2 := Rd.one h2
  have hone3 := Rd.one h3
  have hcons := fills_cons hok
  have hall := fills_all hok
  have hfit := (Filling.nil hok).fit

  refine gives_of_tr Tryz.func64 rfl rfl ?_
  (refine s_r ?_; refine tr_new (rk_box (.of rfl) rfl) rfl (fun _ _ => ?_); refine a_s rfl rfl ?_; refine n_r ?_; refine tr_val (rk_loadB (.of rfl) .here norm_ (by rfl)) rfl ?_)
  rename_i b1 hb1

  with_reducible apply tr_call
  case hr => exact rk_call (.of rfl) (.cons (.of rfl) (.cons (.of rfl) .nil)) inferInstance normc_
  case hd => rfl
  case ht => exact Takes.nil
  case hc =>
    intro w1 fp hm1 _ hs1
    obtain rfl : fp = [] := hs1
    exact fillsQ_c hok b.sp.length [] (.slice none 0 0) w1 hfew (Dif.nil _) (by simp) (h1.keeps hm1.keeps) (h2.keeps hm1.keeps) (h3.keeps hm1.keeps) (by exact Rd.nil _ 1)
  rintro ⟨⟨u, t⟩, ht⟩ _
  dsimp only [id_eq, List.cons_append, List.nil_append]
  have hh : hdV b [] (.slice none 0 0) = [.slice none 0 0] := by rw [hdV, if_pos hfit]
  have hFA : fillsF b b.sp.length [] = fillsA b := rfl
  rw [hh, List.singleton_append, hFA]
  replace ht : t.length = (fillsA b).length - 1 := ht
  refine tr_poolNil 3 ?_
  refine tr_rowNil 3 1 ?_
  refine tr_poolAdd (E := 3) (vs := []) (xs := []) (x := []) (n := 0) (by exact Take.there .here) (v := .slice none 0 0) (by exact .here) rfl rfl ?_
  rw [List.nil_append, List.nil_append]
  refine tr_poolApp (E := 3) (vs := [.slice none 0 0]) (us := t) (by exact .here) (by exact Take.there .here) rfl ?_
  rw [List.singleton_append]
  have e0 : [[]] ++ (fillsA b).tail.map natsV = ((fillsA b).map natsV).take (fillsA b).length := by
    rw [List.take_of_length_le (by rw [List.length_map]; omega)]
    conv => rhs; rw [hcons]
    rfl
  rw [e0]
  have hL : (Value.slice none 0 0 :: t).length = (fillsA b).length := by
    rw [List.length_cons, ht]
    have : 0 < (fillsA b).length := by rw [hcons]; exact Nat.succ_pos _
    omega
  have hv0 : (Value.slice none 0 0 :: t)[0]? = some (Value.slice none 0 0) := rfl
  generalize (Value.slice none 0 0 :: t) = vs at hL hv0 ⊢
  have hpos : 0 < (fillsA b).length := by rw [hcons]; exact Nat.succ_pos _
  refine tr_rowOpen (E := 44) (sz := 1) (v := u) (by exact Take.there .here) hpos fun g cap cur e hcap hmx hsz hl => ?_
  subst e
  have q0 : (vs ++ cur)[0 * 1]? = some (Value.slice none 0 0) := by rw [List.getElem?_append_left (by omega)]; exact hv0
  unfold maxLen at hmx

  (refine a_s rfl rfl ?_; refine n_r ?_; refine m_v rfl rfl ?_; refine tr_val (rk_indexAddr (.of rfl) (.of rfl) rfl (by omega) (by omega) norm1_) rfl ?_; refine tr_val (rk_load1 (.of rfl) (At.blkL .here q0)) rfl ?_; refine a_s rfl rfl ?_; refine n_t ?_; refine tr_seq ?_; refine s_r ?_; refine a_s rfl rfl ?_; refine n_t ?_; refine tr_block ?_)
  refine tr_for (ι := Nat × Value × List Nat) (fun x => 1 ≤ x.1 ∧ x.1 ≤ (fillsA b).length ∧ BestAt b (vs.take x.1) x.2) (fun x => [(5, .int .i64 (x.1 : Int)), (4, x.2.1), (3, .slice (some ⟨g, 0, none⟩) (fillsA b).length cap), (1, .pointer (some ⟨b1, 0, none⟩))])
    (fun _ => [blk b1 (.cells #[.int .i64 b.n, sv, cv, xv] 83), blk g (.cells (vs ++ cur).toArray 44), pool 3 vs (((fillsA b).map natsV).take (fillsA b).length)]) (fun x => (fillsA b).length - x.1) ?_ ?_
  · have e1 : (vs.take 1).length = 1 := by rw [List.length_take]; omega
    have e2 : (fillsA b).take 1 = [[]] := by rw [hcons]; rfl
    have hs0 : BestAt b (vs.take 1) (.slice none 0 0, []) := by
      refine ⟨?_, .inl ⟨rfl, rfl⟩⟩
      show [] = bestF b ((fillsA b).take (vs.take 1).length)
      rw [e1, e2, best_one]
    apply tr_start (1, .slice none 0 0, []) ⟨Nat.le_refl _, hpos, hs0⟩
    case hs1 => exact .cons rfl (.cons rfl (.cons rfl (.cons rfl .nil)))
    case ht => exact .cons (.there (.there .here)) (.cons .here (.cons .here .nil))
  rintro ⟨k, bv, bo⟩ ⟨hk1, hkl, hbest⟩
  dsimp only at hk1 hkl hbest ⊢
  have hkk : (vs.take k).length = k := by rw [List.length_take]; omega
  have hpre : vs.take k <+: vs := List.take_prefix _ _
  have hle : (vs.take k).length ≤ (fillsA b).length := by rw [hkk]; exact hkl
  have hdB : Dif b.sp.length bo := hbest.dif
  have hlB : bo.length ≤ 1000 := by have := hdB.len; omega
  by_cases hlt : k < (fillsA b).length
  · obtain ⟨v, hvN⟩ : ∃ v, vs[k]? = some v := ⟨vs[k]'(by omega), List.getElem?_eq_getElem (by omega)⟩
    have hx0 : (fillsA b)[k]? = some (fillsA b)[k] := List.getElem?_eq_getElem hlt
    generalize ho : (fillsA b)[k] = o at hx0
    have hdN : Dif b.sp.length o := fillsF_dif (Dif.nil _) _ (List.mem_of_getElem? hx0)
    have hlN : o.length ≤ 1000 := by have := hdN.len; omega
    have hxN : (((fillsA b).map natsV).take (fillsA b).length)[k]? = some (natsV o) := by
      rw [List.getElem?_take, if_pos hlt, List.getElem?_map, hx0]; rfl
    have hsn : bestF b ((fillsA b).take (k + 1)) = if betterB b o bo then o else bo := by
      have e : bo = bestF b ((fillsA b).take (vs.take k).length) := hbest.1
      rw [hkk] at e
      rw [fills_len hx0, bestF_snoc, ← e]
    have hkk1 : (vs.take (k + 1)).length = k + 1 := by rw [List.length_take]; omega
    have qk : (vs ++ cur)[k * 1]? = some v := by rw [Nat.mul_one, List.getElem?_append_left (by omega)]; exact hvN
    (refine tr_seq ?_; refine s_r ?_; refine m_v rfl rfl ?_; refine m_v rfl rfl ?_; refine tr_val (rk_len_slice (.of rfl)) rfl ?_; refine tr_val (rk_lss (.of rfl) (.of rfl)) rfl ?_; refine n_t ?_; refine c_d rfl (fun hcd => ?_) (fun _ => by omega); refine s_t ?_; refine tr_seq ?_; refine tr_block ?_; refine tr_seq ?_)
    with_reducible refine tr_drawO 11 (by kernel_rfl) ?_
    (refine ao_val (rk_loadB (.of rfl) .here norm_ (by rfl)) rfl ?_; refine ao_val (rk_move (.of rfl)) rfl ?_; refine ao_val (rk_move (.of rfl)) rfl ?_; refine ao_val (rk_indexAddr (.of rfl) (.of rfl) rfl (by omega) hcd norm1_) rfl ?_; refine ao_val (rk_load1 (.of rfl) (At.blkL (.there .here) qk)) rfl ?_; refine ao_call (rk_call (.of rfl) (.cons (.of rfl) (.cons (.of rfl) .nil)) inferInstance normc_) rfl (fun w' hm' => (measQ_c (Rd.keeps h1 (Mem.keeps hm')) (rdPoolN hm' (.there (.there .here)) hvN hxN) hone2 hone3 (BrOk.spOk hok) (Dif.lt hdN) hlN)) ?_; refine ao_val (rk_loadB (.of rfl) .here norm_ (by rfl)) rfl ?_; refine ao_val (rk_move (.of rfl)) rfl ?_; refine ao_call (rk_call (.of rfl) (.cons (.of rfl) (.cons (.of rfl) .nil)) inferInstance normc_) rfl (fun w' hm' => (measQ_c (Rd.keeps h1 (Mem.keeps hm')) (BestAt.rd hbest hm' (.there (.there .here)) hpre hle) hone2 hone3 (BrOk.spOk hok) (Dif.lt hdB) hlB)) ?_; refine ao_new (rk_alloc rfl) rfl rfl ?_; refine ao_new (rk_alloc rfl) rfl rfl ?_)
    with_reducible refine ao_end2 rfl fun b8 b9 hb8 hb9 => ?_
    have hdec : ∀ q : Bool, betterB b o bo = q → (q = true ↔ tV b.sp bo bo.length < tV b.sp o o.length ∨ (tV b.sp o o.length = tV b.sp bo bo.length ∧ tL b.sp bo bo.length < tL b.sp o o.length)) := fun q hq => by
      rw [← hq, betterB]; simp
    generalize betterB b o bo = q at hsn hdec
    have hq := hdec q rfl
    clear hdec
    (refine tr_store (.of rfl) (.of rfl) .here rfl rfl (okc_cons rfl (okc_cons rfl okc_nil)) (lenb rfl) norm_ ?_; refine tr_store (.of rfl) (.of rfl) (.there .here) rfl rfl (okc_cons rfl (okc_cons rfl okc_nil)) (lenb rfl) norm_ ?_; refine n_r ?_; refine tr_val (rk_indexAddrA (.of rfl) (.of rfl) (by omega) (by omega) norm1_) rfl ?_; refine tr_val (rk_load1 (.of rfl) (At.lit (.there .here) rfl)) rfl ?_; refine tr_val (rk_indexAddrA (.of rfl) (.of rfl) (by omega) (by omega) norm1_) rfl ?_; refine tr_val (rk_load1 (.of rfl) (At.lit .here rfl)) rfl ?_; refine tr_val (rk_gtr (.of rfl) (.of rfl)) rfl ?_; refine m_v rfl rfl ?_; refine tr_vG1 rfl rfl inferInstance (fun hg hgp => (rk_indexAddrA (.of rfl) (.of rfl) (by omega) (by omega) norm1_)) rfl ?_; refine tr_vG1 rfl rfl inferInstance (fun hg hgp => (rk_load1 (.ofg hg rfl) (At.lit (.there .here) rfl))) rfl ?_; refine tr_vG1 rfl rfl inferInstance (fun hg hgp => (rk_indexAddrA (.of rfl) (.of rfl) (by omega) (by omega) norm1_)) rfl ?_; refine tr_vG1 rfl rfl inferInstance (fun hg hgp => (rk_load1 (.ofg hg rfl) (At.lit .here rfl))) rfl ?_; refine tr_vG1 rfl rfl inferInstance (fun hg hgp => (rk_eql (.ofg hg rfl) (.ofg hg rfl))) rfl ?_; refine tr_vG1 rfl rfl inferInstance (fun hg hgp => (rk_move (.ofg hg rfl))) rfl ?_; refine tr_vG rfl rfl inferInstance (fun hg hgp => (rk_indexAddrA (.of rfl) (.of rfl) (by omega) (by omega) norm1_)) rfl ?_; refine tr_vG rfl rfl inferInstance (fun hg hgp => (rk_load1 (.ofg hg rfl) (At.lit (.there .here) rfl))) rfl ?_; refine tr_vG rfl rfl inferInstance (fun hg hgp => (rk_indexAddrA (.of rfl) (.of rfl) (by omega) (by omega) norm1_)) rfl ?_; refine tr_vG rfl rfl inferInstance (fun hg hgp => (rk_load1 (.ofg hg rfl) (At.lit .here rfl))) rfl ?_; refine tr_vG rfl rfl inferInstance (fun hg hgp => (rk_gtr (.ofg hg rfl) (.ofg hg rfl))) rfl ?_; refine tr_vG1 rfl rfl inferInstance (fun hg hgp => (rk_pick_and' hg (.ofg hg rfl) rfl)) rfl ?_; refine tr_val (rk_pick_or (.of rfl) rfl) rfl ?_; refine n_t ?_; refine c_b rfl (fun hcd => ?_) (fun hcd => ?_); refine tr_region ?_; refine m_v rfl rfl ?_; refine m_v rfl rfl ?_; refine tr_val (rk_indexAddr (.of rfl) (.of rfl) rfl (by omega) (by assumption) norm1_) rfl ?_; refine tr_val (rk_load1 (.of rfl) (At.blkL (.there (.there (.there .here))) qk)) rfl ?_; refine a_s rfl rfl ?_; refine tr_nil ?_; refine tr_blk_normal ?_; refine tr_then ?_; refine tr_region ?_; refine m_v rfl rfl ?_; refine tr_val (rk_add (.of rfl) (.of rfl) (ini (by omega))) rfl ?_; refine a_s rfl rfl ?_; refine n_t ?_; rotate_left; refine tr_skip ?_; refine tr_blk_normal ?_; refine tr_then ?_; refine tr_region ?_; refine m_v rfl rfl ?_; refine tr_val (rk_add (.of rfl) (.of rfl) (ini (by omega))) rfl ?_; refine a_s rfl rfl ?_; refine n_t ?_; rotate_right)
    · obtain rfl : q = true := hq.2 (by simpa using hcd)
      rw [if_pos rfl] at hsn
      have hs1 : BestAt b (vs.take (k + 1)) (v, o) := by
        refine ⟨?_, .inr ⟨k, ?_, hx0⟩⟩
        · show o = bestF b ((fillsA b).take (vs.take (k + 1)).length)
          rw [hkk1]; exact hsn.symm
        · show (vs.take (k + 1))[k]? = some v
          rw [List.getElem?_take, if_pos (by omega)]; exact hvN
      apply tr_next (k + 1, v, o) ⟨(show 1 ≤ k + 1 by omega), (show k + 1 ≤ (fillsA b).length from hlt), hs1⟩ (show (fillsA b).length - (k + 1) < (fillsA b).length - k by omega)
      case hs1 => exact .cons rfl (.cons rfl (.cons rfl (.cons rfl .nil)))
      case ht => exact .cons (.there (.there .here)) (.cons (.there (.there .here)) (.cons (.there (.there .here)) .nil))
    · obtain rfl : q = false := by
        cases q with
        | false => rfl
        | true =>
          have := hq.1 rfl
          omega
      rw [if_neg (by decide)] at hsn
      have hs1 : BestAt b (vs.take (k + 1)) (bv, bo) := by
        refine ⟨?_, hbest.2.imp id fun ⟨j, hj, hx⟩ => ⟨j, ?_, hx⟩⟩
        · show bo = bestF b ((fillsA b).take (vs.take (k + 1)).length)
          rw [hkk1]; exact hsn.symm
        · have hjl : j < (vs.take k).length := (List.getElem?_eq_some_iff.1 hj).1
          show (vs.take (k + 1))[j]? = some bv
          rw [List.getElem?_take, if_pos (by omega)] at hj ⊢
          exact hj
      apply tr_next (k + 1, bv, bo) ⟨(show 1 ≤ k + 1 by omega), (show k + 1 ≤ (fillsA b).length from hlt), hs1⟩ (show (fillsA b).length - (k + 1) < (fillsA b).length - k by omega)
      case hs1 => exact .cons rfl (.cons rfl (.cons rfl (.cons rfl .nil)))
      case ht => exact .cons (.there (.there .here)) (.cons (.there (.there .here)) (.cons (.there (.there .here)) .nil))
  · obtain rfl : k = (fillsA b).length := by omega
    have hbo : bo = fillF b := by
      have := hbest.1
      rwa [hkk, List.take_length] at this
    (refine tr_seq ?_; refine s_r ?_; refine m_v rfl rfl ?_; refine m_v rfl rfl ?_; refine tr_val (rk_len_slice (.of rfl)) rfl ?_; refine tr_val (rk_lss (.of rfl) (.of rfl)) rfl ?_; refine n_t ?_; refine c_d rfl (fun _ => by omega) (fun hcd => ?_); refine x_t ?_; refine tr_then_exit ?_; refine tr_blk_exit ?_; refine tr_then ?_; refine s_r ?_; refine m_v rfl rfl ?_; refine a_s rfl rfl ?_; refine n_t ?_; refine tr_ret ?_)
    rw [← hbo]
    obtain ⟨_, h | ⟨j, hj, hx⟩⟩ := hbest
    · obtain ⟨e1, e2⟩ := h
      dsimp only at e1 e2
      subst e1 e2
      refine tr_rowNil 3 1 ?_
      first | with_reducible apply tr_retM | with_reducible apply tr_endM
      case he => exact ends1 rfl rfl
      case hR =>
        intro w' hm'
        exact gives_end (.slice none 0 0) trivial (show Takes _ [row 3 1 (.slice none 0 0) 0 []] _ by exact .cons .here .nil) hm' rfl
    · have hjl : j < (vs.take (fillsA b).length).length := (List.getElem?_eq_some_iff.1 hj).1
      refine tr_poolTake (E := 3) (vs := vs) (j := j) (v := bv) (x := natsV bo) (by exact Take.there (.there .here)) ?_ ?_ ?_
      · rw [List.getElem?_take, if_pos (by omega)] at hj; exact hj
      · rw [List.getElem?_take, if_pos (by omega), List.getElem?_map, hx]; rfl
      rw [natsV_length]
      first | with_reducible apply tr_retM | with_reducible apply tr_endM
      case he => exact ends1 rfl rfl
      case hR =>
        intro w' hm'
        exact gives_end bv trivial (show Takes _ [row 3 1 bv bo.length (natsV bo)] _ by exact .cons .here .nil) hm' rfl
set_option maxHeartbeats 2000000 in
theorem fullQ_c {b : Br} {sv cv xv : Value} {w : World} (hz : brE b = 0) (h1 : Rd w sv 4 (spsL b.sp)) (h2 : Rd w cv 1 (ints b.cm)) (h3 : Rd w xv 2 (prsL b.ex)) :
    GivesV Tryz.prog 65 [.agg #[.int .i64 b.n, sv, cv, xv]] w (.int .i64 (fullL b (fillsA b))) := by
  have hok := BrOk.of hz
  have hfew := hok.few
  have hone1 := Rd.one h1
  have hone2 := Rd.one h2
  have hone3 := Rd.one h3
  have hcons := fills_cons hok
  have hall := fills_all hok
  have hfit := (Filling.nil hok).fit

  refine givesV_of_tr Tryz.func65 rfl rfl ?_
  (refine s_r ?_; refine tr_new (rk_box (.of rfl) rfl) rfl (fun _ _ => ?_); refine a_s rfl rfl ?_; refine n_r ?_; refine tr_val (rk_loadB (.of rfl) .here norm_ (by rfl)) rfl ?_)
  rename_i b1 hb1

  with_reducible apply tr_call
  case hr => exact rk_call (.of rfl) (.cons (.of rfl) (.cons (.of rfl) .nil)) inferInstance normc_
  case hd => rfl
  case ht => exact Takes.nil
  case hc =>
    intro w1 fp hm1 _ hs1
    obtain rfl : fp = [] := hs1
    exact fillsQ_c hok b.sp.length [] (.slice none 0 0) w1 hfew (Dif.nil _) (by simp) (h1.keeps hm1.keeps) (h2.keeps hm1.keeps) (h3.keeps hm1.keeps) (by exact Rd.nil _ 1)
  rintro ⟨⟨u, t⟩, ht⟩ _
  dsimp only [id_eq, List.cons_append, List.nil_append]
  have hh : hdV b [] (.slice none 0 0) = [.slice none 0 0] := by rw [hdV, if_pos hfit]
  have hFA : fillsF b b.sp.length [] = fillsA b := rfl
  rw [hh, List.singleton_append, hFA]
  replace ht : t.length = (fillsA b).length - 1 := ht
  refine tr_poolNil 3 ?_
  refine tr_rowNil 3 1 ?_
  refine tr_poolAdd (E := 3) (vs := []) (xs := []) (x := []) (n := 0) (by exact Take.there .here) (v := .slice none 0 0) (by exact .here) rfl rfl ?_
  rw [List.nil_append, List.nil_append]
  refine tr_poolApp (E := 3) (vs := [.slice none 0 0]) (us := t) (by exact .here) (by exact Take.there .here) rfl ?_
  rw [List.singleton_append]
  have e0 : [[]] ++ (fillsA b).tail.map natsV = ((fillsA b).map natsV).take (fillsA b).length := by
    rw [List.take_of_length_le (by rw [List.length_map]; omega)]
    conv => rhs; rw [hcons]
    rfl
  rw [e0]
  have hL : (Value.slice none 0 0 :: t).length = (fillsA b).length := by
    rw [List.length_cons, ht]
    have : 0 < (fillsA b).length := by rw [hcons]; exact Nat.succ_pos _
    omega
  have hv0 : (Value.slice none 0 0 :: t)[0]? = some (Value.slice none 0 0) := rfl
  generalize (Value.slice none 0 0 :: t) = vs at hL hv0 ⊢
  have hpos : 0 < (fillsA b).length := by rw [hcons]; exact Nat.succ_pos _
  refine tr_rowOpen (E := 44) (sz := 1) (v := u) (by exact Take.there .here) hpos fun g cap cur e hcap hmx hsz hl => ?_
  subst e
  have q0 : (vs ++ cur)[0 * 1]? = some (Value.slice none 0 0) := by rw [List.getElem?_append_left (by omega)]; exact hv0
  unfold maxLen at hmx

  (refine a_s rfl rfl ?_; refine n_r ?_; refine a_s rfl rfl ?_; refine n_t ?_; refine tr_seq ?_; refine s_r ?_; refine a_s rfl rfl ?_; refine n_t ?_; refine tr_block ?_)
  refine tr_for (ι := Nat) (fun k => k ≤ (fillsA b).length) (fun k => [(5, .int .i64 (k : Int)), (4, .int .i64 (fullL b ((fillsA b).take k))), (3, .slice (some ⟨g, 0, none⟩) (fillsA b).length cap), (1, .pointer (some ⟨b1, 0, none⟩))])
    (fun _ => [blk b1 (.cells #[.int .i64 b.n, sv, cv, xv] 83), blk g (.cells (vs ++ cur).toArray 44), pool 3 vs (((fillsA b).map natsV).take (fillsA b).length)]) (fun k => (fillsA b).length - k) ?_ ?_
  · apply tr_start 0 (show (fun k : Nat => k ≤ (fillsA b).length) 0 from Nat.zero_le _)
    case hs1 => exact .cons rfl (.cons rfl (.cons rfl (.cons rfl .nil)))
    case ht => exact .cons (.there (.there .here)) (.cons .here (.cons .here .nil))
  rintro k hk
  by_cases hlt : k < (fillsA b).length
  · obtain ⟨v, hvN⟩ : ∃ v, vs[k]? = some v := ⟨vs[k]'(by omega), List.getElem?_eq_getElem (by omega)⟩
    have hx0 : (fillsA b)[k]? = some (fillsA b)[k] := List.getElem?_eq_getElem hlt
    generalize ho : (fillsA b)[k] = o at hx0
    have hdN : Dif b.sp.length o := fillsF_dif (Dif.nil _) _ (List.mem_of_getElem? hx0)
    have hlN : o.length ≤ 1000 := by have := hdN.len; omega
    have hxN : (((fillsA b).map natsV).take (fillsA b).length)[k]? = some (natsV o) := by
      rw [List.getElem?_take, if_pos hlt, List.getElem?_map, hx0]; rfl
    have hsn : fullL b ((fillsA b).take (k + 1)) = max (fullL b ((fillsA b).take k)) (tL b.sp o o.length) := by
      rw [fills_len hx0, fullL_snoc]
    have qk : (vs ++ cur)[k * 1]? = some v := by rw [Nat.mul_one, List.getElem?_append_left (by omega)]; exact hvN
    generalize hmo : fullL b ((fillsA b).take k) = mo at hsn
    (refine tr_seq ?_; refine s_r ?_; refine m_v rfl rfl ?_; refine m_v rfl rfl ?_; refine tr_val (rk_len_slice (.of rfl)) rfl ?_; refine tr_val (rk_lss (.of rfl) (.of rfl)) rfl ?_; refine n_t ?_; refine c_d rfl (fun hcd => ?_) (fun _ => by omega); refine s_t ?_; refine tr_seq ?_; refine tr_block ?_)
    with_reducible refine tr_draw 9 (by kernel_rfl) ?_
    (refine a_m rfl rfl ?_; refine any_val (rk_loadB (.of rfl) .here norm_ (by rfl)) rfl ?_; refine a_m rfl rfl ?_; refine a_m rfl rfl ?_; refine any_val (rk_indexAddr (.of rfl) (.of rfl) rfl (by omega) hcd norm1_) rfl ?_; refine any_val (rk_load1 (.of rfl) (At.blkL (.there .here) qk)) rfl ?_; refine any_call (rk_call (.of rfl) (.cons (.of rfl) (.cons (.of rfl) .nil)) inferInstance normc_) rfl (fun w' hm' => (measQ_c (Rd.keeps h1 (Mem.keeps hm')) (rdPoolN hm' (.there (.there .here)) hvN hxN) hone2 hone3 (BrOk.spOk hok) (Dif.lt hdN) hlN)) ?_; refine any_val (rk_index (.of rfl) (.of rfl) (by omega) (by omega) norm_) rfl ?_; refine any_val (rk_max2 (.of rfl) (.of rfl)) rfl ?_)
    with_reducible refine any_end ?_
    (refine a_s rfl rfl ?_; refine tr_nil ?_; refine tr_blk_normal ?_; refine tr_then ?_; refine tr_region ?_; refine m_v rfl rfl ?_; refine tr_val (rk_add (.of rfl) (.of rfl) (ini (by omega))) rfl ?_; refine a_s rfl rfl ?_; refine n_t ?_)
    apply tr_next (k + 1) (show (fun k : Nat => k ≤ (fillsA b).length) (k + 1) from hlt) (by show (fillsA b).length - (k + 1) < (fillsA b).length - k; omega)
    case hs1 => rw [hsn]; exact .cons rfl (.cons rfl (.cons rfl (.cons rfl .nil)))
    case ht => exact .cons .here (.cons .here (.cons .here .nil))
  · obtain rfl : k = (fillsA b).length := by omega
    rw [List.take_length]
    (refine tr_seq ?_; refine s_r ?_; refine m_v rfl rfl ?_; refine m_v rfl rfl ?_; refine tr_val (rk_len_slice (.of rfl)) rfl ?_; refine tr_val (rk_lss (.of rfl) (.of rfl)) rfl ?_; refine n_t ?_; refine c_d rfl (fun _ => by omega) (fun hcd => ?_); refine x_t ?_; refine tr_then_exit ?_; refine tr_blk_exit ?_; refine tr_then ?_; refine s_r ?_; refine m_v rfl rfl ?_; refine a_s rfl rfl ?_; refine n_t ?_; refine tr_ret ?_; refine tr_retE rfl (ends1 rfl rfl) ?_)
    rfl
end Go.Proofs.A1


/- S56 -/
namespace Go.Proofs.A1
open Go Go.SL

end Go.Proofs.A1


/- S57 -/
namespace Go.Proofs.A1
open Go Go.SL

end Go.Proofs.A1


/- S58 -/
namespace Go.Proofs.A1
open Go Go.SL

def listOk (l1 l2 : List Int) (e bad : Int) : Bool := decide (e = bad) && ((decide (bad ≠ 0) && decide ((l1.length : Int) = 0)) || (decide (bad = 0) && decide (l1 = l2)))
theorem listed_c {v1 v2 : Value} {l1 l2 : List Int} {e bad : Int} {w : World} (h1 : Rd w v1 1 (l1.map oneV)) (h2 : Rd w v2 1 (l2.map oneV)) : GivesV Tryz.prog 42 [v1, .int .i64 e, .int .i64 bad, v2] w (.bool (listOk l1 l2 e bad)) := by
  have h1' := h1
  obtain ⟨a, cap, b, o, rfl, hcap, hmax, ha, hc⟩ := h1'
  have hl1 := lenV oneV l1
  refine givesV_of_tr Tryz.func42 rfl rfl ?_
  (refine s_r ?_; refine a_s rfl rfl ?_; refine n_r ?_; refine m_v rfl rfl ?_; refine m_v rfl rfl ?_; refine tr_val (rk_eql (.of rfl) (.of rfl)) rfl ?_; refine m_v rfl rfl ?_; refine v_g rfl rfl rfl rfl ?_; refine tr_vG1 rfl rfl inferInstance (fun hg hgp => (rk_neq (.ofg hg rfl) (.of rfl))) rfl ?_; refine tr_vG1 rfl rfl inferInstance (fun hg hgp => (rk_move (.ofg hg rfl))) rfl ?_; refine tr_vG rfl rfl inferInstance (fun hg hgp => (rk_move (.of rfl))) rfl ?_; refine tr_vG rfl rfl inferInstance (fun hg hgp => (rk_len_slice (.ofg hg rfl))) rfl ?_; refine tr_vG rfl rfl inferInstance (fun hg hgp => (rk_eql (.ofg hg rfl) (.of rfl))) rfl ?_; refine tr_vG1 rfl rfl inferInstance (fun hg hgp => (rk_pick_and' hg (.ofg hg rfl) rfl)) rfl ?_; refine tr_vG1 rfl rfl inferInstance (fun hg hgp => (rk_move (.ofg hg rfl))) rfl ?_; refine tr_vG rfl rfl inferInstance (fun hg hgp => (rk_move (.of rfl))) rfl ?_; refine tr_vG rfl rfl inferInstance (fun hg hgp => (rk_eql (.ofg hg rfl) (.of rfl))) rfl ?_; refine tr_vG rfl rfl inferInstance (fun hg hgp => (rk_move (.ofg hg rfl))) rfl ?_; refine tr_vG rfl rfl inferInstance (fun hg hgp => (rk_move (.of rfl))) rfl ?_; refine tr_vG rfl rfl inferInstance (fun hg hgp => (rk_move (.of rfl))) rfl ?_; refine tr_callVG rfl rfl (fun hg => (rk_call (.of rfl) (.cons (.ofg hg rfl) (.cons (.ofg hg rfl) .nil)) inferInstance normc_)) rfl (fun hg w' hm' => (sameInts_c (Rd.keeps h1 (Mem.keeps hm')) (Rd.keeps h2 (Mem.keeps hm')))) ?_; refine tr_vG rfl rfl inferInstance (fun hg hgp => (rk_pick_and' hg (.ofg hg rfl) rfl)) rfl ?_; refine tr_vG1 rfl rfl inferInstance (fun hg hgp => (rk_pick_or' hg (.ofg hg rfl) rfl)) rfl ?_; refine tr_val (rk_pick_and (.of rfl) rfl) rfl ?_; refine a_s rfl rfl ?_; refine n_t ?_; refine tr_ret ?_; refine tr_retE rfl (ends1 rfl rfl) ?_)
  rw [hl1]; rfl
end Go.Proofs.A1


/- S74 -/
namespace Go.Proofs.A1
open Go Go.SL

end Go.Proofs.A1


/- S59 -/
namespace Go.Proofs.A1
open Go Go.SL

end Go.Proofs.A1


/- S60 -/
namespace Go.Proofs.A1
open Go Go.SL

end Go.Proofs.A1


/- S61p -/
/- Rights: the errors of the program and those of the reference are the same. Plain Lean. -/
namespace Go.Proofs.A1
open Go Go.SL
theorem listOk_same (l : List Int) (e : Int) (h : e ≠ 0 → l = []) : listOk l l e e = true := by
  by_cases he : e = 0
  · simp [listOk, he]
  · simp [listOk, he, h he]
end Go.Proofs.A1

