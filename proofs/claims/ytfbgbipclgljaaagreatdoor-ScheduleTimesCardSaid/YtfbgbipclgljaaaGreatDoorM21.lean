/- Parts of the proof: S51 S52. -/
import Derived.Test.YtfbgbipclgljaaaGreatDoorM20
import Derived.Test.YtfbgbipclgljaaaGreatDoorM07
import Derived.Test.YtfbgbipclgljaaaGreatDoorTie
import Derived.Test.YtfbgbipclgljaaaGreatDoorCards
import Derived.Lib.SmallJoins
import Derived.Lib.LaidTab
import Derived.Deep.Slices
import Derived.Deep.Fields
import Derived.ChangeSame
import Derived.ChangeBook
import Derived.ChangeStays
import Derived.WalkKit
import Derived.ProofKit
import Derived.OpenShut
import Derived.Below
import Derived.LaidMore
import Derived.Lay
import Derived.SevenTiedAt
import Derived.Stop.Joined
set_option linter.unusedSectionVars false
set_option linter.unusedVariables false
set_option linter.unusedSimpArgs false
/- S51 -/
namespace Go.Proofs.A1
open Go Go.SL

theorem rk_eqlT {P : Program} {c : Cx} {sl : Slots} {hs : List Asn} {dst : Option Tmp} {ty : TypeId} {pos : String} {af : Array Edge} {g : Option (Nat × Bool)} {k : IntKind} {t u : TypeId} {x y : Operand} {a b : Int} (hx : Is sl x (.int k a)) (hy : Is sl y (.int k b)) (e : a = b) :
    RunV P c sl hs ⟨dst, .binOp .eql t x y u, ty, pos, af, g⟩ (.bool true) := by
  have := rk_eql (P := P) (c := c) (hs := hs) (dst := dst) (ty := ty) (pos := pos) (af := af) (g := g) (t := t) (u := u) hx hy
  rwa [decide_eq_true e] at this
theorem rk_eqlF {P : Program} {c : Cx} {sl : Slots} {hs : List Asn} {dst : Option Tmp} {ty : TypeId} {pos : String} {af : Array Edge} {g : Option (Nat × Bool)} {k : IntKind} {t u : TypeId} {x y : Operand} {a b : Int} (hx : Is sl x (.int k a)) (hy : Is sl y (.int k b)) (e : a ≠ b) :
    RunV P c sl hs ⟨dst, .binOp .eql t x y u, ty, pos, af, g⟩ (.bool false) := by
  have := rk_eql (P := P) (c := c) (hs := hs) (dst := dst) (ty := ty) (pos := pos) (af := af) (g := g) (t := t) (u := u) hx hy
  rwa [decide_eq_false e] at this
theorem shortB_few {es : List En} (h : shortB es = true) : es.length ≤ 1000 := by
  unfold shortB at h
  rw [Bool.and_eq_true, Bool.or_eq_true] at h
  rcases h.2 with h | h
  · exact Nat.le_trans (of_decide_eq_true h) (by decide)
  · rw [of_decide_eq_true h]; decide
set_option maxHeartbeats 4000000 in
theorem timesS_c {sv : Value} {es : List En} {n : Int} {w : World} (h1 : Rd w sv 6 (ensL es)) (hG : Glob w) (hT : Tab10 w) (hsh : shortB es = false) : GivesV Tryz.prog 3 [.agg #[sv], .int .i64 n] w (.bool true) := by
  have haw : ∀ w', Keeps [] w w' → GivesV Tryz.prog 17 [] w' (.bool true) := fun w' hk => awake_c w' (hG.keeps hk) (hT.keeps hk)
  have hshort : ∀ w', Keeps [] w w' → GivesV Tryz.prog 18 [.agg #[sv]] w' (.bool false) := fun w' hk => by
    have := short_c (h1.keeps hk)
    rwa [hsh] at this
  refine givesV_of_tr Tryz.func3 rfl rfl ?_
  (refine s_r ?_; refine tr_new (rk_box (.of rfl) rfl) rfl (fun _ _ => ?_); refine a_s rfl rfl ?_; refine n_t ?_; refine tr_seq ?_; refine s_r ?_)
  rename_i bx hbx
  with_reducible apply tr_callV
  case hr => exact rk_call (.of rfl) .nil inferInstance normc_
  case hd => rfl
  case hc =>
    intro w' hm'
    exact haw w' hm'.keeps
  (refine tr_val (rk_not (.of rfl)) rfl ?_; refine m_v rfl rfl ?_; refine tr_gOn rfl rfl ?_; refine tr_val (rk_loadB (.of rfl) .here norm_ (by rfl)) rfl ?_; refine tr_gOn rfl rfl ?_)
  with_reducible apply tr_callV
  case hr => exact rk_call (.of rfl) (.cons (.of rfl) .nil) inferInstance normc_
  case hd => rfl
  case hc =>
    intro w' hm'
    exact hshort w' hm'.keeps
  (refine tr_gOn rfl rfl ?_; refine tr_val (rk_not (.of rfl)) rfl ?_; refine tr_val (rk_pickB (.of rfl) (.of rfl) (.of rfl) rfl) rfl ?_; refine n_t ?_; refine tr_cond_t (.of rfl) ?_; refine s_r ?_)
  with_reducible apply tr_callV
  case hr => exact rk_call (.of rfl) .nil inferInstance normc_
  case hd => rfl
  case hc =>
    intro w' hm'
    exact haw w' hm'.keeps
  (refine a_s rfl rfl ?_; refine n_t ?_; refine r_t ?_; refine tr_retE rfl (ends1 rfl rfl) ?_)
  rfl
set_option maxHeartbeats 4000000 in
theorem timesC_c {sv : Value} {es : List En} {n : Int} {w : World} (h1 : Rd w sv 6 (ensL es)) (hG : Glob w) (hT : Tab10 w) (hsh : shortB es = true) (hc : ¬ chkF es = 0) (ha : ¬ airE es n = 0) : GivesV Tryz.prog 3 [.agg #[sv], .int .i64 n] w (.bool true) := by
  have haw : ∀ w', Keeps [] w w' → GivesV Tryz.prog 17 [] w' (.bool true) := fun w' hk => awake_c w' (hG.keeps hk) (hT.keeps hk)
  have hshort : ∀ w', Keeps [] w w' → GivesV Tryz.prog 18 [.agg #[sv]] w' (.bool true) := fun w' hk => by
    have := short_c (h1.keeps hk)
    rwa [hsh] at this
  have hfew := shortB_few hsh
  have hfi : ∀ (v : Value) w', Rd w' v 1 (ints [chkF es, withinF n 0 10000000]) → GivesV Tryz.prog 24 [v] w' (.int .i64 (airE es n)) := fun v w' h => first_q v _ w' h
  have hsp : ∀ (va vb : Value) w', Rd w' va 2 ((tmL es).map duoV) → Rd w' vb 2 (([] : List (Int × Int)).map duoV) → GivesV Tryz.prog 30 [va, .int .i64 (chkF es), .int .i64 (chkF es), vb] w' (.bool true) := fun va vb w' ha hb => by
    have := spansB_c (e := chkF es) (bad := chkF es) ha hb
    rwa [show spansOk (tmL es) ([]) (chkF es) (chkF es) = true by simp [spansOk, tmL, hc]] at this
  have hgp : ∀ (va vb : Value) w', Rd w' va 3 ((gpsL es).map triV) → Rd w' vb 3 (([] : List (Int × Int × Int)).map triV) → GivesV Tryz.prog 31 [va, vb] w' (.bool true) := fun va vb w' ha hb => by
    have := sameGaps_c ha hb
    rwa [decide_eq_true (by rw [gpsL, if_neg hc])] at this
  have hsr : ∀ (va vb : Value) w', Rd w' va 3 ((airL es n).map triV) → Rd w' vb 3 (([] : List (Int × Int × Int)).map triV) → GivesV Tryz.prog 33 [va, vb] w' (.bool true) := fun va vb w' ha' hb => by
    have := sameShares_c ha' hb
    rwa [decide_eq_true (by rw [airL, if_neg ha])] at this
  have hgl : (gpsL es).length ≤ 1000 := by
    by_cases hz : chkF es = 0
    · rw [gpsL, if_pos hz]; exact Nat.le_trans (gpL_le es _) hfew
    · rw [gpsL, if_neg hz]; exact Nat.zero_le _
  have hal : (airL es n).length ≤ 1000 := by
    by_cases hz : airE es n = 0
    · rw [airL, if_pos hz]; unfold shF; split <;> simp
    · rw [airL, if_neg hz]; exact Nat.zero_le _
  refine givesV_of_tr Tryz.func3 rfl rfl ?_
  (refine s_r ?_; refine tr_new (rk_box (.of rfl) rfl) rfl (fun _ _ => ?_); refine a_s rfl rfl ?_; refine n_t ?_; refine tr_seq ?_; refine s_r ?_)
  rename_i bx hbx
  with_reducible apply tr_callV
  case hr => exact rk_call (.of rfl) .nil inferInstance normc_
  case hd => rfl
  case hc =>
    intro w' hm'
    exact haw w' hm'.keeps
  (refine tr_val (rk_not (.of rfl)) rfl ?_; refine m_v rfl rfl ?_; refine tr_gOn rfl rfl ?_; refine tr_val (rk_loadB (.of rfl) .here norm_ (by rfl)) rfl ?_; refine tr_gOn rfl rfl ?_)
  with_reducible apply tr_callV
  case hr => exact rk_call (.of rfl) (.cons (.of rfl) .nil) inferInstance normc_
  case hd => rfl
  case hc =>
    intro w' hm'
    exact hshort w' hm'.keeps
  (refine tr_gOn rfl rfl ?_; refine tr_val (rk_not (.of rfl)) rfl ?_; refine tr_val (rk_pickB (.of rfl) (.of rfl) (.of rfl) rfl) rfl ?_; refine n_t ?_; refine tr_cond_f (.of rfl) ?_; refine s_t ?_; refine s_r ?_; refine tr_val (rk_loadB (.of rfl) .here norm_ (by rfl)) rfl ?_)
  with_reducible apply tr_call
  case hr => exact rk_call (.of rfl) (.cons (.of rfl) .nil) inferInstance normc_
  case hd => rfl
  case ht => exact Takes.nil
  case hc =>
    intro w1 fp hm1 _ hs1
    obtain rfl : fp = [] := hs1
    exact own_c (h1.keeps hm1.keeps) hfew
  intro o1 _
  dsimp only [id_eq, List.cons_append, List.nil_append]
  with_reducible apply tr_call
  case hr => exact rk_call (.of rfl) (.cons (.of rfl) .nil) inferInstance normc_
  case hd => rfl
  case ht => exact Takes.nil
  case hc =>
    intro w1 fp hm1 _ hs1
    obtain rfl : fp = [] := hs1
    exact times_c (rdEn (v := o1) hm1 (by exact .here)) (hG.keeps hm1.keeps)
  intro t1 _
  dsimp only [id_eq, List.cons_append, List.nil_append]
  (refine m_v rfl rfl ?_; refine tr_val (rk_extract (.of rfl) rfl) rfl ?_; refine tr_val (rk_extract (.of rfl) rfl) rfl ?_; refine a_s rfl rfl ?_; refine a_s rfl rfl ?_; refine n_r ?_; refine tr_val (rk_loadB (.of rfl) (.there (.there .here)) norm_ (by rfl)) rfl ?_)
  with_reducible apply tr_call
  case hr => exact rk_call (.of rfl) (.cons (.of rfl) .nil) inferInstance normc_
  case hd => rfl
  case ht => exact Takes.nil
  case hc =>
    intro w1 fp hm1 _ hs1
    obtain rfl : fp = [] := hs1
    exact own_c (h1.keeps hm1.keeps) hfew
  intro o2 _
  dsimp only [id_eq, List.cons_append, List.nil_append]
  with_reducible apply tr_call
  case hr => exact rk_call (.of rfl) (.cons (.of rfl) .nil) inferInstance normc_
  case hd => rfl
  case ht => exact Takes.nil
  case hc =>
    intro w1 fp hm1 _ hs1
    obtain rfl : fp = [] := hs1
    exact gapsX_c (rdEn (v := o2) hm1 (by exact .here)) (hG.keeps hm1.keeps)
  intro g1 _
  dsimp only [id_eq, List.cons_append, List.nil_append]
  (refine m_v rfl rfl ?_; refine tr_val (rk_extract (.of rfl) rfl) rfl ?_; refine tr_val (rk_extract (.of rfl) rfl) rfl ?_; refine a_s rfl rfl ?_; refine a_s rfl rfl ?_; refine n_r ?_; refine tr_val (rk_loadB (.of rfl) (.there (.there (.there (.there .here)))) norm_ (by rfl)) rfl ?_)
  with_reducible apply tr_call
  case hr => exact rk_call (.of rfl) (.cons (.of rfl) .nil) inferInstance normc_
  case hd => rfl
  case ht => exact Takes.nil
  case hc =>
    intro w1 fp hm1 _ hs1
    obtain rfl : fp = [] := hs1
    exact own_c (h1.keeps hm1.keeps) hfew
  intro o3 _
  dsimp only [id_eq, List.cons_append, List.nil_append]
  refine m_v rfl rfl ?_
  with_reducible apply tr_call
  case hr => exact rk_call (.of rfl) (.cons (.of rfl) (.cons (.of rfl) .nil)) inferInstance normc_
  case hd => rfl
  case ht => exact Takes.nil
  case hc =>
    intro w1 fp hm1 _ hs1
    obtain rfl : fp = [] := hs1
    exact onAir_c (rdEn (v := o3) hm1 (by exact .here)) (hG.keeps hm1.keeps)
  intro a1 _
  dsimp only [id_eq, List.cons_append, List.nil_append]
  (refine m_v rfl rfl ?_; refine tr_val (rk_extract (.of rfl) rfl) rfl ?_; refine tr_val (rk_extract (.of rfl) rfl) rfl ?_; refine a_s rfl rfl ?_; refine a_s rfl rfl ?_; refine n_r ?_; refine tr_val (rk_loadB (.of rfl) (.there (.there (.there (.there (.there (.there .here)))))) norm_ (by rfl)) rfl ?_)
  with_reducible apply tr_callV
  case hr => exact rk_call (.of rfl) (.cons (.of rfl) .nil) inferInstance normc_
  case hd => rfl
  case hc =>
    intro w' hm'
    exact chkQ_c (h1.keeps hm'.keeps)
  (refine a_s rfl rfl ?_; refine n_r ?_; refine m_v rfl rfl ?_; refine m_v rfl rfl ?_)
  with_reducible apply tr_callV
  case hr => exact rk_call (.of rfl) (.cons (.of rfl) .nil) inferInstance normc_
  case hd => rfl
  case hc =>
    intro w' hm'
    exact frameQ_c n _
  refine tr_new (rk_sliceLit (.cons (.of rfl) (.cons (.of rfl) .nil)) rfl rfl rfl rfl) rfl (fun _ _ => ?_)
  with_reducible apply tr_callV
  case hr => exact rk_call (.of rfl) (.cons (.of rfl) .nil) inferInstance normc_
  case hd => rfl
  case hc =>
    intro w' hm'
    exact hfi _ w' (Mem.rdBlk hm' (by exact .here) rfl rfl)
  (refine a_s rfl rfl ?_; refine n_r ?_; refine a_s rfl rfl ?_; refine n_r ?_; refine a_s rfl rfl ?_; refine n_r ?_; refine a_s rfl rfl ?_; refine n_t ?_; refine tr_seq ?_; refine s_r ?_; refine m_v rfl rfl ?_; refine tr_val (rk_eqlF (.of rfl) (.of rfl) hc) rfl ?_; refine n_t ?_; refine tr_cond_f (.of rfl) ?_; refine s_t ?_; refine tr_seq ?_; refine s_r ?_; refine m_v rfl rfl ?_; refine tr_val (rk_eqlF (.of rfl) (.of rfl) ha) rfl ?_; refine n_t ?_; refine tr_cond_f (.of rfl) ?_; refine s_t ?_; refine s_r ?_; refine tr_val (rk_loadB (.of rfl) (.there (.there (.there (.there (.there (.there (.there .here))))))) norm_ (by rfl)) rfl ?_)
  with_reducible apply tr_call
  case hr => exact rk_call (.of rfl) (.cons (.of rfl) .nil) inferInstance normc_
  case hd => rfl
  case ht => exact Takes.nil
  case hc =>
    intro w1 fp hm1 _ hs1
    obtain rfl : fp = [] := hs1
    exact own_c (h1.keeps hm1.keeps) hfew
  intro o4 _
  dsimp only [id_eq, List.cons_append, List.nil_append]
  with_reducible apply tr_callV
  case hr => exact rk_call (.of rfl) (.cons (.of rfl) .nil) inferInstance normc_
  case hd => rfl
  case hc =>
    intro w' hm'
    exact chk_c (rdEn (v := o4) hm' (by exact .here)) (hG.keeps hm'.keeps)
  (refine m_v rfl rfl ?_; refine tr_val (rk_eqlT (.of rfl) (.of rfl) rfl) rfl ?_; refine m_v rfl rfl ?_; refine tr_gOn rfl rfl ?_; refine m_v rfl rfl ?_; refine tr_gOn rfl rfl ?_; refine m_v rfl rfl ?_; refine tr_gOn rfl rfl ?_; refine m_v rfl rfl ?_; refine tr_gOn rfl rfl ?_; refine m_v rfl rfl ?_; refine tr_gOn rfl rfl ?_)
  with_reducible apply tr_callV
  case hr => exact rk_call (.of rfl) (.cons (.of rfl) (.cons (.of rfl) (.cons (.of rfl) (.cons (.of rfl) .nil)))) inferInstance normc_
  case hd => rfl
  case hc =>
    intro w' hm'
    exact hsp _ _ w' (rdDuo (v := t1) hm' (by exact Take.there (.there (.there (.there (.there (.there .here))))))) (Rd.nil _ _)
  (refine tr_val (rk_pickB (.of rfl) (.of rfl) (.of rfl) rfl) rfl ?_; refine m_v rfl rfl ?_; refine tr_gOn rfl rfl ?_; refine m_v rfl rfl ?_; refine tr_gOn rfl rfl ?_)
  with_reducible apply tr_call
  case hr => exact rk_call (.of rfl) (.cons (.of rfl) .nil) inferInstance normc_
  case hd => rfl
  case ht => exact Takes.nil
  case hc =>
    intro w1 fp hm1 _ hs1
    obtain rfl : fp = [] := hs1
    exact gapsT_c (rdTriN (v := g1) hm1 (by exact Take.there (.there (.there (.there .here)))) rfl) hgl
  intro g2 _
  dsimp only [id_eq, List.cons_append, List.nil_append]
  (refine tr_gOn rfl rfl ?_; refine m_v rfl rfl ?_; refine tr_gOn rfl rfl ?_)
  with_reducible apply tr_callV
  case hr => exact rk_call (.of rfl) (.cons (.of rfl) (.cons (.of rfl) .nil)) inferInstance normc_
  case hd => rfl
  case hc =>
    intro w' hm'
    exact hgp _ _ w' (rdTriN (v := g2) hm' (by exact .here) rfl) (Rd.nil _ _)
  (refine tr_val (rk_pickB (.of rfl) (.of rfl) (.of rfl) rfl) rfl ?_; refine m_v rfl rfl ?_; refine tr_gOn rfl rfl ?_; refine m_v rfl rfl ?_; refine tr_gOn rfl rfl ?_; refine m_v rfl rfl ?_; refine tr_gOn rfl rfl ?_; refine tr_val (rk_eqlT (.of rfl) (.of rfl) rfl) rfl ?_; refine tr_val (rk_pickB (.of rfl) (.of rfl) (.of rfl) rfl) rfl ?_; refine m_v rfl rfl ?_; refine tr_gOn rfl rfl ?_; refine m_v rfl rfl ?_; refine tr_gOn rfl rfl ?_)
  with_reducible apply tr_call
  case hr => exact rk_call (.of rfl) (.cons (.of rfl) .nil) inferInstance normc_
  case hd => rfl
  case ht => exact Takes.nil
  case hc =>
    intro w1 fp hm1 _ hs1
    obtain rfl : fp = [] := hs1
    exact sharesT_c (rdTriN (v := a1) hm1 (by exact Take.there (.there (.there .here))) rfl) hal
  intro a2 _
  dsimp only [id_eq, List.cons_append, List.nil_append]
  (refine tr_gOn rfl rfl ?_; refine m_v rfl rfl ?_; refine tr_gOn rfl rfl ?_)
  with_reducible apply tr_callV
  case hr => exact rk_call (.of rfl) (.cons (.of rfl) (.cons (.of rfl) .nil)) inferInstance normc_
  case hd => rfl
  case hc =>
    intro w' hm'
    exact hsr _ _ w' (rdTriN (v := a2) hm' (by exact .here) rfl) (Rd.nil _ _)
  (refine tr_val (rk_pickB (.of rfl) (.of rfl) (.of rfl) rfl) rfl ?_; refine m_v rfl rfl ?_; refine tr_gOn rfl rfl ?_; refine m_v rfl rfl ?_; refine tr_gOn rfl rfl ?_; refine m_v rfl rfl ?_; refine tr_gOn rfl rfl ?_; refine tr_val (rk_eqlT (.of rfl) (.of rfl) rfl) rfl ?_; refine tr_val (rk_pickB (.of rfl) (.of rfl) (.of rfl) rfl) rfl ?_; refine a_s rfl rfl ?_; refine n_t ?_; refine tr_ret ?_; refine tr_retE rfl (ends1 rfl rfl) ?_)
  rfl
set_option maxHeartbeats 4000000 in
theorem timesB_c {sv : Value} {es : List En} {n : Int} {w : World} (h1 : Rd w sv 6 (ensL es)) (hG : Glob w) (hT : Tab10 w) (hsh : shortB es = true) (hc : chkF es = 0) (ha : ¬ airE es n = 0) : GivesV Tryz.prog 3 [.agg #[sv], .int .i64 n] w (.bool true) := by
  have haw : ∀ w', Keeps [] w w' → GivesV Tryz.prog 17 [] w' (.bool true) := fun w' hk => awake_c w' (hG.keeps hk) (hT.keeps hk)
  have hshort : ∀ w', Keeps [] w w' → GivesV Tryz.prog 18 [.agg #[sv]] w' (.bool true) := fun w' hk => by
    have := short_c (h1.keeps hk)
    rwa [hsh] at this
  have hfew := shortB_few hsh
  have hfi : ∀ (v : Value) w', Rd w' v 1 (ints [chkF es, withinF n 0 10000000]) → GivesV Tryz.prog 24 [v] w' (.int .i64 (airE es n)) := fun v w' h => first_q v _ w' h
  have hs : Sound es := Sound.of hc
  have hsp : ∀ (va vb : Value) w', Rd w' va 2 ((tmL es).map duoV) → Rd w' vb 2 ((spL es es.length : List (Int × Int)).map duoV) → GivesV Tryz.prog 30 [va, .int .i64 (chkF es), .int .i64 (chkF es), vb] w' (.bool true) := fun va vb w' ha hb => by
    have := spansB_c (e := chkF es) (bad := chkF es) ha hb
    rwa [show spansOk (tmL es) (spL es es.length) (chkF es) (chkF es) = true by simp [spansOk, tmL, hc]] at this
  have hgp : ∀ (va vb : Value) w', Rd w' va 3 ((gpsL es).map triV) → Rd w' vb 3 ((gpL es es.length : List (Int × Int × Int)).map triV) → GivesV Tryz.prog 31 [va, vb] w' (.bool true) := fun va vb w' ha hb => by
    have := sameGaps_c ha hb
    rwa [decide_eq_true (by rw [gpsL, if_pos hc])] at this
  have hsr : ∀ (va vb : Value) w', Rd w' va 3 ((airL es n).map triV) → Rd w' vb 3 (([] : List (Int × Int × Int)).map triV) → GivesV Tryz.prog 33 [va, vb] w' (.bool true) := fun va vb w' ha' hb => by
    have := sameShares_c ha' hb
    rwa [decide_eq_true (by rw [airL, if_neg ha])] at this
  have hgl : (gpsL es).length ≤ 1000 := by
    by_cases hz : chkF es = 0
    · rw [gpsL, if_pos hz]; exact Nat.le_trans (gpL_le es _) hfew
    · rw [gpsL, if_neg hz]; exact Nat.zero_le _
  have hal : (airL es n).length ≤ 1000 := by
    by_cases hz : airE es n = 0
    · rw [airL, if_pos hz]; unfold shF; split <;> simp
    · rw [airL, if_neg hz]; exact Nat.zero_le _
  refine givesV_of_tr Tryz.func3 rfl rfl ?_
  (refine s_r ?_; refine tr_new (rk_box (.of rfl) rfl) rfl (fun _ _ => ?_); refine a_s rfl rfl ?_; refine n_t ?_; refine tr_seq ?_; refine s_r ?_)
  rename_i bx hbx
  with_reducible apply tr_callV
  case hr => exact rk_call (.of rfl) .nil inferInstance normc_
  case hd => rfl
  case hc =>
    intro w' hm'
    exact haw w' hm'.keeps
  (refine tr_val (rk_not (.of rfl)) rfl ?_; refine m_v rfl rfl ?_; refine tr_gOn rfl rfl ?_; refine tr_val (rk_loadB (.of rfl) .here norm_ (by rfl)) rfl ?_; refine tr_gOn rfl rfl ?_)
  with_reducible apply tr_callV
  case hr => exact rk_call (.of rfl) (.cons (.of rfl) .nil) inferInstance normc_
  case hd => rfl
  case hc =>
    intro w' hm'
    exact hshort w' hm'.keeps
  (refine tr_gOn rfl rfl ?_; refine tr_val (rk_not (.of rfl)) rfl ?_; refine tr_val (rk_pickB (.of rfl) (.of rfl) (.of rfl) rfl) rfl ?_; refine n_t ?_; refine tr_cond_f (.of rfl) ?_; refine s_t ?_; refine s_r ?_; refine tr_val (rk_loadB (.of rfl) .here norm_ (by rfl)) rfl ?_)
  with_reducible apply tr_call
  case hr => exact rk_call (.of rfl) (.cons (.of rfl) .nil) inferInstance normc_
  case hd => rfl
  case ht => exact Takes.nil
  case hc =>
    intro w1 fp hm1 _ hs1
    obtain rfl : fp = [] := hs1
    exact own_c (h1.keeps hm1.keeps) hfew
  intro o1 _
  dsimp only [id_eq, List.cons_append, List.nil_append]
  with_reducible apply tr_call
  case hr => exact rk_call (.of rfl) (.cons (.of rfl) .nil) inferInstance normc_
  case hd => rfl
  case ht => exact Takes.nil
  case hc =>
    intro w1 fp hm1 _ hs1
    obtain rfl : fp = [] := hs1
    exact times_c (rdEn (v := o1) hm1 (by exact .here)) (hG.keeps hm1.keeps)
  intro t1 _
  dsimp only [id_eq, List.cons_append, List.nil_append]
  (refine m_v rfl rfl ?_; refine tr_val (rk_extract (.of rfl) rfl) rfl ?_; refine tr_val (rk_extract (.of rfl) rfl) rfl ?_; refine a_s rfl rfl ?_; refine a_s rfl rfl ?_; refine n_r ?_; refine tr_val (rk_loadB (.of rfl) (.there (.there .here)) norm_ (by rfl)) rfl ?_)
  with_reducible apply tr_call
  case hr => exact rk_call (.of rfl) (.cons (.of rfl) .nil) inferInstance normc_
  case hd => rfl
  case ht => exact Takes.nil
  case hc =>
    intro w1 fp hm1 _ hs1
    obtain rfl : fp = [] := hs1
    exact own_c (h1.keeps hm1.keeps) hfew
  intro o2 _
  dsimp only [id_eq, List.cons_append, List.nil_append]
  with_reducible apply tr_call
  case hr => exact rk_call (.of rfl) (.cons (.of rfl) .nil) inferInstance normc_
  case hd => rfl
  case ht => exact Takes.nil
  case hc =>
    intro w1 fp hm1 _ hs1
    obtain rfl : fp = [] := hs1
    exact gapsX_c (rdEn (v := o2) hm1 (by exact .here)) (hG.keeps hm1.keeps)
  intro g1 _
  dsimp only [id_eq, List.cons_append, List.nil_append]
  (refine m_v rfl rfl ?_; refine tr_val (rk_extract (.of rfl) rfl) rfl ?_; refine tr_val (rk_extract (.of rfl) rfl) rfl ?_; refine a_s rfl rfl ?_; refine a_s rfl rfl ?_; refine n_r ?_; refine tr_val (rk_loadB (.of rfl) (.there (.there (.there (.there .here)))) norm_ (by rfl)) rfl ?_)
  with_reducible apply tr_call
  case hr => exact rk_call (.of rfl) (.cons (.of rfl) .nil) inferInstance normc_
  case hd => rfl
  case ht => exact Takes.nil
  case hc =>
    intro w1 fp hm1 _ hs1
    obtain rfl : fp = [] := hs1
    exact own_c (h1.keeps hm1.keeps) hfew
  intro o3 _
  dsimp only [id_eq, List.cons_append, List.nil_append]
  refine m_v rfl rfl ?_
  with_reducible apply tr_call
  case hr => exact rk_call (.of rfl) (.cons (.of rfl) (.cons (.of rfl) .nil)) inferInstance normc_
  case hd => rfl
  case ht => exact Takes.nil
  case hc =>
    intro w1 fp hm1 _ hs1
    obtain rfl : fp = [] := hs1
    exact onAir_c (rdEn (v := o3) hm1 (by exact .here)) (hG.keeps hm1.keeps)
  intro a1 _
  dsimp only [id_eq, List.cons_append, List.nil_append]
  (refine m_v rfl rfl ?_; refine tr_val (rk_extract (.of rfl) rfl) rfl ?_; refine tr_val (rk_extract (.of rfl) rfl) rfl ?_; refine a_s rfl rfl ?_; refine a_s rfl rfl ?_; refine n_r ?_; refine tr_val (rk_loadB (.of rfl) (.there (.there (.there (.there (.there (.there .here)))))) norm_ (by rfl)) rfl ?_)
  with_reducible apply tr_callV
  case hr => exact rk_call (.of rfl) (.cons (.of rfl) .nil) inferInstance normc_
  case hd => rfl
  case hc =>
    intro w' hm'
    exact chkQ_c (h1.keeps hm'.keeps)
  (refine a_s rfl rfl ?_; refine n_r ?_; refine m_v rfl rfl ?_; refine m_v rfl rfl ?_)
  with_reducible apply tr_callV
  case hr => exact rk_call (.of rfl) (.cons (.of rfl) .nil) inferInstance normc_
  case hd => rfl
  case hc =>
    intro w' hm'
    exact frameQ_c n _
  refine tr_new (rk_sliceLit (.cons (.of rfl) (.cons (.of rfl) .nil)) rfl rfl rfl rfl) rfl (fun _ _ => ?_)
  with_reducible apply tr_callV
  case hr => exact rk_call (.of rfl) (.cons (.of rfl) .nil) inferInstance normc_
  case hd => rfl
  case hc =>
    intro w' hm'
    exact hfi _ w' (Mem.rdBlk hm' (by exact .here) rfl rfl)
  (refine a_s rfl rfl ?_; refine n_r ?_; refine a_s rfl rfl ?_; refine n_r ?_; refine a_s rfl rfl ?_; refine n_r ?_; refine a_s rfl rfl ?_; refine n_t ?_; refine tr_seq ?_; refine s_r ?_; refine m_v rfl rfl ?_; refine tr_val (rk_eqlT (.of rfl) (.of rfl) hc) rfl ?_; refine n_t ?_; refine tr_cond_t (.of rfl) ?_)
  generalize hQ : Exit.then _ _ = Q
  suffices hk : ∀ v1 v2, Tr _ _ [(14, v2), (13, v1), (15, .slice none 0 0), (12, .int .i64 (airE es n)), (11, .int .i64 (chkF es)), (10, .int .i64 (airE es n)), (9, a1), (8, .int .i64 (chkF es)), (7, g1), (6, .int .i64 (chkF es)), (5, t1), (2, .pointer (some ⟨bx, 0, none⟩)), (1, .int .i64 n)] [row 66 2 v1 es.length (spV es es.length), row 170 3 v2 (gpL es es.length).length (gpR es es.length), row 117 3 a1 (airL es n).length ((airL es n).flatMap triV), row 120 3 g1 (gpsL es).length ((gpsL es).flatMap triV), row 66 2 t1 (tmL es).length ((tmL es).flatMap duoV), blk bx (.cells #[sv] 24)] (Q .normal) by
    refine tr_left 6 rfl ?_
    refine left_ready (rs := [0, 2]) (by kernel_rfl) (by simp) (List.forall_mem_cons.2 ⟨?_, List.forall_mem_cons.2 ⟨?_, fun _ h => absurd h List.not_mem_nil⟩⟩)
    · refine next_step rfl ?_
      (refine tr_val (rk_loadB (.of rfl) (.there (.there (.there (.there (.there (.there (.there .here))))))) norm_ (by rfl)) rfl ?_; refine n_t ?_)
      refine left_ready (rs := [1, 2]) (by kernel_rfl) (by simp) (List.forall_mem_cons.2 ⟨?_, List.forall_mem_cons.2 ⟨?_, fun _ h => absurd h List.not_mem_nil⟩⟩)
      · refine next_step rfl ?_
        with_reducible apply tr_call
        case hr => exact rk_call (.of rfl) (.cons (.of rfl) .nil) inferInstance normc_
        case hd => rfl
        case ht => exact Takes.nil
        case hc =>
          intro w1 fp hm1 _ hs1
          obtain rfl : fp = [] := hs1
          exact spansQ_c (h1.keeps hm1.keeps) hs
        intro v1 _
        dsimp only [id_eq, List.cons_append, List.nil_append]
        (refine n_t ?_)
        refine left_ready (rs := [2]) (by kernel_rfl) (by simp) (List.forall_mem_cons.2 ⟨?_, fun _ h => absurd h List.not_mem_nil⟩)
        · refine next_step rfl ?_
          (refine tr_val (rk_loadB (.of rfl) (.there (.there (.there (.there (.there (.there (.there (.there .here)))))))) norm_ (by rfl)) rfl ?_; refine n_t ?_)
          refine left_ready (rs := [3]) (by kernel_rfl) (by simp) (List.forall_mem_cons.2 ⟨?_, fun _ h => absurd h List.not_mem_nil⟩)
          · refine next_step rfl ?_
            with_reducible apply tr_call
            case hr => exact rk_call (.of rfl) (.cons (.of rfl) .nil) inferInstance normc_
            case hd => rfl
            case ht => exact Takes.nil
            case hc =>
              intro w1 fp hm1 _ hs1
              obtain rfl : fp = [] := hs1
              exact gapsQ_c (h1.keeps hm1.keeps) hs
            intro v2 _
            dsimp only [id_eq, List.cons_append, List.nil_append]
            (refine n_t ?_)
            refine left_ready (rs := [4]) (by kernel_rfl) (by simp) (List.forall_mem_cons.2 ⟨?_, fun _ h => absurd h List.not_mem_nil⟩)
            · refine next_step rfl ?_
              (refine a_s rfl rfl ?_; refine n_t ?_)
              refine left_ready (rs := [5]) (by kernel_rfl) (by simp) (List.forall_mem_cons.2 ⟨?_, fun _ h => absurd h List.not_mem_nil⟩)
              · refine next_step rfl ?_
                (refine a_s rfl rfl ?_; refine n_t ?_)
                with_reducible refine left_done (by kernel_rfl) ?_
                exact tr_cut [(14, v2), (13, v1), (15, .slice none 0 0), (12, .int .i64 (airE es n)), (11, .int .i64 (chkF es)), (10, .int .i64 (airE es n)), (9, a1), (8, .int .i64 (chkF es)), (7, g1), (6, .int .i64 (chkF es)), (5, t1), (2, .pointer (some ⟨bx, 0, none⟩)), (1, .int .i64 n)] [row 66 2 v1 es.length (spV es es.length), row 170 3 v2 (gpL es es.length).length (gpR es es.length), row 117 3 a1 (airL es n).length ((airL es n).flatMap triV), row 120 3 g1 (gpsL es).length ((gpsL es).flatMap triV), row 66 2 t1 (tmL es).length ((tmL es).flatMap duoV), blk bx (.cells #[sv] 24)] (by exact .cons rfl (.cons rfl (.cons rfl (.cons rfl (.cons rfl (.cons rfl (.cons rfl (.cons rfl (.cons rfl (.cons rfl (.cons rfl (.cons rfl (.cons rfl .nil))))))))))))) (by exact .cons (.there .here) (.cons .here (.cons (.there .here) (.cons (.there (.there .here)) (.cons (.there (.there (.there .here))) (.cons (.there (.there (.there (.there .here)))) .nil)))))) (hk v1 v2)
      · refine next_step rfl ?_
        (refine tr_val (rk_loadB (.of rfl) (.there (.there (.there (.there (.there (.there (.there .here))))))) norm_ (by rfl)) rfl ?_; refine n_t ?_)
        refine left_ready (rs := [1]) (by kernel_rfl) (by simp) (List.forall_mem_cons.2 ⟨?_, fun _ h => absurd h List.not_mem_nil⟩)
        · refine next_step rfl ?_
          with_reducible apply tr_call
          case hr => exact rk_call (.of rfl) (.cons (.of rfl) .nil) inferInstance normc_
          case hd => rfl
          case ht => exact Takes.nil
          case hc =>
            intro w1 fp hm1 _ hs1
            obtain rfl : fp = [] := hs1
            exact spansQ_c (h1.keeps hm1.keeps) hs
          intro v1 _
          dsimp only [id_eq, List.cons_append, List.nil_append]
          (refine n_t ?_)
          refine left_ready (rs := [3]) (by kernel_rfl) (by simp) (List.forall_mem_cons.2 ⟨?_, fun _ h => absurd h List.not_mem_nil⟩)
          · refine next_step rfl ?_
            with_reducible apply tr_call
            case hr => exact rk_call (.of rfl) (.cons (.of rfl) .nil) inferInstance normc_
            case hd => rfl
            case ht => exact Takes.nil
            case hc =>
              intro w1 fp hm1 _ hs1
              obtain rfl : fp = [] := hs1
              exact gapsQ_c (h1.keeps hm1.keeps) hs
            intro v2 _
            dsimp only [id_eq, List.cons_append, List.nil_append]
            (refine n_t ?_)
            refine left_ready (rs := [4]) (by kernel_rfl) (by simp) (List.forall_mem_cons.2 ⟨?_, fun _ h => absurd h List.not_mem_nil⟩)
            · refine next_step rfl ?_
              (refine a_s rfl rfl ?_; refine n_t ?_)
              refine left_ready (rs := [5]) (by kernel_rfl) (by simp) (List.forall_mem_cons.2 ⟨?_, fun _ h => absurd h List.not_mem_nil⟩)
              · refine next_step rfl ?_
                (refine a_s rfl rfl ?_; refine n_t ?_)
                with_reducible refine left_done (by kernel_rfl) ?_
                exact tr_cut [(14, v2), (13, v1), (15, .slice none 0 0), (12, .int .i64 (airE es n)), (11, .int .i64 (chkF es)), (10, .int .i64 (airE es n)), (9, a1), (8, .int .i64 (chkF es)), (7, g1), (6, .int .i64 (chkF es)), (5, t1), (2, .pointer (some ⟨bx, 0, none⟩)), (1, .int .i64 n)] [row 66 2 v1 es.length (spV es es.length), row 170 3 v2 (gpL es es.length).length (gpR es es.length), row 117 3 a1 (airL es n).length ((airL es n).flatMap triV), row 120 3 g1 (gpsL es).length ((gpsL es).flatMap triV), row 66 2 t1 (tmL es).length ((tmL es).flatMap duoV), blk bx (.cells #[sv] 24)] (by exact .cons rfl (.cons rfl (.cons rfl (.cons rfl (.cons rfl (.cons rfl (.cons rfl (.cons rfl (.cons rfl (.cons rfl (.cons rfl (.cons rfl (.cons rfl .nil))))))))))))) (by exact .cons (.there .here) (.cons .here (.cons (.there .here) (.cons (.there (.there .here)) (.cons (.there (.there (.there .here))) (.cons (.there (.there (.there (.there .here)))) .nil)))))) (hk v1 v2)
    · refine next_step rfl ?_
      (refine tr_val (rk_loadB (.of rfl) (.there (.there (.there (.there (.there (.there (.there .here))))))) norm_ (by rfl)) rfl ?_; refine n_t ?_)
      refine left_ready (rs := [0]) (by kernel_rfl) (by simp) (List.forall_mem_cons.2 ⟨?_, fun _ h => absurd h List.not_mem_nil⟩)
      · refine next_step rfl ?_
        (refine tr_val (rk_loadB (.of rfl) (.there (.there (.there (.there (.there (.there (.there .here))))))) norm_ (by rfl)) rfl ?_; refine n_t ?_)
        refine left_ready (rs := [1]) (by kernel_rfl) (by simp) (List.forall_mem_cons.2 ⟨?_, fun _ h => absurd h List.not_mem_nil⟩)
        · refine next_step rfl ?_
          with_reducible apply tr_call
          case hr => exact rk_call (.of rfl) (.cons (.of rfl) .nil) inferInstance normc_
          case hd => rfl
          case ht => exact Takes.nil
          case hc =>
            intro w1 fp hm1 _ hs1
            obtain rfl : fp = [] := hs1
            exact spansQ_c (h1.keeps hm1.keeps) hs
          intro v1 _
          dsimp only [id_eq, List.cons_append, List.nil_append]
          (refine n_t ?_)
          refine left_ready (rs := [3]) (by kernel_rfl) (by simp) (List.forall_mem_cons.2 ⟨?_, fun _ h => absurd h List.not_mem_nil⟩)
          · refine next_step rfl ?_
            with_reducible apply tr_call
            case hr => exact rk_call (.of rfl) (.cons (.of rfl) .nil) inferInstance normc_
            case hd => rfl
            case ht => exact Takes.nil
            case hc =>
              intro w1 fp hm1 _ hs1
              obtain rfl : fp = [] := hs1
              exact gapsQ_c (h1.keeps hm1.keeps) hs
            intro v2 _
            dsimp only [id_eq, List.cons_append, List.nil_append]
            (refine n_t ?_)
            refine left_ready (rs := [4]) (by kernel_rfl) (by simp) (List.forall_mem_cons.2 ⟨?_, fun _ h => absurd h List.not_mem_nil⟩)
            · refine next_step rfl ?_
              (refine a_s rfl rfl ?_; refine n_t ?_)
              refine left_ready (rs := [5]) (by kernel_rfl) (by simp) (List.forall_mem_cons.2 ⟨?_, fun _ h => absurd h List.not_mem_nil⟩)
              · refine next_step rfl ?_
                (refine a_s rfl rfl ?_; refine n_t ?_)
                with_reducible refine left_done (by kernel_rfl) ?_
                exact tr_cut [(14, v2), (13, v1), (15, .slice none 0 0), (12, .int .i64 (airE es n)), (11, .int .i64 (chkF es)), (10, .int .i64 (airE es n)), (9, a1), (8, .int .i64 (chkF es)), (7, g1), (6, .int .i64 (chkF es)), (5, t1), (2, .pointer (some ⟨bx, 0, none⟩)), (1, .int .i64 n)] [row 66 2 v1 es.length (spV es es.length), row 170 3 v2 (gpL es es.length).length (gpR es es.length), row 117 3 a1 (airL es n).length ((airL es n).flatMap triV), row 120 3 g1 (gpsL es).length ((gpsL es).flatMap triV), row 66 2 t1 (tmL es).length ((tmL es).flatMap duoV), blk bx (.cells #[sv] 24)] (by exact .cons rfl (.cons rfl (.cons rfl (.cons rfl (.cons rfl (.cons rfl (.cons rfl (.cons rfl (.cons rfl (.cons rfl (.cons rfl (.cons rfl (.cons rfl .nil))))))))))))) (by exact .cons (.there .here) (.cons .here (.cons (.there .here) (.cons (.there (.there .here)) (.cons (.there (.there (.there .here))) (.cons (.there (.there (.there (.there .here)))) .nil)))))) (hk v1 v2)
  subst hQ
  intro v1 v2
  unfold spV gpR
  (refine tr_then ?_; refine tr_seq ?_; refine s_r ?_; refine m_v rfl rfl ?_; refine tr_val (rk_eqlF (.of rfl) (.of rfl) ha) rfl ?_; refine n_t ?_; refine tr_cond_f (.of rfl) ?_; refine s_t ?_; refine s_r ?_; refine tr_val (rk_loadB (.of rfl) (.there (.there (.there (.there (.there .here))))) norm_ (by rfl)) rfl ?_)
  with_reducible apply tr_call
  case hr => exact rk_call (.of rfl) (.cons (.of rfl) .nil) inferInstance normc_
  case hd => rfl
  case ht => exact Takes.nil
  case hc =>
    intro w1 fp hm1 _ hs1
    obtain rfl : fp = [] := hs1
    exact own_c (h1.keeps hm1.keeps) hfew
  intro o4 _
  dsimp only [id_eq, List.cons_append, List.nil_append]
  with_reducible apply tr_callV
  case hr => exact rk_call (.of rfl) (.cons (.of rfl) .nil) inferInstance normc_
  case hd => rfl
  case hc =>
    intro w' hm'
    exact chk_c (rdEn (v := o4) hm' (by exact .here)) (hG.keeps hm'.keeps)
  (refine m_v rfl rfl ?_; refine tr_val (rk_eqlT (.of rfl) (.of rfl) rfl) rfl ?_; refine m_v rfl rfl ?_; refine tr_gOn rfl rfl ?_; refine m_v rfl rfl ?_; refine tr_gOn rfl rfl ?_; refine m_v rfl rfl ?_; refine tr_gOn rfl rfl ?_; refine m_v rfl rfl ?_; refine tr_gOn rfl rfl ?_; refine m_v rfl rfl ?_; refine tr_gOn rfl rfl ?_)
  with_reducible apply tr_callV
  case hr => exact rk_call (.of rfl) (.cons (.of rfl) (.cons (.of rfl) (.cons (.of rfl) (.cons (.of rfl) .nil)))) inferInstance normc_
  case hd => rfl
  case hc =>
    intro w' hm'
    exact hsp _ _ w' (rdDuo (v := t1) hm' (by exact Take.there (.there (.there (.there (.there .here)))))) (rdDuoN (v := v1) hm' (by exact Take.there .here) (spL_length _ _))
  (refine tr_val (rk_pickB (.of rfl) (.of rfl) (.of rfl) rfl) rfl ?_; refine m_v rfl rfl ?_; refine tr_gOn rfl rfl ?_; refine m_v rfl rfl ?_; refine tr_gOn rfl rfl ?_)
  with_reducible apply tr_call
  case hr => exact rk_call (.of rfl) (.cons (.of rfl) .nil) inferInstance normc_
  case hd => rfl
  case ht => exact Takes.nil
  case hc =>
    intro w1 fp hm1 _ hs1
    obtain rfl : fp = [] := hs1
    exact gapsT_c (rdTriN (v := g1) hm1 (by exact Take.there (.there (.there (.there .here)))) rfl) hgl
  intro g2 _
  dsimp only [id_eq, List.cons_append, List.nil_append]
  (refine tr_gOn rfl rfl ?_; refine m_v rfl rfl ?_; refine tr_gOn rfl rfl ?_)
  with_reducible apply tr_callV
  case hr => exact rk_call (.of rfl) (.cons (.of rfl) (.cons (.of rfl) .nil)) inferInstance normc_
  case hd => rfl
  case hc =>
    intro w' hm'
    exact hgp _ _ w' (rdTriN (v := g2) hm' (by exact .here) rfl) (rdTriN (v := v2) hm' (by exact Take.there (.there (.there .here))) rfl)
  (refine tr_val (rk_pickB (.of rfl) (.of rfl) (.of rfl) rfl) rfl ?_; refine m_v rfl rfl ?_; refine tr_gOn rfl rfl ?_; refine m_v rfl rfl ?_; refine tr_gOn rfl rfl ?_; refine m_v rfl rfl ?_; refine tr_gOn rfl rfl ?_; refine tr_val (rk_eqlT (.of rfl) (.of rfl) rfl) rfl ?_; refine tr_val (rk_pickB (.of rfl) (.of rfl) (.of rfl) rfl) rfl ?_; refine m_v rfl rfl ?_; refine tr_gOn rfl rfl ?_; refine m_v rfl rfl ?_; refine tr_gOn rfl rfl ?_)
  with_reducible apply tr_call
  case hr => exact rk_call (.of rfl) (.cons (.of rfl) .nil) inferInstance normc_
  case hd => rfl
  case ht => exact Takes.nil
  case hc =>
    intro w1 fp hm1 _ hs1
    obtain rfl : fp = [] := hs1
    exact sharesT_c (rdTriN (v := a1) hm1 (by exact Take.there (.there (.there (.there .here)))) rfl) hal
  intro a2 _
  dsimp only [id_eq, List.cons_append, List.nil_append]
  (refine tr_gOn rfl rfl ?_; refine m_v rfl rfl ?_; refine tr_gOn rfl rfl ?_)
  with_reducible apply tr_callV
  case hr => exact rk_call (.of rfl) (.cons (.of rfl) (.cons (.of rfl) .nil)) inferInstance normc_
  case hd => rfl
  case hc =>
    intro w' hm'
    exact hsr _ _ w' (rdTriN (v := a2) hm' (by exact .here) rfl) (Rd.nil _ _)
  (refine tr_val (rk_pickB (.of rfl) (.of rfl) (.of rfl) rfl) rfl ?_; refine m_v rfl rfl ?_; refine tr_gOn rfl rfl ?_; refine m_v rfl rfl ?_; refine tr_gOn rfl rfl ?_; refine m_v rfl rfl ?_; refine tr_gOn rfl rfl ?_; refine tr_val (rk_eqlT (.of rfl) (.of rfl) rfl) rfl ?_; refine tr_val (rk_pickB (.of rfl) (.of rfl) (.of rfl) rfl) rfl ?_; refine a_s rfl rfl ?_; refine n_t ?_; refine tr_ret ?_; refine tr_retE rfl (ends1 rfl rfl) ?_)
  rfl
set_option maxHeartbeats 4000000 in
theorem timesA_c {sv : Value} {es : List En} {n : Int} {w : World} (h1 : Rd w sv 6 (ensL es)) (hG : Glob w) (hT : Tab10 w) (hsh : shortB es = true) (hc : chkF es = 0) (ha : airE es n = 0) : GivesV Tryz.prog 3 [.agg #[sv], .int .i64 n] w (.bool true) := by
  have haw : ∀ w', Keeps [] w w' → GivesV Tryz.prog 17 [] w' (.bool true) := fun w' hk => awake_c w' (hG.keeps hk) (hT.keeps hk)
  have hshort : ∀ w', Keeps [] w w' → GivesV Tryz.prog 18 [.agg #[sv]] w' (.bool true) := fun w' hk => by
    have := short_c (h1.keeps hk)
    rwa [hsh] at this
  have hfew := shortB_few hsh
  have hfi : ∀ (v : Value) w', Rd w' v 1 (ints [chkF es, withinF n 0 10000000]) → GivesV Tryz.prog 24 [v] w' (.int .i64 (airE es n)) := fun v w' h => first_q v _ w' h
  have hs : Sound es := Sound.of hc
  have hn := airE_ok ha
  have hsp : ∀ (va vb : Value) w', Rd w' va 2 ((tmL es).map duoV) → Rd w' vb 2 ((spL es es.length : List (Int × Int)).map duoV) → GivesV Tryz.prog 30 [va, .int .i64 (chkF es), .int .i64 (chkF es), vb] w' (.bool true) := fun va vb w' ha hb => by
    have := spansB_c (e := chkF es) (bad := chkF es) ha hb
    rwa [show spansOk (tmL es) (spL es es.length) (chkF es) (chkF es) = true by simp [spansOk, tmL, hc]] at this
  have hgp : ∀ (va vb : Value) w', Rd w' va 3 ((gpsL es).map triV) → Rd w' vb 3 ((gpL es es.length : List (Int × Int × Int)).map triV) → GivesV Tryz.prog 31 [va, vb] w' (.bool true) := fun va vb w' ha hb => by
    have := sameGaps_c ha hb
    rwa [decide_eq_true (by rw [gpsL, if_pos hc])] at this
  have hsr : ∀ (va vb : Value) w', Rd w' va 3 ((airL es n).map triV) → Rd w' vb 3 ((shF es n : List (Int × Int × Int)).map triV) → GivesV Tryz.prog 33 [va, vb] w' (.bool true) := fun va vb w' ha' hb => by
    have := sameShares_c ha' hb
    rwa [decide_eq_true (by rw [airL, if_pos ha])] at this
  have hgl : (gpsL es).length ≤ 1000 := by
    by_cases hz : chkF es = 0
    · rw [gpsL, if_pos hz]; exact Nat.le_trans (gpL_le es _) hfew
    · rw [gpsL, if_neg hz]; exact Nat.zero_le _
  have hal : (airL es n).length ≤ 1000 := by
    by_cases hz : airE es n = 0
    · rw [airL, if_pos hz]; unfold shF; split <;> simp
    · rw [airL, if_neg hz]; exact Nat.zero_le _
  refine givesV_of_tr Tryz.func3 rfl rfl ?_
  (refine s_r ?_; refine tr_new (rk_box (.of rfl) rfl) rfl (fun _ _ => ?_); refine a_s rfl rfl ?_; refine n_t ?_; refine tr_seq ?_; refine s_r ?_)
  rename_i bx hbx
  with_reducible apply tr_callV
  case hr => exact rk_call (.of rfl) .nil inferInstance normc_
  case hd => rfl
  case hc =>
    intro w' hm'
    exact haw w' hm'.keeps
  (refine tr_val (rk_not (.of rfl)) rfl ?_; refine m_v rfl rfl ?_; refine tr_gOn rfl rfl ?_; refine tr_val (rk_loadB (.of rfl) .here norm_ (by rfl)) rfl ?_; refine tr_gOn rfl rfl ?_)
  with_reducible apply tr_callV
  case hr => exact rk_call (.of rfl) (.cons (.of rfl) .nil) inferInstance normc_
  case hd => rfl
  case hc =>
    intro w' hm'
    exact hshort w' hm'.keeps
  (refine tr_gOn rfl rfl ?_; refine tr_val (rk_not (.of rfl)) rfl ?_; refine tr_val (rk_pickB (.of rfl) (.of rfl) (.of rfl) rfl) rfl ?_; refine n_t ?_; refine tr_cond_f (.of rfl) ?_; refine s_t ?_; refine s_r ?_; refine tr_val (rk_loadB (.of rfl) .here norm_ (by rfl)) rfl ?_)
  with_reducible apply tr_call
  case hr => exact rk_call (.of rfl) (.cons (.of rfl) .nil) inferInstance normc_
  case hd => rfl
  case ht => exact Takes.nil
  case hc =>
    intro w1 fp hm1 _ hs1
    obtain rfl : fp = [] := hs1
    exact own_c (h1.keeps hm1.keeps) hfew
  intro o1 _
  dsimp only [id_eq, List.cons_append, List.nil_append]
  with_reducible apply tr_call
  case hr => exact rk_call (.of rfl) (.cons (.of rfl) .nil) inferInstance normc_
  case hd => rfl
  case ht => exact Takes.nil
  case hc =>
    intro w1 fp hm1 _ hs1
    obtain rfl : fp = [] := hs1
    exact times_c (rdEn (v := o1) hm1 (by exact .here)) (hG.keeps hm1.keeps)
  intro t1 _
  dsimp only [id_eq, List.cons_append, List.nil_append]
  (refine m_v rfl rfl ?_; refine tr_val (rk_extract (.of rfl) rfl) rfl ?_; refine tr_val (rk_extract (.of rfl) rfl) rfl ?_; refine a_s rfl rfl ?_; refine a_s rfl rfl ?_; refine n_r ?_; refine tr_val (rk_loadB (.of rfl) (.there (.there .here)) norm_ (by rfl)) rfl ?_)
  with_reducible apply tr_call
  case hr => exact rk_call (.of rfl) (.cons (.of rfl) .nil) inferInstance normc_
  case hd => rfl
  case ht => exact Takes.nil
  case hc =>
    intro w1 fp hm1 _ hs1
    obtain rfl : fp = [] := hs1
    exact own_c (h1.keeps hm1.keeps) hfew
  intro o2 _
  dsimp only [id_eq, List.cons_append, List.nil_append]
  with_reducible apply tr_call
  case hr => exact rk_call (.of rfl) (.cons (.of rfl) .nil) inferInstance normc_
  case hd => rfl
  case ht => exact Takes.nil
  case hc =>
    intro w1 fp hm1 _ hs1
    obtain rfl : fp = [] := hs1
    exact gapsX_c (rdEn (v := o2) hm1 (by exact .here)) (hG.keeps hm1.keeps)
  intro g1 _
  dsimp only [id_eq, List.cons_append, List.nil_append]
  (refine m_v rfl rfl ?_; refine tr_val (rk_extract (.of rfl) rfl) rfl ?_; refine tr_val (rk_extract (.of rfl) rfl) rfl ?_; refine a_s rfl rfl ?_; refine a_s rfl rfl ?_; refine n_r ?_; refine tr_val (rk_loadB (.of rfl) (.there (.there (.there (.there .here)))) norm_ (by rfl)) rfl ?_)
  with_reducible apply tr_call
  case hr => exact rk_call (.of rfl) (.cons (.of rfl) .nil) inferInstance normc_
  case hd => rfl
  case ht => exact Takes.nil
  case hc =>
    intro w1 fp hm1 _ hs1
    obtain rfl : fp = [] := hs1
    exact own_c (h1.keeps hm1.keeps) hfew
  intro o3 _
  dsimp only [id_eq, List.cons_append, List.nil_append]
  refine m_v rfl rfl ?_
  with_reducible apply tr_call
  case hr => exact rk_call (.of rfl) (.cons (.of rfl) (.cons (.of rfl) .nil)) inferInstance normc_
  case hd => rfl
  case ht => exact Takes.nil
  case hc =>
    intro w1 fp hm1 _ hs1
    obtain rfl : fp = [] := hs1
    exact onAir_c (rdEn (v := o3) hm1 (by exact .here)) (hG.keeps hm1.keeps)
  intro a1 _
  dsimp only [id_eq, List.cons_append, List.nil_append]
  (refine m_v rfl rfl ?_; refine tr_val (rk_extract (.of rfl) rfl) rfl ?_; refine tr_val (rk_extract (.of rfl) rfl) rfl ?_; refine a_s rfl rfl ?_; refine a_s rfl rfl ?_; refine n_r ?_; refine tr_val (rk_loadB (.of rfl) (.there (.there (.there (.there (.there (.there .here)))))) norm_ (by rfl)) rfl ?_)
  with_reducible apply tr_callV
  case hr => exact rk_call (.of rfl) (.cons (.of rfl) .nil) inferInstance normc_
  case hd => rfl
  case hc =>
    intro w' hm'
    exact chkQ_c (h1.keeps hm'.keeps)
  (refine a_s rfl rfl ?_; refine n_r ?_; refine m_v rfl rfl ?_; refine m_v rfl rfl ?_)
  with_reducible apply tr_callV
  case hr => exact rk_call (.of rfl) (.cons (.of rfl) .nil) inferInstance normc_
  case hd => rfl
  case hc =>
    intro w' hm'
    exact frameQ_c n _
  refine tr_new (rk_sliceLit (.cons (.of rfl) (.cons (.of rfl) .nil)) rfl rfl rfl rfl) rfl (fun _ _ => ?_)
  with_reducible apply tr_callV
  case hr => exact rk_call (.of rfl) (.cons (.of rfl) .nil) inferInstance normc_
  case hd => rfl
  case hc =>
    intro w' hm'
    exact hfi _ w' (Mem.rdBlk hm' (by exact .here) rfl rfl)
  (refine a_s rfl rfl ?_; refine n_r ?_; refine a_s rfl rfl ?_; refine n_r ?_; refine a_s rfl rfl ?_; refine n_r ?_; refine a_s rfl rfl ?_; refine n_t ?_; refine tr_seq ?_; refine s_r ?_; refine m_v rfl rfl ?_; refine tr_val (rk_eqlT (.of rfl) (.of rfl) hc) rfl ?_; refine n_t ?_; refine tr_cond_t (.of rfl) ?_)
  generalize hQ : Exit.then _ _ = Q
  suffices hk : ∀ v1 v2, Tr _ _ [(14, v2), (13, v1), (15, .slice none 0 0), (12, .int .i64 (airE es n)), (11, .int .i64 (chkF es)), (10, .int .i64 (airE es n)), (9, a1), (8, .int .i64 (chkF es)), (7, g1), (6, .int .i64 (chkF es)), (5, t1), (2, .pointer (some ⟨bx, 0, none⟩)), (1, .int .i64 n)] [row 66 2 v1 es.length (spV es es.length), row 170 3 v2 (gpL es es.length).length (gpR es es.length), row 117 3 a1 (airL es n).length ((airL es n).flatMap triV), row 120 3 g1 (gpsL es).length ((gpsL es).flatMap triV), row 66 2 t1 (tmL es).length ((tmL es).flatMap duoV), blk bx (.cells #[sv] 24)] (Q .normal) by
    refine tr_left 6 rfl ?_
    refine left_ready (rs := [0, 2]) (by kernel_rfl) (by simp) (List.forall_mem_cons.2 ⟨?_, List.forall_mem_cons.2 ⟨?_, fun _ h => absurd h List.not_mem_nil⟩⟩)
    · refine next_step rfl ?_
      (refine tr_val (rk_loadB (.of rfl) (.there (.there (.there (.there (.there (.there (.there .here))))))) norm_ (by rfl)) rfl ?_; refine n_t ?_)
      refine left_ready (rs := [1, 2]) (by kernel_rfl) (by simp) (List.forall_mem_cons.2 ⟨?_, List.forall_mem_cons.2 ⟨?_, fun _ h => absurd h List.not_mem_nil⟩⟩)
      · refine next_step rfl ?_
        with_reducible apply tr_call
        case hr => exact rk_call (.of rfl) (.cons (.of rfl) .nil) inferInstance normc_
        case hd => rfl
        case ht => exact Takes.nil
        case hc =>
          intro w1 fp hm1 _ hs1
          obtain rfl : fp = [] := hs1
          exact spansQ_c (h1.keeps hm1.keeps) hs
        intro v1 _
        dsimp only [id_eq, List.cons_append, List.nil_append]
        (refine n_t ?_)
        refine left_ready (rs := [2]) (by kernel_rfl) (by simp) (List.forall_mem_cons.2 ⟨?_, fun _ h => absurd h List.not_mem_nil⟩)
        · refine next_step rfl ?_
          (refine tr_val (rk_loadB (.of rfl) (.there (.there (.there (.there (.there (.there (.there (.there .here)))))))) norm_ (by rfl)) rfl ?_; refine n_t ?_)
          refine left_ready (rs := [3]) (by kernel_rfl) (by simp) (List.forall_mem_cons.2 ⟨?_, fun _ h => absurd h List.not_mem_nil⟩)
          · refine next_step rfl ?_
            with_reducible apply tr_call
            case hr => exact rk_call (.of rfl) (.cons (.of rfl) .nil) inferInstance normc_
            case hd => rfl
            case ht => exact Takes.nil
            case hc =>
              intro w1 fp hm1 _ hs1
              obtain rfl : fp = [] := hs1
              exact gapsQ_c (h1.keeps hm1.keeps) hs
            intro v2 _
            dsimp only [id_eq, List.cons_append, List.nil_append]
            (refine n_t ?_)
            refine left_ready (rs := [4]) (by kernel_rfl) (by simp) (List.forall_mem_cons.2 ⟨?_, fun _ h => absurd h List.not_mem_nil⟩)
            · refine next_step rfl ?_
              (refine a_s rfl rfl ?_; refine n_t ?_)
              refine left_ready (rs := [5]) (by kernel_rfl) (by simp) (List.forall_mem_cons.2 ⟨?_, fun _ h => absurd h List.not_mem_nil⟩)
              · refine next_step rfl ?_
                (refine a_s rfl rfl ?_; refine n_t ?_)
                with_reducible refine left_done (by kernel_rfl) ?_
                exact tr_cut [(14, v2), (13, v1), (15, .slice none 0 0), (12, .int .i64 (airE es n)), (11, .int .i64 (chkF es)), (10, .int .i64 (airE es n)), (9, a1), (8, .int .i64 (chkF es)), (7, g1), (6, .int .i64 (chkF es)), (5, t1), (2, .pointer (some ⟨bx, 0, none⟩)), (1, .int .i64 n)] [row 66 2 v1 es.length (spV es es.length), row 170 3 v2 (gpL es es.length).length (gpR es es.length), row 117 3 a1 (airL es n).length ((airL es n).flatMap triV), row 120 3 g1 (gpsL es).length ((gpsL es).flatMap triV), row 66 2 t1 (tmL es).length ((tmL es).flatMap duoV), blk bx (.cells #[sv] 24)] (by exact .cons rfl (.cons rfl (.cons rfl (.cons rfl (.cons rfl (.cons rfl (.cons rfl (.cons rfl (.cons rfl (.cons rfl (.cons rfl (.cons rfl (.cons rfl .nil))))))))))))) (by exact .cons (.there .here) (.cons .here (.cons (.there .here) (.cons (.there (.there .here)) (.cons (.there (.there (.there .here))) (.cons (.there (.there (.there (.there .here)))) .nil)))))) (hk v1 v2)
      · refine next_step rfl ?_
        (refine tr_val (rk_loadB (.of rfl) (.there (.there (.there (.there (.there (.there (.there .here))))))) norm_ (by rfl)) rfl ?_; refine n_t ?_)
        refine left_ready (rs := [1]) (by kernel_rfl) (by simp) (List.forall_mem_cons.2 ⟨?_, fun _ h => absurd h List.not_mem_nil⟩)
        · refine next_step rfl ?_
          with_reducible apply tr_call
          case hr => exact rk_call (.of rfl) (.cons (.of rfl) .nil) inferInstance normc_
          case hd => rfl
          case ht => exact Takes.nil
          case hc =>
            intro w1 fp hm1 _ hs1
            obtain rfl : fp = [] := hs1
            exact spansQ_c (h1.keeps hm1.keeps) hs
          intro v1 _
          dsimp only [id_eq, List.cons_append, List.nil_append]
          (refine n_t ?_)
          refine left_ready (rs := [3]) (by kernel_rfl) (by simp) (List.forall_mem_cons.2 ⟨?_, fun _ h => absurd h List.not_mem_nil⟩)
          · refine next_step rfl ?_
            with_reducible apply tr_call
            case hr => exact rk_call (.of rfl) (.cons (.of rfl) .nil) inferInstance normc_
            case hd => rfl
            case ht => exact Takes.nil
            case hc =>
              intro w1 fp hm1 _ hs1
              obtain rfl : fp = [] := hs1
              exact gapsQ_c (h1.keeps hm1.keeps) hs
            intro v2 _
            dsimp only [id_eq, List.cons_append, List.nil_append]
            (refine n_t ?_)
            refine left_ready (rs := [4]) (by kernel_rfl) (by simp) (List.forall_mem_cons.2 ⟨?_, fun _ h => absurd h List.not_mem_nil⟩)
            · refine next_step rfl ?_
              (refine a_s rfl rfl ?_; refine n_t ?_)
              refine left_ready (rs := [5]) (by kernel_rfl) (by simp) (List.forall_mem_cons.2 ⟨?_, fun _ h => absurd h List.not_mem_nil⟩)
              · refine next_step rfl ?_
                (refine a_s rfl rfl ?_; refine n_t ?_)
                with_reducible refine left_done (by kernel_rfl) ?_
                exact tr_cut [(14, v2), (13, v1), (15, .slice none 0 0), (12, .int .i64 (airE es n)), (11, .int .i64 (chkF es)), (10, .int .i64 (airE es n)), (9, a1), (8, .int .i64 (chkF es)), (7, g1), (6, .int .i64 (chkF es)), (5, t1), (2, .pointer (some ⟨bx, 0, none⟩)), (1, .int .i64 n)] [row 66 2 v1 es.length (spV es es.length), row 170 3 v2 (gpL es es.length).length (gpR es es.length), row 117 3 a1 (airL es n).length ((airL es n).flatMap triV), row 120 3 g1 (gpsL es).length ((gpsL es).flatMap triV), row 66 2 t1 (tmL es).length ((tmL es).flatMap duoV), blk bx (.cells #[sv] 24)] (by exact .cons rfl (.cons rfl (.cons rfl (.cons rfl (.cons rfl (.cons rfl (.cons rfl (.cons rfl (.cons rfl (.cons rfl (.cons rfl (.cons rfl (.cons rfl .nil))))))))))))) (by exact .cons (.there .here) (.cons .here (.cons (.there .here) (.cons (.there (.there .here)) (.cons (.there (.there (.there .here))) (.cons (.there (.there (.there (.there .here)))) .nil)))))) (hk v1 v2)
    · refine next_step rfl ?_
      (refine tr_val (rk_loadB (.of rfl) (.there (.there (.there (.there (.there (.there (.there .here))))))) norm_ (by rfl)) rfl ?_; refine n_t ?_)
      refine left_ready (rs := [0]) (by kernel_rfl) (by simp) (List.forall_mem_cons.2 ⟨?_, fun _ h => absurd h List.not_mem_nil⟩)
      · refine next_step rfl ?_
        (refine tr_val (rk_loadB (.of rfl) (.there (.there (.there (.there (.there (.there (.there .here))))))) norm_ (by rfl)) rfl ?_; refine n_t ?_)
        refine left_ready (rs := [1]) (by kernel_rfl) (by simp) (List.forall_mem_cons.2 ⟨?_, fun _ h => absurd h List.not_mem_nil⟩)
        · refine next_step rfl ?_
          with_reducible apply tr_call
          case hr => exact rk_call (.of rfl) (.cons (.of rfl) .nil) inferInstance normc_
          case hd => rfl
          case ht => exact Takes.nil
          case hc =>
            intro w1 fp hm1 _ hs1
            obtain rfl : fp = [] := hs1
            exact spansQ_c (h1.keeps hm1.keeps) hs
          intro v1 _
          dsimp only [id_eq, List.cons_append, List.nil_append]
          (refine n_t ?_)
          refine left_ready (rs := [3]) (by kernel_rfl) (by simp) (List.forall_mem_cons.2 ⟨?_, fun _ h => absurd h List.not_mem_nil⟩)
          · refine next_step rfl ?_
            with_reducible apply tr_call
            case hr => exact rk_call (.of rfl) (.cons (.of rfl) .nil) inferInstance normc_
            case hd => rfl
            case ht => exact Takes.nil
            case hc =>
              intro w1 fp hm1 _ hs1
              obtain rfl : fp = [] := hs1
              exact gapsQ_c (h1.keeps hm1.keeps) hs
            intro v2 _
            dsimp only [id_eq, List.cons_append, List.nil_append]
            (refine n_t ?_)
            refine left_ready (rs := [4]) (by kernel_rfl) (by simp) (List.forall_mem_cons.2 ⟨?_, fun _ h => absurd h List.not_mem_nil⟩)
            · refine next_step rfl ?_
              (refine a_s rfl rfl ?_; refine n_t ?_)
              refine left_ready (rs := [5]) (by kernel_rfl) (by simp) (List.forall_mem_cons.2 ⟨?_, fun _ h => absurd h List.not_mem_nil⟩)
              · refine next_step rfl ?_
                (refine a_s rfl rfl ?_; refine n_t ?_)
                with_reducible refine left_done (by kernel_rfl) ?_
                exact tr_cut [(14, v2), (13, v1), (15, .slice none 0 0), (12, .int .i64 (airE es n)), (11, .int .i64 (chkF es)), (10, .int .i64 (airE es n)), (9, a1), (8, .int .i64 (chkF es)), (7, g1), (6, .int .i64 (chkF es)), (5, t1), (2, .pointer (some ⟨bx, 0, none⟩)), (1, .int .i64 n)] [row 66 2 v1 es.length (spV es es.length), row 170 3 v2 (gpL es es.length).length (gpR es es.length), row 117 3 a1 (airL es n).length ((airL es n).flatMap triV), row 120 3 g1 (gpsL es).length ((gpsL es).flatMap triV), row 66 2 t1 (tmL es).length ((tmL es).flatMap duoV), blk bx (.cells #[sv] 24)] (by exact .cons rfl (.cons rfl (.cons rfl (.cons rfl (.cons rfl (.cons rfl (.cons rfl (.cons rfl (.cons rfl (.cons rfl (.cons rfl (.cons rfl (.cons rfl .nil))))))))))))) (by exact .cons (.there .here) (.cons .here (.cons (.there .here) (.cons (.there (.there .here)) (.cons (.there (.there (.there .here))) (.cons (.there (.there (.there (.there .here)))) .nil)))))) (hk v1 v2)
  subst hQ
  intro v1 v2
  unfold spV gpR
  (refine tr_then ?_; refine tr_seq ?_; refine s_r ?_; refine m_v rfl rfl ?_; refine tr_val (rk_eqlT (.of rfl) (.of rfl) ha) rfl ?_; refine n_t ?_; refine tr_cond_t (.of rfl) ?_; refine tr_region ?_; refine tr_val (rk_loadB (.of rfl) (.there (.there (.there (.there (.there .here))))) norm_ (by rfl)) rfl ?_; refine m_v rfl rfl ?_)
  with_reducible apply tr_call
  case hr => exact rk_call (.of rfl) (.cons (.of rfl) (.cons (.of rfl) .nil)) inferInstance normc_
  case hd => rfl
  case ht => exact Takes.nil
  case hc =>
    intro w1 fp hm1 _ hs1
    obtain rfl : fp = [] := hs1
    exact onAirQ_c (h1.keeps hm1.keeps) hs hn.2.1 hn.2.2
  intro v3 _
  dsimp only [id_eq, List.cons_append, List.nil_append]
  (refine a_s rfl rfl ?_; refine n_r ?_; refine tr_val (rk_loadB (.of rfl) (.there (.there (.there (.there (.there (.there .here)))))) norm_ (by rfl)) rfl ?_)
  with_reducible apply tr_call
  case hr => exact rk_call (.of rfl) (.cons (.of rfl) .nil) inferInstance normc_
  case hd => rfl
  case ht => exact Takes.nil
  case hc =>
    intro w1 fp hm1 _ hs1
    obtain rfl : fp = [] := hs1
    exact own_c (h1.keeps hm1.keeps) hfew
  intro o4 _
  dsimp only [id_eq, List.cons_append, List.nil_append]
  with_reducible apply tr_callV
  case hr => exact rk_call (.of rfl) (.cons (.of rfl) .nil) inferInstance normc_
  case hd => rfl
  case hc =>
    intro w' hm'
    exact chk_c (rdEn (v := o4) hm' (by exact .here)) (hG.keeps hm'.keeps)
  (refine m_v rfl rfl ?_; refine tr_val (rk_eqlT (.of rfl) (.of rfl) rfl) rfl ?_; refine m_v rfl rfl ?_; refine tr_gOn rfl rfl ?_; refine m_v rfl rfl ?_; refine tr_gOn rfl rfl ?_; refine m_v rfl rfl ?_; refine tr_gOn rfl rfl ?_; refine m_v rfl rfl ?_; refine tr_gOn rfl rfl ?_; refine m_v rfl rfl ?_; refine tr_gOn rfl rfl ?_)
  with_reducible apply tr_callV
  case hr => exact rk_call (.of rfl) (.cons (.of rfl) (.cons (.of rfl) (.cons (.of rfl) (.cons (.of rfl) .nil)))) inferInstance normc_
  case hd => rfl
  case hc =>
    intro w' hm'
    exact hsp _ _ w' (rdDuo (v := t1) hm' (by exact Take.there (.there (.there (.there (.there (.there .here))))))) (rdDuoN (v := v1) hm' (by exact Take.there (.there .here)) (spL_length _ _))
  (refine tr_val (rk_pickB (.of rfl) (.of rfl) (.of rfl) rfl) rfl ?_; refine m_v rfl rfl ?_; refine tr_gOn rfl rfl ?_; refine m_v rfl rfl ?_; refine tr_gOn rfl rfl ?_)
  with_reducible apply tr_call
  case hr => exact rk_call (.of rfl) (.cons (.of rfl) .nil) inferInstance normc_
  case hd => rfl
  case ht => exact Takes.nil
  case hc =>
    intro w1 fp hm1 _ hs1
    obtain rfl : fp = [] := hs1
    exact gapsT_c (rdTriN (v := g1) hm1 (by exact Take.there (.there (.there (.there (.there .here))))) rfl) hgl
  intro g2 _
  dsimp only [id_eq, List.cons_append, List.nil_append]
  (refine tr_gOn rfl rfl ?_; refine m_v rfl rfl ?_; refine tr_gOn rfl rfl ?_)
  with_reducible apply tr_callV
  case hr => exact rk_call (.of rfl) (.cons (.of rfl) (.cons (.of rfl) .nil)) inferInstance normc_
  case hd => rfl
  case hc =>
    intro w' hm'
    exact hgp _ _ w' (rdTriN (v := g2) hm' (by exact .here) rfl) (rdTriN (v := v2) hm' (by exact Take.there (.there (.there (.there .here)))) rfl)
  (refine tr_val (rk_pickB (.of rfl) (.of rfl) (.of rfl) rfl) rfl ?_; refine m_v rfl rfl ?_; refine tr_gOn rfl rfl ?_; refine m_v rfl rfl ?_; refine tr_gOn rfl rfl ?_; refine m_v rfl rfl ?_; refine tr_gOn rfl rfl ?_; refine tr_val (rk_eqlT (.of rfl) (.of rfl) rfl) rfl ?_; refine tr_val (rk_pickB (.of rfl) (.of rfl) (.of rfl) rfl) rfl ?_; refine m_v rfl rfl ?_; refine tr_gOn rfl rfl ?_; refine m_v rfl rfl ?_; refine tr_gOn rfl rfl ?_)
  with_reducible apply tr_call
  case hr => exact rk_call (.of rfl) (.cons (.of rfl) .nil) inferInstance normc_
  case hd => rfl
  case ht => exact Takes.nil
  case hc =>
    intro w1 fp hm1 _ hs1
    obtain rfl : fp = [] := hs1
    exact sharesT_c (rdTriN (v := a1) hm1 (by exact Take.there (.there (.there (.there (.there .here))))) rfl) hal
  intro a2 _
  dsimp only [id_eq, List.cons_append, List.nil_append]
  (refine tr_gOn rfl rfl ?_; refine m_v rfl rfl ?_; refine tr_gOn rfl rfl ?_)
  with_reducible apply tr_callV
  case hr => exact rk_call (.of rfl) (.cons (.of rfl) (.cons (.of rfl) .nil)) inferInstance normc_
  case hd => rfl
  case hc =>
    intro w' hm'
    exact hsr _ _ w' (rdTriN (v := a2) hm' (by exact .here) rfl) (rdTriN (v := v3) hm' (by exact Take.there (.there (.there .here))) rfl)
  (refine tr_val (rk_pickB (.of rfl) (.of rfl) (.of rfl) rfl) rfl ?_; refine m_v rfl rfl ?_; refine tr_gOn rfl rfl ?_; refine m_v rfl rfl ?_; refine tr_gOn rfl rfl ?_; refine m_v rfl rfl ?_; refine tr_gOn rfl rfl ?_; refine tr_val (rk_eqlT (.of rfl) (.of rfl) rfl) rfl ?_; refine tr_val (rk_pickB (.of rfl) (.of rfl) (.of rfl) rfl) rfl ?_; refine a_s rfl rfl ?_; refine n_t ?_; refine tr_ret ?_; refine tr_retE rfl (ends1 rfl rfl) ?_)
  rfl
theorem times_law {sv : Value} {es : List En} {n : Int} {w : World} (h1 : Rd w sv 6 (ensL es)) (hG : Glob w) (hT : Tab10 w) : GivesV Tryz.prog 3 [.agg #[sv], .int .i64 n] w (.bool true) := by
  cases hsh : shortB es with
  | false => exact timesS_c h1 hG hT hsh
  | true =>
    by_cases hc : chkF es = 0
    · by_cases ha : airE es n = 0
      · exact timesA_c h1 hG hT hsh hc ha
      · exact timesB_c h1 hG hT hsh hc ha
    · exact timesC_c h1 hG hT hsh hc (fun h => hc (airE_ok h).1)
end Go.Proofs.A1

/- S52 -/
/- ScheduleTimes: the argument opened, what the listed tables give, the row, the card. -/
namespace Go.Proofs.A1
open Go Go.SL Go.ChangeShapes Go.WideShapes Go.Deep Go.Joins

section
variable {H : Type} {enc : TypeId × Value → H} {w : World}
theorem c9 : Tryz.prog.cellsOf 9 = 1 := by kernel_rfl
theorem c3 : Tryz.prog.cellsOf 3 = 1 := by kernel_rfl
theorem c113 : Tryz.prog.cellsOf 113 = 2 := by kernel_rfl
theorem c115 : Tryz.prog.cellsOf 115 = 6 := by kernel_rfl
theorem c24 : Tryz.prog.cellsOf 24 = 1 := by kernel_rfl
theorem c22 : Tryz.prog.cellsOf 22 = 1 := by kernel_rfl
theorem laidOut : laidOutB Tryz.prog = true := by kernel_rfl
theorem rec24 : Tryz.prog.readableRec 24 = true := by kernel_rfl
theorem row24 : (24 : TypeId) < Tryz.prog.types.size := of_decide_eq_true (by kernel_rfl)
theorem ownK : ownKnob Tryz.prog.godebug = none := by kernel_rfl
theorem stays24 {W W' : World} {sp' : Nat → Bool} {n : Nat} {cs : List Value} {x : DataW H × List MemPlace} (h : DataW.trod enc Tryz.prog W 0 (fun _ => true) true n 24 cs = some x)
    (hsame : ∀ p ∈ x.2, W.sameAt W' p) (hs : ∀ p ∈ x.2, sp' p.block = true) : DataW.trod enc Tryz.prog W' 0 sp' true n 24 cs = some x :=
  DataW.trod_stays (kids_book laidOut rec24) (book_sized rec24) (fun h => by cases h) ⟨row24, book_self 24⟩ h hsame hs
theorem add_none {b o n : Nat} : Addr.add ⟨b, o, none⟩ n = ⟨b, o + n, none⟩ := addr_add b o n
theorem list6 {α : Type} : ∀ {l : List α}, l.length = 6 → ∃ a b c d e f, l = [a, b, c, d, e, f]
  | [a, b, c, d, e, f], _ => ⟨a, b, c, d, e, f, rfl⟩
/-- an entry's cells -/
theorem ent_cells {n : Nat} {cs : List Value} {x : DataW H × List MemPlace} (h : DataW.trod enc Tryz.prog w 0 (fun _ => true) true n 115 cs = some x) : ∃ e : En, cs = e.cells := by
  obtain ⟨ys, n', _, _, hlen, hyl, hf⟩ := DataW.trod_struct Tryz.underlying115 h
  rw [c115] at hlen
  have hyl5 : ys.length = 5 := hyl
  obtain ⟨k0, k1, k2, k3, k4, k5, rfl⟩ := list6 hlen
  have f0 : DataW.trod enc Tryz.prog w 0 (fun _ => true) true n' 9 (List.take (Tryz.prog.cellsOf 9) (List.drop 0 [k0, k1, k2, k3, k4, k5])) = ys[0]? := hf 0 _ rfl
  rw [c9, List.getElem?_eq_getElem (by omega)] at f0
  have f1 : DataW.trod enc Tryz.prog w 0 (fun _ => true) true n' 9 (List.take (Tryz.prog.cellsOf 9) (List.drop 1 [k0, k1, k2, k3, k4, k5])) = ys[1]? := hf 1 _ rfl
  rw [c9, List.getElem?_eq_getElem (by omega)] at f1
  have f2 : DataW.trod enc Tryz.prog w 0 (fun _ => true) true n' 113 (List.take (Tryz.prog.cellsOf 113) (List.drop 2 [k0, k1, k2, k3, k4, k5])) = ys[2]? := hf 2 _ rfl
  rw [c113, List.getElem?_eq_getElem (by omega)] at f2
  have f3 : DataW.trod enc Tryz.prog w 0 (fun _ => true) true n' 3 (List.take (Tryz.prog.cellsOf 3) (List.drop 4 [k0, k1, k2, k3, k4, k5])) = ys[3]? := hf 3 _ rfl
  rw [c3, List.getElem?_eq_getElem (by omega)] at f3
  have f4 : DataW.trod enc Tryz.prog w 0 (fun _ => true) true n' 3 (List.take (Tryz.prog.cellsOf 3) (List.drop 5 [k0, k1, k2, k3, k4, k5])) = ys[4]? := hf 4 _ rfl
  rw [c3, List.getElem?_eq_getElem (by omega)] at f4
  obtain ⟨s0, e0, _, _⟩ := DataW.trod_string Tryz.underlying9 f0
  obtain ⟨s1, e1, _, _⟩ := DataW.trod_string Tryz.underlying9 f1
  obtain ⟨i3, e3, _, _⟩ := DataW.trod_int Tryz.underlying3 f3
  obtain ⟨i4, e4, _, _⟩ := DataW.trod_int Tryz.underlying3 f4
  obtain ⟨zs, n2, _, _, _, hzl, hg⟩ := DataW.trod_struct Tryz.underlying113 f2
  have hzl2 : zs.length = 2 := hzl
  have g0 : DataW.trod enc Tryz.prog w 0 (fun _ => true) true n2 9 (List.take (Tryz.prog.cellsOf 9) (List.drop 0 (List.take 2 (List.drop 2 [k0, k1, k2, k3, k4, k5])))) = zs[0]? := hg 0 _ rfl
  rw [c9, List.getElem?_eq_getElem (by omega)] at g0
  have g1 : DataW.trod enc Tryz.prog w 0 (fun _ => true) true n2 3 (List.take (Tryz.prog.cellsOf 3) (List.drop 1 (List.take 2 (List.drop 2 [k0, k1, k2, k3, k4, k5])))) = zs[1]? := hg 1 _ rfl
  rw [c3, List.getElem?_eq_getElem (by omega)] at g1
  obtain ⟨s2, e2, _, _⟩ := DataW.trod_string Tryz.underlying9 g0
  obtain ⟨i2, e5, _, _⟩ := DataW.trod_int Tryz.underlying3 g1
  simp at e0 e1 e2 e3 e4 e5
  subst e0 e1 e2 e3 e4 e5
  exact ⟨⟨s0, s1, s2, i2, i3, i4⟩, rfl⟩
/-- a slice of entries, read -/
theorem open_ens {n : Nat} {v : Value} {y : DataW H × List MemPlace} (h : DataW.trod enc Tryz.prog w 0 (fun _ => true) true n 22 [v] = some y) : ∃ es, Rd w v 6 (ensL es) := by
  rcases open_slice Tryz.underlying22 h with ⟨e, _⟩ | ⟨a, len, cap, m, n', D, Pl, hcs, _, hl, hm, hmm, _, hi⟩
  · simp only [List.cons.injEq, and_true] at e
    subst e
    exact ⟨[], Rd.nil w 6⟩
  · simp only [List.cons.injEq, and_true] at hcs
    subst hcs
    rw [c115] at hi
    have hmc : m = cap := by simpa using hmm
    have hE : ∀ i, i < len → ∃ e : En, ∀ j, j < 6 → w.cell? (a.add (i * 6 + j)) = e.cells[j]? := fun i hil => by
      obtain ⟨cs', hc, ht⟩ := hi i (by omega)
      obtain ⟨_, hcl, hat⟩ := World.cells?_some hc
      obtain ⟨e, rfl⟩ := ent_cells ht
      exact ⟨e, fun j hj => by rw [← Go.Deep.add_add]; exact hat j hj⟩
    let S : Nat → En := fun i => if hil : i < len then (hE i hil).choose else En.zero
    have hS : ∀ i j, i < len → j < 6 → w.cell? (a.add (i * 6 + j)) = (S i).cells[j]? := fun i j hil hj => by
      have := (hE i hil).choose_spec j hj
      simpa only [S, dif_pos hil] using this
    have hlenE : (ensL ((List.range len).map S)).length = len := by rw [ensL_length]; simp
    refine ⟨(List.range len).map S, ?_⟩
    by_cases h0 : len = 0
    · subst h0
      exact ⟨some a, cap, 0, 0, by rw [hlenE], by rw [hlenE]; omega, hm, fun hne => absurd (List.length_eq_zero_iff.1 hlenE) hne, fun i r hr => by
        have := (List.getElem?_eq_some_iff.1 hr).1
        rw [hlenE] at this; omega⟩
    · obtain ⟨b, off, spot⟩ := a
      have hspot : spot = none := by simpa [Addr.add] using World.cell?_spot (hS 0 0 (by omega) (by omega))
      subst hspot
      refine ⟨some ⟨b, off, none⟩, cap, b, off, by rw [hlenE], by rw [hlenE]; exact hl, hm, fun _ => rfl, fun i r hr => ?_⟩
      have hil : i < len := by
        have := (List.getElem?_eq_some_iff.1 hr).1
        rwa [hlenE] at this
      have hr' : r = (S i).cells := by
        simp [ensL, hil] at hr; exact hr.symm
      subst hr'
      refine ⟨rfl, fun j u hu => ?_⟩
      have hj : j < 6 := (List.getElem?_eq_some_iff.1 hu).1
      have := hS i j hil hj
      rw [add_none, hu] at this
      rw [Nat.add_assoc]; exact this
end

/-- what the row's list gives -/
theorem of_laid {W : World} (h : laidMetH Tryz.prog YtfbgbipclgljaaaGreatDoor.Rows.scheduleTimesRow.laid W) : Glob W ∧ Tab10 W := by
  rw [MakeChecks.laidMetH_plain _ _ _ (by kernel_rfl)] at h
  obtain ⟨ps, ⟨g0, t0, cs0, f0, p0, q0, hg0, ht0, hv0, hd0, ⟨g1, t1, cs1, f1, p1, q1, hg1, ht1, hv1, hd1, ⟨g2, t2, cs2, f2, p2, q2, hg2, ht2, hv2, hd2, ⟨g3, t3, cs3, f3, p3, q3, hg3, ht3, hv3, hd3, _, _⟩, _⟩, _⟩, _⟩, _, _⟩ := h
  obtain rfl := Option.some.inj ((show Tryz.prog.globalNamed "internal/strconv.uint64pow10" = some 2 by kernel_rfl).symm.trans hg2)
  obtain rfl := Option.some.inj ((show (Tryz.prog.globals[2]?).map (·.type) = some 351 by kernel_rfl).symm.trans ht2)
  obtain rfl := Option.some.inj ((show Tryz.prog.globalNamed "genlock/schedule.names" = some 0 by kernel_rfl).symm.trans hg3)
  obtain rfl := Option.some.inj ((show (Tryz.prog.globals[0]?).map (·.type) = some 229 by kernel_rfl).symm.trans ht3)
  refine ⟨?_, ?_⟩
  · obtain ⟨xs, m, _, ex, _, hl, hel⟩ := DataW.trod_array Tryz.underlying229 hd3
    have e3 : (xs.map (·.1)) = [.lit (.string [102, 105, 120, 101, 100]), .lit (.string [102, 111, 108, 108, 111, 119, 105, 110, 103]), .lit (.string [109, 97, 110, 117, 97, 108])] := (DataW.agg.inj (Prod.mk.inj ex).1).symm
    have key : ∀ (i : Nat) (l : List UInt8) (s : ByteArray), i < 3 → (xs.map (·.1))[i]? = some (.lit (.string l)) → s.data.toList = l → W.cell? ⟨0, i, none⟩ = some (.string s) := fun i l s hi h1 hs => by
      have hE := hel i hi
      rw [c9, Nat.mul_one, List.getElem?_eq_getElem (by omega)] at hE
      obtain ⟨z, e1, e2, _⟩ := DataW.trod_string Tryz.underlying9 hE
      rw [List.getElem?_map, List.getElem?_eq_getElem (by omega : i < xs.length), e2] at h1
      simp only [Option.map_some, Option.some.injEq, DataW.lit.injEq, Lit.string.injEq] at h1
      have hz : z = s := by
        have : z.data = s.data := Array.ext' (h1.trans hs.symm)
        cases z; cases s; simpa using this
      subst hz
      rw [World.var?_cell hg3 hv3 i]
      have : cs3.toList[i]? = some (.string z) := by
        have h0 : ((cs3.toList.drop i).take 1)[0]? = some (.string z) := by rw [e1]; rfl
        simpa using h0
      simpa using this
    exact ⟨key 0 _ sFix (by omega) (by rw [e3]; rfl) rfl, key 1 _ sFol (by omega) (by rw [e3]; rfl) rfl, key 2 _ sMan (by omega) (by rw [e3]; rfl) rfl⟩
  · have hd2' : DataW.trod _ Tryz.prog W 0 _ false f2 351 cs2.toList = some (Lib.tabData .u64 Lib.pow10Tab, p2) := hd2
    unfold Tab10 Lib.TabIs
    rw [hv2, ← Lib.cells_of_tab Tryz.underlying351 (by kernel_rfl) (by kernel_rfl) (by kernel_rfl) hd2']
end Go.Proofs.A1
