/- Parts of the proof: V2 R1 R2 R3 R4 R5 R6 Q1p R7 R8 R9 R10 R11 Q2p R12 V3 TryzSplit V4 SM SPost SOpen. -/
import Derived.Test.YtfbgbipclgljaaaGreatDoorWM21
import Derived.Test.YtfbgbipclgljaaaGreatDoorWM20
import Derived.Test.YtfbgbipclgljaaaGreatDoorWM19
import Derived.Test.YtfbgbipclgljaaaGreatDoorWM06
import Derived.Shelf.Strings.Split
import Derived.Shelf.Small.Strs
import Derived.Ground.NamesProg
import Derived.Ground.Names2Prog
import Derived.Test.YtfbgbipclgljaaaGreatDoorProg
import Derived.Shelf.Vars
import Derived.HandedShaped
import Derived.Test.YtfbgbipclgljaaaGreatDoorWM11
import Derived.Test.YtfbgbipclgljaaaGreatDoorWM12
set_option linter.unusedSectionVars false
set_option linter.unusedVariables false
set_option linter.unusedSimpArgs false
namespace Go.Proofs.A1
open Go Go.SL
def strs (ls:List (List UInt8)):List Value:=ls.map fun l=>Value.string (bsL l)
theorem strs_length (ls:List (List UInt8)):(strs ls).length = ls.length:=by simp [strs]
theorem strs_strB (ls:List (List UInt8)):strs ls = (ls.map bsL).map Value.string:=by simp [strs]
theorem bt_at {s:ByteArray} {i:Nat} {l r:List UInt8} {x:UInt8} (h:toL s = l++x :: r) (hi:l.length = i):(((s.data.toList[i]?.getD 0).toNat:Nat):Int) = x.toNat:=by
  rw [show s.data.toList = l++x :: r from h,List.getElem?_append_right (by omega),hi,Nat.sub_self];rfl
theorem toL_split {s:ByteArray} {i:Nat} (h:i < s.size):∃ x r,toL s = (toL s).take i++x :: r ∧ (toL s).take (i + 1) = (toL s).take i++[x] ∧ (toL s)[i]? = some x:=by
  have hl:i < (toL s).length:=by rw [← size_toL];exact h
  refine ⟨(toL s)[i],(toL s).drop (i + 1),?_,?_,List.getElem?_eq_getElem hl⟩
  · rw [← List.drop_eq_getElem_cons hl,List.take_append_drop]
  · rw [List.take_succ_eq_append_getElem hl]
theorem i64w {x:Int} (h:-9223372036854775808 ≤ x ∧ x ≤ 9223372036854775807):IntKind.i64.wrap x = x:=by unfold IntKind.wrap;simp [IntKind.signed,IntKind.bits];omega
theorem strs_set {l:List (List UInt8)} {x:List UInt8} (h:l ≠ []) (cur:List Value):setCells (strs l++cur) ((l.length - 1) * 1) [Value.string (bsL x)] = strs (l.dropLast++[x])++cur:=by
  have hp:0 < l.length:=List.length_pos_iff.2 h
  apply List.ext_getElem?
  intro k
  rw [setCells_get _ _ _ _ (by simp [strs];omega)]
  simp only [List.length_singleton,Nat.mul_one]
  by_cases hk:k < l.length - 1
  · rw [if_neg (by omega),List.getElem?_append_left (by rw [strs_length];omega),List.getElem?_append_left (by simp [strs];omega)]
    simp only [strs,List.getElem?_map]
    rw [List.getElem?_append_left (by simp;omega),List.getElem?_dropLast,if_pos hk]
  · by_cases hk2:k = l.length - 1
    · subst hk2
      rw [if_pos (by omega),List.getElem?_append_left (by simp [strs])]
      simp only [strs,List.getElem?_map]
      rw [List.getElem?_append_right (by simp)]
      simp
    · rw [if_neg (by omega),List.getElem?_append_right (by rw [strs_length];omega),List.getElem?_append_right (by simp [strs];omega)]
      simp [strs]
      congr 1
      omega
theorem strs_last {l:List (List UInt8)} (h:l ≠ []) (cur:List Value):(strs l++cur)[(l.length - 1) * 1]? = some (.string (bsL (l.getLastD []))):=by
  have hp:0 < l.length:=List.length_pos_iff.2 h
  rw [Nat.mul_one,List.getElem?_append_left (by rw [strs_length];omega)]
  simp only [strs,List.getElem?_map]
  rw [List.getLastD_eq_getLast?,List.getLast?_eq_getElem?]
  rw [List.getElem?_eq_getElem (by omega)]
  rfl
theorem split_q {s:ByteArray} {c:UInt8} (hs:s.size ≤ 5000) (w:World):Gives Tryz.prog 89 [.string s,.int .u8 (c.toNat:Nat)] w [] (fun _:Value=>True) id (fun v=>[row 9 1 v (splL c (toL s)).length (strs (splL c (toL s)))]):=by
  refine gives_of_tr Tryz.func89 rfl rfl ?_
  (refine s_r ?_;refine a_s rfl rfl ?_;refine n_r ?_;refine tr_new (rk_sliceLit (.cons (.of rfl) .nil) rfl rfl rfl rfl) rfl (fun _ _=>?_);refine a_s rfl rfl ?_;refine n_t ?_;refine tr_seq ?_;refine s_r ?_;refine a_s rfl rfl ?_;refine n_t ?_;refine tr_block ?_)
  rename_i b hb
  refine tr_rowLitE (g:=b) (E:=9) (ys:=[.string ⟨#[]⟩]) 1 1 (by exact .here) (by exact rfl) rfl rfl ?_
  refine tr_for (ι:=Nat × Value) (fun x=>x.1 ≤ s.size) (fun x=>[(6,.int .i64 (x.1:Int)),(5,x.2),(0,.string s),(1,.int .u8 (c.toNat:Nat))])
    (fun x=>[row 9 1 x.2 (splL c ((toL s).take x.1)).length (strs (splL c ((toL s).take x.1)))]) (fun x=>s.size - x.1) ?_ ?_
  · apply tr_start (0,.slice (some ⟨b,0,none⟩) 1 1) (Nat.zero_le _)
    case hs1=>exact .cons rfl (.cons rfl (.cons rfl (.cons rfl .nil)))
    case ht=>
      show Takes _ [row 9 1 (.slice (some ⟨b,0,none⟩) 1 1) 1 [.string ⟨#[]⟩]] _
      exact .cons .here .nil
  rintro ⟨i,v⟩ hi
  dsimp only at hi ⊢
  by_cases hlt:i < s.size
  · obtain ⟨x,r,hx1,hx2,hx3⟩:=toL_split hlt
    have hb0:=bt_at (i:=i) hx1 (by rw [List.length_take,← size_toL];omega)
    have hle:=splL_le c ((toL s).take i)
    have hpos:=splL_pos c ((toL s).take i)
    have hne:=splL_ne c ((toL s).take i)
    have hsn:=splL_snoc c x ((toL s).take i)
    rw [← hx2] at hsn
    rw [List.length_take,← size_toL] at hle
    have hmin:min i s.size = i:=by omega
    rw [hmin] at hle
    refine tr_rowSl (E:=9) (sz:=1) (v:=v) (by exact .here) fun va vc e=>?_
    subst e
    have hbx:¬ x = c → ¬ (((s.data.toList[((i:Nat):Int).toNat]?.getD 0).toNat:Nat):Int) = (c.toNat:Nat):=fun h e=>by
      rw [Int.toNat_natCast,hb0] at e
      exact h (UInt8.toNat.inj (by omega))
    (refine tr_seq ?_;refine s_r ?_;refine m_v rfl rfl ?_;refine m_v rfl rfl ?_;refine tr_val (rk_len_string (.of rfl)) rfl ?_;refine tr_val (rk_lss (.of rfl) (.of rfl)) rfl ?_;refine n_t ?_;refine c_d rfl (fun hcd=>?_) (fun _=>by omega);refine s_t ?_;refine tr_seq ?_;refine tr_block ?_;refine tr_seq ?_;refine s_r ?_;refine m_v rfl rfl ?_;refine m_v rfl rfl ?_;refine tr_val (rk_indexS (.of rfl) (.of rfl) (by omega) hcd) rfl ?_;refine m_v rfl rfl ?_;refine tr_val (rk_eql (.of rfl) (.of rfl)) rfl ?_;refine n_t ?_;refine c_d rfl (fun hcd=>?_) (fun hcd=>?_);refine s_r ?_;refine m_v rfl rfl ?_;refine tr_new (rk_sliceLit (.cons (.of rfl) .nil) rfl rfl rfl rfl) rfl (fun _ _=>?_);rotate_left;refine s_t ?_;rotate_right)
    · have hxc:x = c:=Decidable.byContradiction fun h=>hbx h hcd
      rw [if_pos hxc] at hsn
      refine tr_appendB (.of rfl) (.of rfl) (.there .here) .here norm_ (by rfl) (okc_cons rfl okc_nil) (by rfl) (by rfl) (by rfl) lenx_ (by rfl) ?_
      intro v'
      (refine a_s rfl rfl ?_;refine n_t ?_;refine x_t ?_;refine tr_blk_exit ?_;refine tr_then ?_;refine tr_region ?_;refine m_v rfl rfl ?_;refine tr_val (rk_add (.of rfl) (.of rfl) (ini (by omega))) rfl ?_;refine a_s rfl rfl ?_;refine n_t ?_)
      apply tr_next (i + 1,v') (show (fun x:Nat × Value=>x.1 ≤ s.size) (i + 1,v') from hlt) (by show s.size - (i + 1) < s.size - i;omega)
      case hs1=>exact .cons rfl (.cons rfl (.cons rfl (.cons rfl .nil)))
      case ht=>
        show Takes _ [row 9 1 v' (splL c ((toL s).take (i + 1))).length (strs (splL c ((toL s).take (i + 1))))] _
        rw [hsn,List.length_append,List.length_singleton,show strs (splL c ((toL s).take i)++[[]]) = strs (splL c ((toL s).take i))++[.string ⟨#[]⟩] by simp only [strs,List.map_append];rfl]
        exact .cons .here .nil
    · have hxc:¬ x = c:=fun h=>hcd (by rw [Int.toNat_natCast,hb0,h])
      rw [if_neg hxc] at hsn
      refine tr_rowOpen (E:=9) (sz:=1) (v:=.slice va (splL c ((toL s).take i)).length vc) (by exact .here) hpos fun g gcap gcur e hk1 hx1' hz1 hl1=>?_
      obtain ⟨rfl,-,rfl⟩:=Value.slice.inj e
      unfold maxLen at hx1'
      have q0:=strs_last hne gcur
      have q1:=strs_set (x:=(splL c ((toL s).take i)).getLastD []++[x]) hne gcur
      have q2:((splL c ((toL s).take i)).length - 1) * 1 + 1 ≤ (strs (splL c ((toL s).take i))++gcur).length:=by
        rw [List.length_append,strs_length];omega
      have e1:(((splL c ((toL s).take i)).length:Int) - 1).toNat = (splL c ((toL s).take i)).length - 1:=by omega
      rw [← e1] at q0 q1 q2
      have hex:toL (s.extract ((i:Nat):Int).toNat (((i:Nat):Int) + 1).toNat) = [x]:=by
        rw [show ((i:Nat):Int).toNat = i by omega,show (((i:Nat):Int) + 1).toNat = i + 1 by omega,toL_extract,hx2]
        exact List.drop_left' (by rw [List.length_take,← size_toL];omega)
      have hsz2:(s.extract ((i:Nat):Int).toNat (((i:Nat):Int) + 1).toNat).size = 1:=by rw [size_toL,hex];rfl
      have hsz1:(bsL ((splL c ((toL s).take i)).getLastD [])).size ≤ 5000:=by
        rw [bsL_size]
        have hm:(splL c ((toL s).take i)).getLastD [] ∈ splL c ((toL s).take i):=by
          rw [List.getLastD_eq_getLast?,List.getLast?_eq_some_getLast hne]
          exact List.getLast_mem hne
        have:=splL_len c _ _ hm
        rw [List.length_take,← size_toL] at this
        omega
      have hval:bsL ((splL c ((toL s).take i)).getLastD [])++s.extract ((i:Nat):Int).toNat (((i:Nat):Int) + 1).toNat = bsL ((splL c ((toL s).take i)).getLastD []++[x]):=toL_inj (by rw [toL_append,toL_bsL,toL_bsL,hex])
      with_reducible refine tr_draw 17 (by kernel_rfl) ?_
      (refine a_m rfl rfl ?_;refine a_m rfl rfl ?_;refine any_val (rk_len_slice (.of rfl)) rfl ?_;refine any_val (rk_sub (.of rfl) (.of rfl) (ini (by omega))) rfl ?_;refine a_m rfl rfl ?_;refine a_m rfl rfl ?_;refine any_val (rk_len_slice (.of rfl)) rfl ?_;refine any_val (rk_sub (.of rfl) (.of rfl) (ini (by omega))) rfl ?_;refine any_val (rk_indexAddr (.of rfl) (.of rfl) rfl (by omega) (by omega) norm1_) rfl ?_;refine any_val (rk_load1 (.of rfl) (At.blkL .here q0)) rfl ?_;refine a_m rfl rfl ?_;refine a_m rfl rfl ?_;refine a_m rfl rfl ?_;refine any_val (rk_add (.of rfl) (.of rfl) (ini (by omega))) rfl ?_;refine any_val (rk_sliceS_lh (.of rfl) (.of rfl) (.of rfl) (by omega) (by omega) (by omega)) rfl ?_;refine any_val (rk_cat (.of rfl) (.of rfl) (by omega)) rfl ?_;refine any_val (rk_indexAddr (.of rfl) (.of rfl) rfl (by omega) (by omega) norm1_) rfl ?_)
      with_reducible refine any_end ?_
      rw [hval]
      refine tr_store (.of rfl) (.of rfl) .here rfl rfl (okc_cons rfl okc_nil) q2 q1 ?_
      (refine tr_nil ?_;refine tr_blk_normal ?_;refine tr_then ?_;refine tr_region ?_;refine m_v rfl rfl ?_;refine tr_val (rk_add (.of rfl) (.of rfl) (ini (by omega))) rfl ?_;refine a_s rfl rfl ?_;refine n_t ?_)
      have e2:(splL c ((toL s).take (i + 1))).length = (splL c ((toL s).take i)).length:=by rw [hsn,List.length_append,List.length_dropLast,List.length_singleton];omega
      refine tr_rowShut (E:=9) (sz:=1) (n:=(splL c ((toL s).take i)).length) (cap:=vc) (xs:=strs (splL c ((toL s).take (i + 1)))) (cur:=gcur) (g:=g) (by rw [hsn];exact .here) hk1 (by unfold maxLen;omega) (by rw [List.length_append,strs_length] at hz1 ⊢;rw [e2];exact hz1) (by rw [strs_length,Nat.mul_one,e2]) ?_
      apply tr_next (i + 1,.slice (some ⟨g,0,none⟩) (splL c ((toL s).take i)).length vc) (show (fun x:Nat × Value=>x.1 ≤ s.size) (i + 1,.slice (some ⟨g,0,none⟩) (splL c ((toL s).take i)).length vc) from hlt) (by show s.size - (i + 1) < s.size - i;omega)
      case hs1=>exact .cons rfl (.cons rfl (.cons rfl (.cons rfl .nil)))
      case ht=>
        show Takes _ [row 9 1 (.slice (some ⟨g,0,none⟩) (splL c ((toL s).take i)).length vc) (splL c ((toL s).take (i + 1))).length (strs (splL c ((toL s).take (i + 1))))] _
        rw [e2]
        exact .cons .here .nil
  · obtain rfl:i = s.size:=by omega
    rw [List.take_of_length_le (by rw [← size_toL];exact Nat.le_refl _)]
    (refine tr_seq ?_;refine s_r ?_;refine m_v rfl rfl ?_;refine m_v rfl rfl ?_;refine tr_val (rk_len_string (.of rfl)) rfl ?_;refine tr_val (rk_lss (.of rfl) (.of rfl)) rfl ?_;refine n_t ?_;refine c_d rfl (fun _=>by omega) (fun hcd=>?_);refine x_t ?_;refine tr_then_exit ?_;refine tr_blk_exit ?_;refine tr_then ?_;refine s_r ?_;refine m_v rfl rfl ?_;refine a_s rfl rfl ?_;refine n_t ?_;refine tr_ret ?_)
    first | with_reducible apply tr_retM | with_reducible apply tr_endM
    case he=>exact ends1 rfl rfl
    case hR=>
      intro w' hm'
      exact gives_end v trivial (show Takes _ [row 9 1 v (splL c (toL s)).length (strs (splL c (toL s)))] _ by exact .cons .here .nil) hm' rfl
end Go.Proofs.A1
namespace Go.Proofs.A1
open Go Go.SL
end Go.Proofs.A1
namespace Go.Proofs.A1
open Go Go.SL
end Go.Proofs.A1
namespace Go.Proofs.A1
open Go Go.SL
end Go.Proofs.A1
namespace Go.Proofs.A1
open Go Go.SL
end Go.Proofs.A1
namespace Go.Proofs.A1
open Go Go.SL
end Go.Proofs.A1
namespace Go.Proofs.A1
open Go Go.SL
end Go.Proofs.A1
namespace Go.Proofs.A1
open Go Go.SL
end Go.Proofs.A1
namespace Go.Proofs.A1
open Go Go.SL
end Go.Proofs.A1
namespace Go.Proofs.A1
open Go Go.SL
end Go.Proofs.A1
namespace Go.Proofs.A1
open Go Go.SL
instance decEn:DecidableEq En:=fun a b=>decidable_of_iff (a.nm = b.nm ∧ a.mt = b.mt ∧ a.kd = b.kd ∧ a.tm = b.tm ∧ a.ln = b.ln ∧ a.ov = b.ov) (by cases a;cases b;simp)
theorem sameQ_c {v1 v2:Value} {l1 l2:List En} {w:World} (h1:Rd w v1 6 (ensL l1)) (h2:Rd w v2 6 (ensL l2)):GivesV Tryz.prog 85 [.agg #[v1],.agg #[v2]] w (.bool (decide (l1 = l2))):=by
  obtain ⟨a,cap,b,o,rfl,hcap,hmax,ha,hc⟩:=h1
  obtain ⟨a2,cap2,b2,o2,rfl,hcap2,hmax2,ha2,hc2⟩:=h2
  rw [ensL_length] at *
  rw [ensL_length] at *
  unfold maxLen at hmax hmax2
  refine givesV_of_tr Tryz.func85 rfl rfl ?_
  (refine s_r ?_;refine tr_new (rk_box (.of rfl) rfl) rfl (fun _ _=>?_);refine tr_new (rk_box (.of rfl) rfl) rfl (fun _ _=>?_);refine a_s rfl rfl ?_;refine n_t ?_;refine tr_seq ?_;refine s_r ?_;refine f_a rfl rfl norm0_ ?_;refine tr_val (rk_load1 (.of rfl) (At.lit (.there .here) rfl)) rfl ?_;refine tr_val (rk_len_slice (.of rfl)) rfl ?_;refine f_a rfl rfl norm0_ ?_;refine tr_val (rk_load1 (.of rfl) (At.lit .here rfl)) rfl ?_;refine tr_val (rk_len_slice (.of rfl)) rfl ?_;refine tr_val (rk_neq (.of rfl) (.of rfl)) rfl ?_;refine n_t ?_;refine c_d rfl (fun hcd=>?_) (fun hcd=>?_);refine s_r ?_;refine a_s rfl rfl ?_;refine n_t ?_;refine r_t ?_;refine tr_retE rfl (ends1 rfl rfl) ?_;rotate_left;refine s_t ?_;refine tr_seq ?_;refine s_r ?_;refine a_s rfl rfl ?_;refine n_t ?_;refine tr_block ?_;rotate_right)
  · rw [decide_eq_false (fun e=>hcd (by rw [e]))]
  have hlen:l1.length = l2.length:=by omega
  rename_i c1 hc1 c2 hc2'
  refine tr_for (fun k:Nat=>k ≤ l1.length ∧ ∀ i,i < k → l1[i]? = l2[i]?) (fun k=>[(5,.int .i64 k),(2,.pointer (some ⟨c1,0,none⟩)),(3,.pointer (some ⟨c2,0,none⟩))]) (fun _=>[blk c2 (.cells #[.slice a2 l2.length cap2] 24 (0,0)),blk c1 (.cells #[.slice a l1.length cap] 24 (0,0))]) (fun k=>l1.length - k) ?_ ?_
  · apply tr_start 0 ⟨Nat.zero_le _,fun i h=>by omega⟩
    case hs1=>exact .cons rfl (.cons rfl (.cons rfl .nil))
    case ht=>(try simp only [List.take_zero,List.map_nil,List.nil_append]);exact .cons .here (.cons .here .nil)
  rintro k ⟨hk,hf⟩
  by_cases hlt:k < l1.length
  · have hlt2:k < l2.length:=by omega
    have ha':=ha (ensL_ne hlt)
    have ha2':=ha2 (ensL_ne hlt2)
    have hcell:=(hc k _ (ensL_get hlt)).2
    have hcell2:=(hc2 k _ (ensL_get hlt2)).2
    have hx1:=nth_eq hlt
    have hy1:=nth_eq hlt2
    generalize hx:nth l1 k = x at hcell hx1
    generalize hy:nth l2 k = y at hcell2 hy1
    obtain ⟨x0,x1,x2,x3,x4,x5⟩:=x
    obtain ⟨y0,y1,y2,y3,y4,y5⟩:=y
    unfold En.cells at hcell hcell2
    dsimp only at hcell hcell2
    (refine tr_seq ?_;refine s_r ?_;refine m_v rfl rfl ?_;refine f_a rfl rfl norm0_ ?_;refine tr_val (rk_load1 (.of rfl) (At.lit (.there .here) rfl)) rfl ?_;refine tr_val (rk_len_slice (.of rfl)) rfl ?_;refine tr_val (rk_lss (.of rfl) (.of rfl)) rfl ?_;refine n_t ?_;refine c_d rfl (fun hcd=>?_) (fun _=>by omega);refine s_t ?_;refine tr_seq ?_;refine tr_block ?_;refine tr_seq ?_)
    with_reducible refine tr_draw 11 (by kernel_rfl) ?_
    (refine a_f rfl rfl norm0_ ?_;refine any_val (rk_load1 (.of rfl) (At.lit (.there .here) rfl)) rfl ?_;refine a_m rfl rfl ?_;refine any_val (rk_indexAddr (.of rfl) (.of rfl) ha' (by omega) hcd norm1_) rfl ?_;refine any_val (rk_loadN (.of rfl) (Ats.base hcell rfl) rfl) rfl ?_;refine a_f rfl rfl norm0_ ?_;refine any_val (rk_load1 (.of rfl) (At.lit .here rfl)) rfl ?_;refine a_m rfl rfl ?_;refine any_val (rk_indexAddr (.of rfl) (.of rfl) ha2' (by omega) (by omega) norm1_) rfl ?_;refine any_val (rk_loadN (.of rfl) (Ats.base hcell2 rfl) rfl) rfl ?_;refine any_val (rk_neqA (.of rfl) (.of rfl) (okL_string (okL_string (okL_string (okL_int (okL_int (okL_int okL_nil)))))) rfl) rfl ?_)
    with_reducible refine any_end ?_
    (refine n_t ?_;refine c_b rfl (fun hcd=>?_) (fun hcd=>?_);refine s_r ?_;refine a_s rfl rfl ?_;refine n_t ?_;refine tr_ret ?_;refine tr_blk_ret ?_;refine tr_then_ret ?_;refine tr_then_ret ?_;refine tr_blk_ret ?_;refine tr_then_ret ?_;refine tr_retE rfl (ends1 rfl rfl) ?_;rotate_left;refine tr_skip ?_;refine tr_blk_normal ?_;refine tr_then ?_;refine tr_region ?_;refine m_v rfl rfl ?_;refine tr_val (rk_add (.of rfl) (.of rfl) (ini (by omega))) rfl ?_;refine a_s rfl rfl ?_;refine n_t ?_;rotate_right)
    · have hne:¬ l1 = l2:=by
        intro e
        subst e
        rw [← hx1] at hy1
        cases hy1
        simp at hcd
      rw [decide_eq_false hne]
    · have heq:l1[k]? = l2[k]?:=by
        rw [List.getElem?_eq_getElem hlt,List.getElem?_eq_getElem hlt2,← hx1,← hy1]
        simp at hcd
        simp [hcd]
      apply tr_next (k + 1) ⟨by omega,fun i hi=>by
        by_cases e:i = k
        · rw [e];exact heq
        · exact hf i (by omega)⟩ (by omega)
      case hs1=>exact .cons rfl (.cons rfl (.cons rfl .nil))
      case ht=>(try simp only [List.take_zero,List.map_nil,List.nil_append]);exact .cons .here (.cons .here .nil)
  · obtain rfl:k = l1.length:=by omega
    (refine tr_seq ?_;refine s_r ?_;refine m_v rfl rfl ?_;refine f_a rfl rfl norm0_ ?_;refine tr_val (rk_load1 (.of rfl) (At.lit (.there .here) rfl)) rfl ?_;refine tr_val (rk_len_slice (.of rfl)) rfl ?_;refine tr_val (rk_lss (.of rfl) (.of rfl)) rfl ?_;refine n_t ?_;refine c_d rfl (fun _=>by omega) (fun hcd=>?_);refine x_t ?_;refine tr_then_exit ?_;refine tr_blk_exit ?_;refine tr_then ?_;refine s_r ?_;refine a_s rfl rfl ?_;refine n_t ?_;refine tr_ret ?_;refine tr_retE rfl (ends1 rfl rfl) ?_)
    have:l1 = l2:=List.ext_getElem? fun i=>by
      by_cases hi:i < l1.length
      · exact hf i hi
      · rw [List.getElem?_eq_none (by omega),List.getElem?_eq_none (by omega)]
    rw [decide_eq_true this]
end Go.Proofs.A1
namespace Go.Proofs.A1
open Go Go.SL
end Go.Proofs.A1
namespace Go.Proofs.A1
open Go Go.SL
end Go.Proofs.A1
namespace Go.Proofs.A1
open Go Go.SL
section
variable {es:List En} {b:Br} {gap:Int} {ol:List Int}
end
end Go.Proofs.A1
namespace Go.Proofs.A1
open Go Go.SL
end Go.Proofs.A1
namespace Go.Proofs.A1
open Go Go.SL
theorem itoaB_nat (m:Nat):itoaB (m:Int) = bsL (Lib.decDigits m):=by
  unfold itoaB;rw [Lib.itoa_nonneg];rfl
theorem decDigits_len (m:Nat):∀ k,m < 10 ^ k → 0 < k → (Lib.decDigits m).length ≤ k:=by
  intro k
  induction k generalizing m with
  | zero=>intro _ h;exact absurd h (Nat.lt_irrefl _)
  | succ k ih =>
    intro h _
    rw [Lib.decDigits]
    split
    · simp
    · rename_i hm
      have hk:0 < k:=by
        rcases Nat.eq_zero_or_pos k with e | e
        · subst e;simp at h;omega
        · exact e
      have:=ih (m / 10) (by rw [Nat.pow_succ] at h;omega) hk
      simp only [List.length_append,List.length_singleton];omega
theorem digB_take {s:ByteArray} {i:Nat} {x:UInt8} (h:(toL s).take (i + 1) = (toL s).take i++[x]):digB ((toL s).take (i + 1)) = (digB ((toL s).take i) && isDg x):=by
  unfold digB;rw [h,List.all_append];simp
theorem digB_bad {l:List UInt8} {i:Nat} {x:UInt8} (hx:l[i]? = some x) (h:isDg x = false):digB l = false:=by
  unfold digB
  rw [List.all_eq_false]
  exact ⟨x,List.mem_of_getElem? hx,by rw [h];decide⟩
theorem bt_hd {s:ByteArray} (h:0 < s.size):(((s.data.toList[0]?.getD 0).toNat:Nat):Int) = ((toL s).headD 0).toNat:=by
  have hl:0 < (toL s).length:=by rw [← size_toL];exact h
  unfold toL at hl ⊢
  cases e:s.data.toList with
  | nil=>rw [e] at hl;simp at hl
  | cons a b=>rfl
end Go.Proofs.A1
namespace Go.Proofs
open Go.Shelf
def Tryz.lays137_ren:Go.Shelf.Ren:=⟨fun | 137=>197 | 217=>216 | 266=>231 | n=>n,fun | 9=>9 | 5=>5 | 3=>3 | n=>n,fun | n=>n⟩
theorem Tryz.lays137:Go.Proofs.Lays.n137 Tryz.prog Tryz.lays137_ren:={
  mixed:=by kernel_rfl
  f137:=Tryz.func197.trans (congrArg some (by kernel_rfl))
  f217:=Tryz.func216.trans (congrArg some (by kernel_rfl))
  f266:=Tryz.func231.trans (congrArg some (by kernel_rfl))
  t3:=Tryz.underlying3
  a3:=Tryz.isAgg3
  z3:=Tryz.sizeOf3
  v3:=Tryz.zeroValue3
  t5:=Tryz.underlying5
  a5:=Tryz.isAgg5
  z5:=Tryz.sizeOf5
  v5:=Tryz.zeroValue5
  t9:=Tryz.underlying9
  a9:=Tryz.isAgg9
  z9:=Tryz.sizeOf9
  v9:=Tryz.zeroValue9 }
open Go.RowKit in
theorem Tryz.strings_IndexByte (s:ByteArray) (c:Int) (w:World) :
    Calls Tryz.prog 197 #[.string s,.int .u8 c] w fun e w'=>e = .returned (.int .i64 (Lib.indexByte s.data.toList c.toNat.toUInt8)) ∧ w' = w:=Any.strings_IndexByte Tryz.lays137 s c w
def Tryz.lays146_ren:Go.Shelf.Ren:=⟨fun | 146=>199 | 221=>218 | 268=>232 | 138=>233 | 143=>234 | 195=>251 | 197=>252 | 218=>253 | 219=>254 | 260=>264 | 217=>216 | 225=>265 | 224=>266 | 267=>267 | 266=>231 | 314=>271 | n=>n,fun | 9=>9 | 31=>167 | 3=>3 | 4=>4 | 0=>0 | 105=>342 | 21=>21 | 5=>5 | 46=>317 | 119=>356 | 139=>359 | 138=>358 | 146=>360 | 51=>334 | n=>n,fun | 1=>1 | 3=>3 | 4=>4 | n=>n⟩
theorem Tryz.lays146:Go.Proofs.Lays.n146 Tryz.prog Tryz.lays146_ren:={
  mixed:=by kernel_rfl
  f138:=Tryz.func233.trans (congrArg some (by kernel_rfl))
  f143:=Tryz.func234.trans (congrArg some (by kernel_rfl))
  f146:=Tryz.func199.trans (congrArg some (by kernel_rfl))
  f195:=Tryz.func251.trans (congrArg some (by kernel_rfl))
  f197:=Tryz.func252.trans (congrArg some (by kernel_rfl))
  f217:=Tryz.func216.trans (congrArg some (by kernel_rfl))
  f218:=Tryz.func253.trans (congrArg some (by kernel_rfl))
  f219:=Tryz.func254.trans (congrArg some (by kernel_rfl))
  f221:=Tryz.func218.trans (congrArg some (by kernel_rfl))
  f224:=Tryz.func266.trans (congrArg some (by kernel_rfl))
  f225:=Tryz.func265.trans (congrArg some (by kernel_rfl))
  f260:=Tryz.func264.trans (congrArg some (by kernel_rfl))
  f266:=Tryz.func231.trans (congrArg some (by kernel_rfl))
  f267:=Tryz.func267.trans (congrArg some (by kernel_rfl))
  f268:=Tryz.func232.trans (congrArg some (by kernel_rfl))
  f314:=Tryz.func271.trans (congrArg some (by kernel_rfl))
  t0:=Tryz.underlying0
  a0:=Tryz.isAgg0
  z0:=Tryz.sizeOf0
  v0:=Tryz.zeroValue0
  t3:=Tryz.underlying3
  a3:=Tryz.isAgg3
  z3:=Tryz.sizeOf3
  v3:=Tryz.zeroValue3
  t4:=Tryz.underlying4
  a4:=Tryz.isAgg4
  z4:=Tryz.sizeOf4
  v4:=Tryz.zeroValue4
  t5:=Tryz.underlying5
  a5:=Tryz.isAgg5
  z5:=Tryz.sizeOf5
  v5:=Tryz.zeroValue5
  t9:=Tryz.underlying9
  a9:=Tryz.isAgg9
  z9:=Tryz.sizeOf9
  v9:=Tryz.zeroValue9
  t21:=Tryz.underlying21
  a21:=Tryz.isAgg21
  z21:=Tryz.sizeOf21
  v21:=Tryz.zeroValue21
  t31:=Tryz.underlying167
  a31:=Tryz.isAgg167
  z31:=Tryz.sizeOf167
  v31:=Tryz.zeroValue167
  t46:=Tryz.underlying317
  a46:=Tryz.isAgg317
  z46:=Tryz.sizeOf317
  v46:=Tryz.zeroValue317
  t51:=Tryz.underlying334
  a51:=Tryz.isAgg334
  z51:=Tryz.sizeOf334
  v51:=Tryz.zeroValue334
  t105:=Tryz.underlying342
  a105:=Tryz.isAgg342
  z105:=Tryz.sizeOf342
  v105:=Tryz.zeroValue342
  t119:=Tryz.underlying356
  a119:=Tryz.isAgg356
  z119:=Tryz.sizeOf356
  t138:=Tryz.underlying358
  a138:=Tryz.isAgg358
  z138:=Tryz.sizeOf358
  v138:=Tryz.zeroValue358
  t139:=Tryz.underlying359
  a139:=Tryz.isAgg359
  z139:=Tryz.sizeOf359
  v139:=Tryz.zeroValue359
  t146:=Tryz.underlying360
  a146:=Tryz.isAgg360
  z146:=Tryz.sizeOf360
  v146:=Tryz.zeroValue360
  g1:=by kernel_rfl
  g3:=by kernel_rfl
  g4:=by kernel_rfl }
open Go.RowKit Go.Lib in
theorem Tryz.strings_Split (s sep:ByteArray) (m:Int) (w:World) (hs:s.size < 4294967281) (hm:w.cell? ⟨1,0,none⟩ = some (.int .i64 m)) (h1:1 ≤ sep.size) :
    Calls Tryz.prog 199 #[.string s,.string sep] w fun e w'=>
      e = .returned (.slice (some ⟨w.heap.size,0,none⟩) (Lib.countB s sep + 1) (Lib.countB s sep + 1)) ∧ w' = w.alloc (.cells ((Lib.splitB sep 0 (Lib.countB s sep) s).map Value.string).toArray 9):=Any.strings_Split Tryz.lays146 (by kernel_rfl) s sep m w hs hm h1
end Go.Proofs
namespace Go.Proofs.A1
open Go Go.SL
def MaxL (w:World):Prop:=∃ m:Int,w.cell? ⟨1,0,none⟩ = some (.int .i64 m)
theorem MaxL.keeps {w w':World} (h:MaxL w) (hk:Keeps [] w w'):MaxL w':=by
  obtain ⟨m,hm⟩:=h
  refine ⟨m,?_⟩
  have hb:=World.block_lt_of_cell? w ⟨1,0,none⟩ hm
  have:=hk.block 1 hb (by simp)
  rw [← hm];simp [World.cell?,this]
theorem split_p {c:UInt8} {s:ByteArray} (hs:s.size ≤ 5000) {w:World} (hM:MaxL w):Gives Tryz.prog 199 [.string s,.string ⟨#[c]⟩] w [] (fun _:Nat=>True) (fun g=>.slice (some ⟨g,0,none⟩) (splL c (toL s)).length (splL c (toL s)).length) (fun g=>[blk g (.cells (strs (splL c (toL s))).toArray 9)]):=by
  obtain ⟨m,hm⟩:=hM
  obtain ⟨e1,e2⟩:=splitB_spl c s
  refine Calls.mono (Tryz.strings_Split s ⟨#[c]⟩ m w (by omega) hm (Nat.le_refl 1)) fun e w' ⟨he,hw⟩=>?_
  rw [e1,← strs_strB] at hw
  rw [e2] at he
  refine ⟨w.heap.size,he,trivial,by rw [hw];exact .alloc _ _ _,[w.heap.size],by simp,⟨[w.heap.size],[],rfl,⟨rfl,by rw [hw];exact World.alloc_heap_new w _⟩,rfl⟩,by simp⟩
theorem indexByte_p (s:ByteArray) (c:Int) (w:World):GivesV Tryz.prog 197 [.string s,.int .u8 c] w (.int .i64 (Lib.indexByte (toL s) c.toNat.toUInt8)):=
  Calls.mono (Tryz.strings_IndexByte s c w) fun e w' ⟨he,hw⟩=>⟨he,by rw [hw];exact .refl _ _⟩
theorem i32w {x:Int} (h:-2147483648 ≤ x ∧ x ≤ 2147483647):IntKind.i32.wrap x = x:=by unfold IntKind.wrap;simp [IntKind.signed,IntKind.bits];omega
theorem wd_get {ws:List (List UInt8)} {k:Nat} (h:k < ws.length):(strs ws)[k]? = some (.string (bsL (wd ws k))):=by
  simp [strs,wd,h]
theorem integer_p (s:ByteArray) (w:World):GivesV Tryz.prog 219 [.string s] w (.tuple #[.int .i64 (intV (toL s)),.bool (numB (toL s))]):=by
  have hn:=numB_iff (l:=toL s)
  rw [← size_toL] at hn
  refine givesV_of_tr Tryz.func219 rfl rfl ?_
  (refine s_r ?_;refine a_s rfl rfl ?_;refine a_s rfl rfl ?_;refine n_r ?_;refine a_s rfl rfl ?_;refine n_t ?_;refine tr_seq ?_;refine s_r ?_;refine m_v rfl rfl ?_;refine tr_new (rk_rangeS (.of rfl)) rfl (fun _ _=>?_);refine n_t ?_;refine tr_block ?_)
  rename_i bi hbi
  refine tr_for (ι:=Nat) (fun p=>p ≤ s.size ∧ digB ((toL s).take p) = true ∧ (p = 0 ∨ s.size ≤ 9)) (fun p=>[(8,.pointer (some ⟨bi,0,none⟩)),(4,.int .i64 (digV ((toL s).take p))),(0,.string s)]) (fun p=>[blk bi (.stringIter s p)]) (fun p=>s.size - p) ?_ ?_
  · apply tr_start 0 ⟨Nat.zero_le _,rfl,.inl rfl⟩
    case hs1=>exact .cons rfl (.cons rfl (.cons rfl .nil))
    case ht=>exact .cons .here .nil
  rintro p ⟨hp,hd,h9⟩
  (refine s_r ?_;refine tr_nextS (.of rfl) .here rfl (fun hlt=>?_) (fun hlt=>?_);refine tr_val (rk_extract (.of rfl) rfl) rfl ?_;refine n_t ?_;refine tr_seq ?_;refine tr_cond_t (.of rfl) ?_;refine s_t ?_;refine tr_block ?_;refine s_r ?_;refine tr_val (rk_extract (.of rfl) rfl) rfl ?_;refine a_s rfl rfl ?_;refine n_t ?_;refine tr_seq ?_;refine s_r ?_;refine m_v rfl rfl ?_;refine tr_val (rk_lss (.of rfl) (.of rfl)) rfl ?_;refine m_v rfl rfl ?_;refine v_g rfl rfl rfl rfl ?_;refine tr_vG1 rfl rfl inferInstance (fun hg hgp=>(rk_gtr (.ofg hg rfl) (.of rfl))) rfl ?_;refine tr_val (rk_pick_or (.of rfl) rfl) rfl ?_;refine m_v rfl rfl ?_;refine v_g rfl rfl rfl rfl ?_;refine tr_vG1 rfl rfl inferInstance (fun hg hgp=>(rk_len_string (.ofg hg rfl))) rfl ?_;refine tr_vG1 rfl rfl inferInstance (fun hg hgp=>(rk_gtr (.ofg hg rfl) (.of rfl))) rfl ?_;refine tr_val (rk_pick_or (.of rfl) rfl) rfl ?_;refine n_t ?_;refine c_b rfl (fun hcd=>?_) (fun hcd=>?_);refine s_r ?_;refine a_s rfl rfl ?_;refine a_s rfl rfl ?_;refine n_t ?_;refine r_t ?_;refine tr_blk_ret ?_;refine tr_then_ret ?_;refine tr_blk_ret ?_;refine tr_then_ret ?_;refine tr_retE rfl (ends2 rfl rfl rfl) ?_;rotate_left;refine s_t ?_;refine tr_region ?_;refine m_v rfl rfl ?_;rotate_right;rotate_left 2;refine tr_val (rk_extract (.of rfl) rfl) rfl ?_;refine n_t ?_;refine tr_seq ?_;refine tr_cond_f (.of rfl) ?_;refine x_t ?_;refine tr_then_exit ?_;refine tr_blk_exit ?_;refine tr_then ?_;refine tr_seq ?_;rotate_right 2)
  · obtain ⟨x,r,hx1,hx2,hx3⟩:=toL_split hlt
    have hb0:bt s p = x.toNat:=bt_at (i:=p) hx1 (by rw [List.length_take,← size_toL];omega)
    have hd2:=decode_bt hlt
    by_cases hx:isDg x = true
    · have hx':=hx
      unfold isDg at hx'
      rw [Bool.and_eq_true,decide_eq_true_eq,decide_eq_true_eq] at hx'
      have h10:9 < s.size:=by omega
      have e1:numB (toL s) = false:=by
        rw [← Bool.not_eq_true,hn];omega
      have e2:intV (toL s) = 0:=by
        unfold intV
        rw [if_neg]
        rw [Bool.and_eq_true,decide_eq_true_eq,← size_toL];omega
      rw [e1,e2]
    · have e0:=digB_bad hx3 (by simpa using hx)
      have e1:numB (toL s) = false:=by
        rw [← Bool.not_eq_true,hn,e0]
        simp
      have e2:intV (toL s) = 0:=by
        unfold intV;rw [e0];rfl
      rw [e1,e2]
  · obtain ⟨x,r,hx1,hx2,hx3⟩:=toL_split hlt
    have hb0:bt s p = x.toNat:=bt_at (i:=p) hx1 (by rw [List.length_take,← size_toL];omega)
    have hd2:=decode_bt hlt
    have hv9:=digV_9 hd (by rw [List.length_take,← size_toL];omega)
    have hdt:=digB_take hx2
    have hx:isDg x = true:=by
      unfold isDg
      rw [Bool.and_eq_true,decide_eq_true_eq,decide_eq_true_eq]
      omega
    rw [hd,hx] at hdt
    have hw1:(Utf8.decode s p).2 = 1:=by omega
    have hr1:((Utf8.decode s p).1:Int) = x.toNat:=by omega
    have hx':=hx
    unfold isDg at hx'
    rw [Bool.and_eq_true,decide_eq_true_eq,decide_eq_true_eq] at hx'
    (refine tr_val (rk_mul (.of rfl) (.of rfl) (ini (by omega))) rfl ?_;refine m_v rfl rfl ?_)
    refine tr_val (rk_subw (.of rfl) (.of rfl)) rfl ?_
    refine tr_val (rk_conv (.of rfl)) rfl ?_
    rw [hr1,hw1,i32w (x:=(x.toNat:Int) - 48) (by omega),i64w (x:=(x.toNat:Int) - 48) (by omega)]
    (refine tr_val (rk_add (.of rfl) (.of rfl) (ini (by omega))) rfl ?_;refine a_s rfl rfl ?_;refine tr_nil ?_;refine tr_blk_normal ?_;refine tr_then ?_)
    rw [← digV_snoc,← hx2]
    apply tr_next (p + 1) ⟨hlt,hdt,.inr (by omega)⟩ (by show s.size - (p + 1) < s.size - p;omega)
    case hs1=>exact .cons rfl (.cons rfl (.cons rfl .nil))
    case ht=>exact .cons .here .nil
  · obtain rfl:p = s.size:=by omega
    rw [List.take_of_length_le (by rw [← size_toL];exact Nat.le_refl _)] at hd ⊢
    by_cases hz:s.size = 0
    · obtain rfl:s = ⟨#[]⟩:=toL_inj (List.length_eq_zero_iff.1 (by rw [← size_toL];exact hz))
      with_reducible refine tr_drawM 15 (by kernel_rfl) ?_
      (refine am_val (fun β=>(rk_move (.of rfl))) indC rfl ?_;refine am_val (fun β=>(rk_move (.of rfl))) indC rfl ?_;refine am_val (fun β=>(rk_neqs (.of rfl) (.of rfl))) indC rfl ?_;refine am_val (fun β=>(rk_move (.of rfl))) indC rfl ?_;refine am_gOff rfl (fun _=>rfl) (Or.inr rfl) rfl ?_;refine am_gOff rfl (fun _=>rfl) (Or.inr rfl) rfl ?_;refine am_gOff rfl (fun _=>rfl) (Or.inr rfl) rfl ?_;refine am_gOff rfl (fun _=>rfl) (Or.inr rfl) rfl ?_;refine am_gOff rfl (fun _=>rfl) (Or.inl rfl) rfl ?_;refine am_gOff rfl (fun _=>rfl) (Or.inl rfl) rfl ?_;refine am_gOff rfl (fun _=>rfl) (Or.inl rfl) rfl ?_;refine am_gOff rfl (fun _=>rfl) (Or.inr rfl) rfl ?_;refine am_val (fun β=>(rk_pickB (.of rfl) (.of rfl) (.of rfl) rfl)) indC rfl ?_;refine am_val (fun β=>(rk_assign (.of rfl))) indC rfl ?_;refine am_val (fun β=>(rk_assign (.of rfl))) indC rfl ?_)
      dsimp only [Nat.zero_add,Nat.reduceAdd]
      refine am_end fun β=>?_
      dsimp only [resAll,List.nil_append,List.cons_append,List.append_eq,Nat.reduceAdd]
      with_reducible refine left_done (by kernel_rfl) ?_
      (refine tr_then ?_;refine tr_ret ?_;refine tr_retE rfl (ends2 rfl rfl rfl) ?_)
      rfl
    · have hb0:=bt_hd (s:=s) (by omega)
      with_reducible refine tr_draw 15 (by kernel_rfl) ?_
      (refine a_m rfl rfl ?_;refine a_m rfl rfl ?_;refine any_val (rk_neqs (.of rfl) (.of rfl)) rfl ?_;refine a_m rfl rfl ?_;refine any_vG1 rfl rfl inferInstance (fun hg hgp=>(rk_move (.of rfl))) rfl ?_;refine any_vG1 rfl rfl inferInstance (fun hg hgp=>(rk_len_string (.ofg hg rfl))) rfl ?_;refine any_vG1 rfl rfl inferInstance (fun hg hgp=>(rk_eql (.ofg hg rfl) (.of rfl))) rfl ?_;refine any_vG1 rfl rfl inferInstance (fun hg hgp=>(rk_move (.ofg hg rfl))) rfl ?_;refine any_vG rfl rfl inferInstance (fun hg hgp=>(rk_move (.of rfl))) rfl ?_;refine any_vG rfl rfl inferInstance (fun hg hgp=>(rk_indexS (.ofg hg rfl) (.of rfl) (by omega) (by omega))) rfl ?_;refine any_vG rfl rfl inferInstance (fun hg hgp=>(rk_neq (.ofg hg rfl) (.of rfl))) rfl ?_;refine any_vG1 rfl rfl inferInstance (fun hg hgp=>(rk_pick_or' hg (.ofg hg rfl) rfl)) rfl ?_;refine any_val (rk_pick_and (.of rfl) rfl) rfl ?_;refine any_val (rk_assign (.of rfl)) rfl ?_;refine any_val (rk_assign (.of rfl)) rfl ?_)
      with_reducible refine any_end ?_
      (refine n_t ?_;refine tr_ret ?_;refine tr_retE rfl (ends2 rfl rfl rfl) ?_)
      have e1:intV (toL s) = digV (toL s):=by
        unfold intV
        rw [if_pos (by rw [hd,Bool.true_and,decide_eq_true_eq,← size_toL];omega)]
      have e2:(decide (s ≠ ⟨#[]⟩) && (decide ((s.size:Int) = 1) || decide ((((s.data.toList[Int.toNat 0]?.getD 0).toNat:Nat):Int) ≠ 48))) = numB (toL s):=by
        rw [Bool.eq_iff_iff,hn,show Int.toNat 0 = 0 from rfl,hb0]
        simp only [Bool.and_eq_true,Bool.or_eq_true,decide_eq_true_eq,hd,true_and]
        constructor
        · rintro ⟨_,h2⟩
          refine ⟨fun e=>hz (by rw [size_toL,e];rfl),by omega,?_⟩
          rcases h2 with h2 | h2
          · exact .inl (by omega)
          · exact .inr fun e=>h2 (by rw [e];rfl)
        · rintro ⟨_,_,h2⟩
          refine ⟨fun e=>hz (by rw [e];rfl),?_⟩
          rcases h2 with h2 | h2
          · exact .inl (by omega)
          · exact .inr fun e=>h2 (UInt8.toNat.inj (by have:(48:UInt8).toNat = 48:=rfl;omega))
      rw [e1,e2]
def tkV (g n:Nat):Option Nat → Value
  | none=>.slice none 0 0
  | some k=>.slice (some ⟨g,if k < n then k else n - 1,none⟩) (n - k) (n - k)
def wdR (ws:List (List UInt8)):Option Nat → List UInt8 × Option Nat × Bool
  | none=>([],none,true)
  | some k=>if k < ws.length ∧ wd ws k ≠ [] then (wd ws k,some (k + 1),false) else ([],none,true)
theorem tkV_some (g n k:Nat):tkV g n (some k) = .slice (some ⟨g,if k < n then k else n - 1,none⟩) (n - k) (n - k):=rfl
theorem tkV_next {g n k:Nat} (h:k < n):sliced (some ⟨g,k,none⟩) 1 (n - k) (n - k) 1 = tkV g n (some (k + 1)):=by
  rw [tkV_some]
  unfold sliced
  by_cases e:n - k = 1
  · rw [if_pos e,if_neg (by omega),show n - 1 = k by omega,show n - (k + 1) = n - k - 1 by omega]
  · rw [if_neg e,if_pos (by omega),show n - (k + 1) = n - k - 1 by omega]
    simp [Addr.add]
theorem takeW_c {b g:Nat} {ws:List (List UInt8)} {st:Option Nat} {wr:Bool} {w:World} {fp:List Nat} (hst:∀ k,st = some k → k ≤ ws.length) (hl:ws.length ≤ 5001) (hn:fp.Nodup) (hs:Sats (hp w) [blk b (.cells #[tkV g ws.length st,.bool wr] 299),blk g (.cells (strs ws).toArray 9)] fp) :
    Gives Tryz.prog 200 [.pointer (some ⟨b,0,none⟩)] w fp (fun _:Unit=>True) (fun _=>.string (bsL (wdR ws st).1)) (fun _=>[blk b (.cells #[tkV g ws.length (wdR ws st).2.1,.bool (wr || (wdR ws st).2.2)] 299),blk g (.cells (strs ws).toArray 9)]):=by
  refine givesM_of_tr Tryz.func200 rfl rfl hn hs ?_
  have hc:((0:Nat):Int) = 0:=rfl
  cases st with
  | none =>
    show Tr _ _ _ [blk b (.cells #[.slice none 0 0,.bool wr] 299),_] _
    (refine s_r ?_;refine a_s rfl rfl ?_;refine n_t ?_;refine tr_seq ?_;refine s_r ?_;refine m_v rfl rfl ?_;refine tr_val (rk_nilCheck (.of rfl)) rfl ?_;refine f_a rfl rfl norm0_ ?_;refine tr_val (rk_load1 (.of rfl) (At.lit .here rfl)) rfl ?_;refine tr_val (rk_len_slice (.of rfl)) rfl ?_;refine tr_val (rk_eqlT (.of rfl) (.of rfl) hc) rfl ?_;refine m_v rfl rfl ?_;refine tr_gOff rfl rfl rfl ?_;refine tr_gOff rfl rfl rfl ?_;refine tr_gOff rfl rfl rfl ?_;refine tr_gOff rfl rfl rfl ?_;refine tr_gOff rfl rfl rfl ?_;refine tr_gOff rfl rfl rfl ?_;refine tr_gOff rfl rfl rfl ?_;refine tr_val (rk_pickB (.of rfl) (.of rfl) (.of rfl) rfl) rfl ?_;refine n_t ?_;refine tr_cond_t (.of rfl) ?_;refine s_r ?_;refine m_v rfl rfl ?_;refine m_v rfl rfl ?_;refine tr_val (rk_nilCheck (.of rfl)) rfl ?_;refine f_a rfl rfl norm0_ ?_;refine tr_store (.of rfl) (.of rfl) .here rfl rfl (okc_cons rfl okc_nil) (lenb rfl) norm_ ?_;refine tr_val (rk_nilCheck (.of rfl)) rfl ?_;refine f_a rfl rfl norm0_ ?_;refine tr_store (.of rfl) (.of rfl) .here rfl rfl (okc_cons rfl okc_nil) (lenb rfl) norm_ ?_;refine n_r ?_;refine a_s rfl rfl ?_;refine n_t ?_;refine r_t ?_)
    skip
    first | with_reducible apply tr_retM | with_reducible apply tr_endM
    case he=>exact ends1 rfl rfl
    case hR=>
      intro w' hm'
      exact gives_end () trivial (show Takes _ [blk b (.cells #[.slice none 0 0,.bool (wr || true)] 299),blk g (.cells (strs ws).toArray 9)] _ by rw [Bool.or_true];exact .cons .here (.cons .here .nil)) hm' rfl
  | some k =>
    rw [tkV_some]
    by_cases hk:k < ws.length
    · rw [if_pos hk]
      have q0:=wd_get hk
      clear hc
      (refine s_r ?_;refine a_s rfl rfl ?_;refine n_t ?_;refine tr_seq ?_;refine s_r ?_;refine m_v rfl rfl ?_;refine tr_val (rk_nilCheck (.of rfl)) rfl ?_;refine f_a rfl rfl norm0_ ?_;refine tr_val (rk_load1 (.of rfl) (At.lit .here rfl)) rfl ?_;refine tr_val (rk_len_slice (.of rfl)) rfl ?_;refine tr_val (rk_eql (.of rfl) (.of rfl)) rfl ?_;refine m_v rfl rfl ?_;refine v_g rfl rfl rfl rfl ?_;refine tr_vG1 rfl rfl inferInstance (fun hg hgp=>(rk_nilCheck (.ofg hg rfl))) rfl ?_;refine tr_vG1 rfl rfl inferInstance (fun hg hgp=>(rk_fieldAddr (.ofg hg rfl) norm0_)) rfl ?_;refine tr_vG1 rfl rfl inferInstance (fun hg hgp=>(rk_load1 (.ofg hg rfl) (At.lit .here rfl))) rfl ?_;refine tr_vG1 rfl rfl inferInstance (fun hg hgp=>(rk_indexAddr (.ofg hg rfl) (.of rfl) rfl (by omega) (by omega) norm1_)) rfl ?_;refine tr_vG1 rfl rfl inferInstance (fun hg hgp=>(rk_load1 (.ofg hg rfl) (At.blkL (.there .here) q0))) rfl ?_;refine tr_vG1 rfl rfl inferInstance (fun hg hgp=>(rk_eqls (.ofg hg rfl) (.of rfl))) rfl ?_;refine tr_val (rk_pick_or (.of rfl) rfl) rfl ?_;refine n_t ?_;refine c_b rfl (fun hcd=>?_) (fun hcd=>?_);refine s_r ?_;refine m_v rfl rfl ?_;refine m_v rfl rfl ?_;refine tr_val (rk_nilCheck (.of rfl)) rfl ?_;refine f_a rfl rfl norm0_ ?_;refine tr_store (.of rfl) (.of rfl) .here rfl rfl (okc_cons rfl okc_nil) (lenb rfl) norm_ ?_;refine tr_val (rk_nilCheck (.of rfl)) rfl ?_;refine f_a rfl rfl norm0_ ?_;refine tr_store (.of rfl) (.of rfl) .here rfl rfl (okc_cons rfl okc_nil) (lenb rfl) norm_ ?_;refine n_r ?_;refine a_s rfl rfl ?_;refine n_t ?_;refine r_t ?_;rotate_left;refine s_t ?_;refine s_r ?_;refine m_v rfl rfl ?_;refine tr_val (rk_nilCheck (.of rfl)) rfl ?_;refine f_a rfl rfl norm0_ ?_;refine tr_val (rk_load1 (.of rfl) (At.lit .here rfl)) rfl ?_;refine tr_val (rk_indexAddr (.of rfl) (.of rfl) rfl (by omega) (by omega) norm1_) rfl ?_;refine tr_val (rk_load1 (.of rfl) (At.blkL (.there .here) q0)) rfl ?_;refine a_s rfl rfl ?_;refine n_r ?_;refine m_v rfl rfl ?_;refine m_v rfl rfl ?_;refine tr_val (rk_nilCheck (.of rfl)) rfl ?_;refine f_a rfl rfl norm0_ ?_;refine tr_val (rk_load1 (.of rfl) (At.lit .here rfl)) rfl ?_;refine tr_val (rk_slice_l (.of rfl) (.of rfl) (by omega) (by omega)) rfl ?_;refine tr_val (rk_nilCheck (.of rfl)) rfl ?_;refine f_a rfl rfl norm0_ ?_;refine tr_store (.of rfl) (.of rfl) .here rfl rfl (okc_cons rfl okc_nil) (lenb rfl) norm_ ?_;refine n_r ?_;refine m_v rfl rfl ?_;refine a_s rfl rfl ?_;refine n_t ?_;refine tr_ret ?_;rotate_right)
      · have e:wd ws k = []:=by
          rcases hcd with h | h
          · omega
          · exact bsL_eq_nil.1 h
        rw [show wdR ws (some k) = ([],none,true) from if_neg fun h=>h.2 e]
        first | with_reducible apply tr_retM | with_reducible apply tr_endM
        case he=>exact ends1 rfl rfl
        case hR=>
          intro w' hm'
          exact gives_end () trivial (show Takes _ [blk b (.cells #[.slice none 0 0,.bool (wr || true)] 299),blk g (.cells (strs ws).toArray 9)] _ by rw [Bool.or_true];exact .cons .here (.cons .here .nil)) hm' rfl
      · have e:¬ wd ws k = []:=fun e=>hcd.2 (bsL_eq_nil.2 e)
        rw [show wdR ws (some k) = (wd ws k,some (k + 1),false) from if_pos ⟨hk,e⟩]
        rw [show Int.toNat 1 = 1 from rfl,tkV_next hk]
        first | with_reducible apply tr_retM | with_reducible apply tr_endM
        case he=>exact ends1 rfl rfl
        case hR=>
          intro w' hm'
          exact gives_end () trivial (show Takes _ [blk b (.cells #[tkV g ws.length (some (k + 1)),.bool (wr || false)] 299),blk g (.cells (strs ws).toArray 9)] _ by rw [Bool.or_false];exact .cons .here (.cons .here .nil)) hm' rfl
    · obtain rfl:k = ws.length:=by have:=hst k rfl;omega
      rw [if_neg hk,Nat.sub_self]
      (refine s_r ?_;refine a_s rfl rfl ?_;refine n_t ?_;refine tr_seq ?_;refine s_r ?_;refine m_v rfl rfl ?_;refine tr_val (rk_nilCheck (.of rfl)) rfl ?_;refine f_a rfl rfl norm0_ ?_;refine tr_val (rk_load1 (.of rfl) (At.lit .here rfl)) rfl ?_;refine tr_val (rk_len_slice (.of rfl)) rfl ?_;refine tr_val (rk_eqlT (.of rfl) (.of rfl) hc) rfl ?_;refine m_v rfl rfl ?_;refine tr_gOff rfl rfl rfl ?_;refine tr_gOff rfl rfl rfl ?_;refine tr_gOff rfl rfl rfl ?_;refine tr_gOff rfl rfl rfl ?_;refine tr_gOff rfl rfl rfl ?_;refine tr_gOff rfl rfl rfl ?_;refine tr_gOff rfl rfl rfl ?_;refine tr_val (rk_pickB (.of rfl) (.of rfl) (.of rfl) rfl) rfl ?_;refine n_t ?_;refine tr_cond_t (.of rfl) ?_;refine s_r ?_;refine m_v rfl rfl ?_;refine m_v rfl rfl ?_;refine tr_val (rk_nilCheck (.of rfl)) rfl ?_;refine f_a rfl rfl norm0_ ?_;refine tr_store (.of rfl) (.of rfl) .here rfl rfl (okc_cons rfl okc_nil) (lenb rfl) norm_ ?_;refine tr_val (rk_nilCheck (.of rfl)) rfl ?_;refine f_a rfl rfl norm0_ ?_;refine tr_store (.of rfl) (.of rfl) .here rfl rfl (okc_cons rfl okc_nil) (lenb rfl) norm_ ?_;refine n_r ?_;refine a_s rfl rfl ?_;refine n_t ?_;refine r_t ?_)
      skip
      rw [show wdR ws (some ws.length) = ([],none,true) from if_neg fun h=>hk h.1]
      first | with_reducible apply tr_retM | with_reducible apply tr_endM
      case he=>exact ends1 rfl rfl
      case hR=>
        intro w' hm'
        exact gives_end () trivial (show Takes _ [blk b (.cells #[.slice none 0 0,.bool (wr || true)] 299),blk g (.cells (strs ws).toArray 9)] _ by rw [Bool.or_true];exact .cons .here (.cons .here .nil)) hm' rfl
theorem takeN_c {b g:Nat} {ws:List (List UInt8)} {st:Option Nat} {wr:Bool} {w:World} {fp:List Nat} (hst:∀ k,st = some k → k ≤ ws.length) (hl:ws.length ≤ 5001) (hn:fp.Nodup) (hs:Sats (hp w) [blk b (.cells #[tkV g ws.length st,.bool wr] 299),blk g (.cells (strs ws).toArray 9)] fp) :
    Gives Tryz.prog 201 [.pointer (some ⟨b,0,none⟩)] w fp (fun _:Unit=>True) (fun _=>.int .i64 (intV (wdR ws st).1)) (fun _=>[blk b (.cells #[tkV g ws.length (wdR ws st).2.1,.bool ((wr || (wdR ws st).2.2) || !numB (wdR ws st).1)] 299),blk g (.cells (strs ws).toArray 9)]):=by
  refine givesM_of_tr Tryz.func201 rfl rfl hn hs ?_
  (refine s_r ?_;refine a_s rfl rfl ?_;refine n_r ?_;refine m_v rfl rfl ?_)
  with_reducible apply tr_call
  case hr=>exact rk_call (.of rfl) (.cons (.of rfl) .nil) inferInstance normc_
  case hd=>rfl
  case hc=>exact fun w1 fp1 hm1 hn1 hs1=>takeW_c (g:=g) (wr:=wr) hst hl hn1 hs1
  case ht=>exact .cons .here (.cons .here .nil)
  intro _ _
  dsimp only [List.cons_append,List.nil_append]
  generalize wdR ws st = R
  obtain ⟨r,st',f⟩:=R
  dsimp only
  have hint:∀ w',GivesV Tryz.prog 219 [.string (bsL r)] w' (.tuple #[.int .i64 (intV r),.bool (numB r)]):=fun w'=>by
    have:=integer_p (bsL r) w'
    rwa [toL_bsL] at this
  with_reducible apply tr_callV
  case hr=>exact rk_call (.of rfl) (.cons (.of rfl) .nil) inferInstance normc_
  case hd=>rfl
  case hc=>
    intro w' hm'
    exact hint w'
  (refine m_v rfl rfl ?_;refine tr_val (rk_extract (.of rfl) rfl) rfl ?_;refine tr_val (rk_extract (.of rfl) rfl) rfl ?_;refine a_s rfl rfl ?_;refine a_s rfl rfl ?_;refine n_r ?_;refine m_v rfl rfl ?_;refine m_v rfl rfl ?_;refine tr_val (rk_nilCheck (.of rfl)) rfl ?_;refine f_a rfl rfl norm0_ ?_;refine tr_val (rk_load1 (.of rfl) (At.lit .here rfl)) rfl ?_;refine m_v rfl rfl ?_;refine v_g rfl rfl rfl rfl ?_;refine tr_vG1 rfl rfl inferInstance (fun hg hgp=>(rk_not (.ofg hg rfl))) rfl ?_;refine tr_val (rk_pick_or (.of rfl) rfl) rfl ?_;refine tr_val (rk_nilCheck (.of rfl)) rfl ?_;refine f_a rfl rfl norm0_ ?_;refine tr_store (.of rfl) (.of rfl) .here rfl rfl (okc_cons rfl okc_nil) (lenb rfl) norm_ ?_;refine n_r ?_;refine m_v rfl rfl ?_;refine a_s rfl rfl ?_;refine n_t ?_;refine tr_ret ?_)
  first | with_reducible apply tr_retM | with_reducible apply tr_endM
  case he=>exact ends1 rfl rfl
  case hR=>
    intro w' hm'
    exact gives_end () trivial (show Takes _ [blk b (.cells #[tkV g ws.length st',.bool ((wr || f) || !numB r)] 299),blk g (.cells (strs ws).toArray 9)] _ by exact .cons .here (.cons .here .nil)) hm' rfl
end Go.Proofs.A1
namespace Go.Proofs.A1
open Go Go.SL Go.ChangeShapes Go.WideShapes Go.Deep Go.Joins
theorem ret_shaped_and {H:Type} {enc:TypeId × Value → H} {a:Assume} {C:Checked} {os:Os} {f:FuncId} {fn:Func} {s:ChangeSpec} {conds:List PathCond} {apart fresh handsOn again:Bool} {X:World → Array Value → Prop}
    (hX:∀ (w w':World) (args:Array Value),w.heap = w'.heap → X w args → X w' args)
    (own:ownKnob C.prog.godebug = none) (started:os.Started) (noInit:C.prog.inits.idxOf? f = none) (hfn:C.prog.funcs[f]? = some fn)
    (witness:∃ (w:World) (tape:Tape) (i:Input),w.os = os ∧ (w.forCall tape i).Shaped C.prog ∧ i.vars = [] ∧ Input.okWide C.prog (w.forCall tape i) .any w.heap.size f i ∧
      ((s.pre enc C.prog fn conds apart (w.forCall tape i).memory i.args ∧ X (w.forCall tape i).memory i.args) ∧ sizedMet enc C.prog fn (OpenSpec.ofChange s) apart (w.forCall tape i).memory i.args) ∧ a.holds C.prog (lone (Frame.enter C.prog f i.args .normal) [] (w.forCall tape i)))
    (contract:∀ (W:World) (base:Nat) (args:Array Value) (ds gs:List (DataW H)) (before:List MemPlace),
      (∀ (j:Nat) t v,fn.params[j]? = some t → args[j]? = some v → Value.okWide C.prog W .any base t v) →
      DataW.Whole enc C.prog fn.params.toList s.vars apart W args.toList ds gs before →
      conds.all (PathCond.test C.prog ⟨fn.params.toList,ds,s.plain.varTypes C.prog,gs⟩) = true →
      (DataW.weightsEach C.prog (fn.params.toList++s.plain.varTypes C.prog) (ds++gs)).all (· ≤ reachBytes) = true → X W args → W.ShapedOpen C.prog →
      a.holds C.prog (lone (Frame.enter C.prog f args .normal) [] W) →
      Calls C.prog f args W fun e W'=>∃ v,e = .returned v ∧ s.post enc C.prog fn apart fresh handsOn again W args v W') :
    ReturnsInHanded a C os f .any (fun w args=>(s.pre enc C.prog fn conds apart w args ∧ X w args) ∧ sizedMet enc C.prog fn (OpenSpec.ofChange s) apart w args) (s.post enc C.prog fn apart fresh handsOn again):=by
  refine returnsInHanded_of_calls own started noInit witness ?_
  intro w tape i _ hsh _ hok hpre hholds
  obtain ⟨_,_,_,fn',hfn',_,_,_,_,hval⟩:=hok
  have e:fn' = fn:=Option.some.inj (hfn'.symm.trans hfn)
  subst e
  obtain ⟨⟨⟨ds,gs,before,hw,hc⟩,hx⟩,hz⟩:=hpre
  have hw':=DataW.Whole.of_heap (w':=w.forCall tape i) (by rfl) hw
  refine (contract (w.forCall tape i) w.heap.size i.args ds gs before hval hw' hc (hz.weights hw) (hX _ _ _ (by rfl) hx) hsh hholds).mono fun e W' ⟨v,he,hp⟩=>?_
  subst he
  exact ChangeSpec.post_blind hp
theorem maxl_of {W:World} (h:W.ShapedOpen Tryz.prog):MaxL W:=
  cell_of_shapedOpen_int (g:=1) (t:=3) (zero:=#[.int .i64 0]) (k:=.i64) h (of_decide_eq_true (by kernel_rfl)) (by kernel_rfl) rfl (by kernel_rfl) (by kernel_rfl) Tryz.underlying3
theorem of_laid6 {W:World} (h:laidMetH Tryz.prog YtfbgbipclgljaaaGreatDoor.Rows.scheduleTextsRow.laid W):Glob W ∧ Tab10 W:=by
  rw [MakeChecks.laidMetH_plain _ _ _ (by kernel_rfl)] at h
  obtain ⟨ps,⟨g0,t0,cs0,f0,p0,q0,hg0,ht0,hv0,hd0,⟨g1,t1,cs1,f1,p1,q1,hg1,ht1,hv1,hd1,⟨g2,t2,cs2,f2,p2,q2,hg2,ht2,hv2,hd2,⟨g4,t4,cs4,f4,p4,q4,hg4,ht4,hv4,hd4,⟨g3,t3,cs3,f3,p3,q3,hg3,ht3,hv3,hd3,_,_⟩,_⟩,_⟩,_⟩,_⟩,_,_⟩:=h
  obtain rfl:=Option.some.inj ((show Tryz.prog.globalNamed "internal/strconv.uint64pow10" = some 2 by kernel_rfl).symm.trans hg2)
  obtain rfl:=Option.some.inj ((show (Tryz.prog.globals[2]?).map (·.type) = some 351 by kernel_rfl).symm.trans ht2)
  obtain rfl:=Option.some.inj ((show Tryz.prog.globalNamed "genlock/schedule.names" = some 0 by kernel_rfl).symm.trans hg3)
  obtain rfl:=Option.some.inj ((show (Tryz.prog.globals[0]?).map (·.type) = some 229 by kernel_rfl).symm.trans ht3)
  refine ⟨?_,?_⟩
  · obtain ⟨xs,m,_,ex,_,hl,hel⟩:=DataW.trod_array Tryz.underlying229 hd3
    have e3:(xs.map (·.1)) = [.lit (.string [102,105,120,101,100]),.lit (.string [102,111,108,108,111,119,105,110,103]),.lit (.string [109,97,110,117,97,108])]:=(DataW.agg.inj (Prod.mk.inj ex).1).symm
    have key:∀ (i:Nat) (l:List UInt8) (s:ByteArray),i < 3 → (xs.map (·.1))[i]? = some (.lit (.string l)) → s.data.toList = l → W.cell? ⟨0,i,none⟩ = some (.string s):=fun i l s hi h1 hs=>by
      have hE:=hel i hi
      rw [c9,Nat.mul_one,List.getElem?_eq_getElem (by omega)] at hE
      obtain ⟨z,e1,e2,_⟩:=DataW.trod_string Tryz.underlying9 hE
      rw [List.getElem?_map,List.getElem?_eq_getElem (by omega:i < xs.length),e2] at h1
      simp only [Option.map_some,Option.some.injEq,DataW.lit.injEq,Lit.string.injEq] at h1
      have hz:z = s:=by
        have:z.data = s.data:=Array.ext' (h1.trans hs.symm)
        cases z;cases s;simpa using this
      subst hz
      rw [World.var?_cell hg3 hv3 i]
      have:cs3.toList[i]? = some (.string z):=by
        have h0:((cs3.toList.drop i).take 1)[0]? = some (.string z):=by rw [e1];rfl
        simpa using h0
      simpa using this
    exact ⟨key 0 _ sFix (by omega) (by rw [e3];rfl) rfl,key 1 _ sFol (by omega) (by rw [e3];rfl) rfl,key 2 _ sMan (by omega) (by rw [e3];rfl) rfl⟩
  · have hd2':DataW.trod _ Tryz.prog W 0 _ false f2 351 cs2.toList = some (Lib.tabData .u64 Lib.pow10Tab,p2):=hd2
    unfold Tab10 Lib.TabIs
    rw [hv2,← Lib.cells_of_tab Tryz.underlying351 (by kernel_rfl) (by kernel_rfl) (by kernel_rfl) hd2']
end Go.Proofs.A1
namespace Go.Proofs.YtfbgbipclgljaaaGreatDoor
open Go Go.SL Go.Proofs.A1 Go.ChangeShapes Go.WideShapes Go.ChangeAt Go.RowKit Go.Joins
section
variable {H:Type} {enc:TypeId × Value → H} {P:Program}
theorem post_of_below {f:Func} {s:ChangeSpec} {apart fresh handsOn again:Bool} {W W':World} {args:Array Value} {v:Value} {ds gs:List (DataW H)} {before pa pv:List MemPlace}
    (hW:DataW.Whole enc P f.params.toList s.vars apart W args.toList ds gs before)
    (hres:∀ (b:Nat) (sp:Nat → Bool) (hd:Bool),DataW.TrodAll enc P W' b sp hd f.resultTypes.toList (v.resultList f.resultTypes.size) (s.fn H (ds++gs)).results [])
    (hargs:∀ sp:Nat → Bool,(∀ p ∈ before,sp p.block = true) → DataW.TrodAll enc P W' 0 sp true f.params.toList args.toList (s.fn H (ds++gs)).args pa)
    (hvars:∀ sp:Nat → Bool,(∀ p ∈ before,sp p.block = true) → DataW.TrodVars enc P W' sp s.vars (s.fn H (ds++gs)).vars pv)
    (hps:before = pa++pv) (hb:Below W.heap.size W W')
    (hok:∀ (j:Nat) (t:TypeId) (r:Value),f.resultTypes[j]? = some t → (v.resultList f.resultTypes.size)[j]? = some r → Value.okWide P W' .any 0 t r) :
    s.post enc P f apart fresh handsOn again W args v W':=by
  have hlt:∀ p ∈ before,p.block < W.heap.size:=fun p hp=>hW.lt p hp
  have hold:∀ p ∈ before,(fun b=>decide (b < W.heap.size)) p.block = true:=fun p hp=>by simpa using hlt p hp
  refine ⟨ds,gs,before,[],pa,pv,hW,hres _ _ _,hargs _ hold,hvars _ hold,World.keptBut_mono (fun p hp=>⟨hp,?_⟩) (hb.frame (· ∈ before)),fun _=>?_⟩
  · rw [hps,List.mem_append] at hp
    exact Or.inr hp
  · obtain ⟨_,_,_,_,_,hz,hn⟩:=hW
    refine ⟨hok,_,_,([]++pa)++pv,⟨[]++pa,pv,trodAll_append (hargs _ (fun _ _=>rfl)) (hres _ _ _),hvars _ (fun _ _=>rfl),rfl,?_,?_⟩,?_⟩
    · intro b off hp
      have hin:MemPlace.cell b off ∈ before:=by rw [hps];simpa using hp
      rw [hb.frozen (hlt _ hin)]
      exact hz b off hin
    · intro ha
      have:=hn ha
      rw [hps] at this
      simpa using this
    · intro p hp _
      rw [hps]
      simpa using hp
end
end Go.Proofs.YtfbgbipclgljaaaGreatDoor
namespace Go.Proofs.A1
open Go Go.SL Go.ChangeShapes Go.WideShapes Go.Deep Go.Joins
section
variable {H:Type} {enc:TypeId × Value → H} {w:World}
theorem list1 {α:Type}:∀ {l:List α},l.length = 1 → ∃ a,l = [a]
  | [a],_=>⟨a,rfl⟩
theorem c4:Tryz.prog.cellsOf 4 = 1:=by kernel_rfl
theorem cells24 {n:Nat} {cs:List Value} {x:DataW H × List MemPlace} (h:DataW.trod enc Tryz.prog w 0 (fun _=>true) true n 24 cs = some x):∃ (a0:Value),cs = [a0] ∧ (∃ (m:Nat) (y:DataW H × List MemPlace),DataW.trod enc Tryz.prog w 0 (fun _=>true) true m 22 [a0] = some y):=by
  obtain ⟨ys,n0,_,_,hlen,hyl,hf⟩:=DataW.trod_struct Tryz.underlying24 h
  rw [c24] at hlen
  have hyl0:ys.length = 1:=hyl
  obtain ⟨k0,rfl⟩:=list1 hlen
  have f0_0:DataW.trod enc Tryz.prog w 0 (fun _=>true) true n0 22 (List.take (Tryz.prog.cellsOf 22) (List.drop 0 [k0])) = ys[0]?:=hf 0 _ rfl
  rw [c22,List.getElem?_eq_getElem (by omega)] at f0_0
  exact ⟨k0,rfl,⟨_,_,by simpa using f0_0⟩⟩
theorem open_sched {n:Nat} {sv:Value} {x:DataW H × List MemPlace} (h:DataW.trod enc Tryz.prog w 0 (fun _=>true) true n 24 [sv] = some x):∃ es,Rd w sv 6 (ensL es):=by
  obtain ⟨a,e,m,y,h2⟩:=cells24 h
  simp only [List.cons.injEq,and_true] at e
  subst e
  exact open_ens h2
end
end Go.Proofs.A1
