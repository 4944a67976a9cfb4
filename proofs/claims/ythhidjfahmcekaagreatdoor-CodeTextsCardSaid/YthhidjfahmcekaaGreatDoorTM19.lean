/- Parts of the proof: U4A U4B TryzSplit U4C. -/
import Derived.Test.YthhidjfahmcekaaGreatDoorTM08
import Derived.Test.YthhidjfahmcekaaGreatDoorTM10
import Derived.Test.YthhidjfahmcekaaGreatDoorTM07
import Derived.Test.YthhidjfahmcekaaGreatDoorTM05
import Derived.Test.YthhidjfahmcekaaGreatDoorTM06
import Derived.Test.YthhidjfahmcekaaGreatDoorTM09
import Derived.Shelf.Strings.Split
import Derived.Shelf.Strings.Search3
import Derived.Ground.NamesProg
import Derived.Ground.Names2Prog
import Derived.Test.YthhidjfahmcekaaGreatDoorProg
import Derived.Test.YthhidjfahmcekaaGreatDoorTM18
import Derived.Test.YthhidjfahmcekaaGreatDoorTM14
set_option linter.unusedSectionVars false
set_option linter.unusedVariables false
set_option linter.unusedSimpArgs false
namespace Go.Proofs.A1
open Go Go.SL
theorem tr_rowLitF {c:Cx} {D:List Nat} {sl:Slots} {hs hs':List Asn} {X:Act → World → Prop} {E:TypeId} {g:Nat} {xs ys:List Value} (n sz:Nat) (ht:Take hs (blk g (.cells xs.toArray E (0,0))) hs') (he:xs = ys) (hl:ys.length = n * sz) (hn:Nat.ble n 1000 = true)
    (k:Tr c D sl (row E sz (.slice (some ⟨g,0,none⟩) n n) n ys :: hs') X):Tr c D sl hs X:=by
  subst he
  exact tr_rowShut (n:=n) (cap:=n) (cur:=[]) (by rw [List.append_nil];exact ht) (Nat.le_refl _) (by unfold maxLen;have:=Nat.le_of_ble_eq_true hn;omega) (by rw [List.append_nil,hl]) hl k
def strs (ls:List (List UInt8)):List Value:=ls.map fun l=>Value.string (bsL l)
theorem strs_length (ls:List (List UInt8)):(strs ls).length = ls.length:=by simp [strs]
theorem strs_strB (ls:List (List UInt8)):strs ls = (ls.map bsL).map Value.string:=by simp [strs]
theorem bt_at {s:ByteArray} {i:Nat} {l r:List UInt8} {x:UInt8} (h:toL s = l++x :: r) (hi:l.length = i):(((s.data.toList[i]?.getD 0).toNat:Nat):Int) = x.toNat:=by
  rw [show s.data.toList = l++x :: r from h,List.getElem?_append_right (by omega),hi,Nat.sub_self];rfl
theorem toL_split {s:ByteArray} {i:Nat} (h:i < s.size):∃ x r,toL s = (toL s).take i++x :: r ∧ (toL s).take (i + 1) = (toL s).take i++[x] ∧ (toL s)[i]? = some x:=by
  have hl:i < (toL s).length:=by rw [← size_toL];exact h
  refine ⟨(toL s)[i],(toL s).drop (i + 1),?_,?_,List.getElem?_eq_getElem hl⟩
  · rw [← List.drop_eq_getElem_cons hl,List.take_append_drop]
  · rw [List.take_succ_eq_append_getElem hl]
theorem strs_set {l:List (List UInt8)} {x:List UInt8} (h:l ≠ []) (cur:List Value):setCells (strs l++cur) ((l.length - 1) * 1) [Value.string (bsL x)] = strs (l.dropLast++[x])++cur:=by
  have hp:0 < l.length:=List.length_pos_iff.2 h
  apply List.ext_getElem?
  intro k
  rw [setCells_get _ _ _ _ (by simp [strs];omega)]
  simp only [List.length_singleton,Nat.mul_one]
  by_cases hk:k < l.length - 1
  · rw [if_neg (by omega),List.getElem?_append_left (by rw [strs_length];omega),List.getElem?_append_left (by simp [strs];omega)]
    simp only [strs,List.getElem?_map]
    rw [List.getElem?_append_left (by simp;omega),List.getElem?_dropLast,if_pos hk]
  · by_cases hk2:k = l.length - 1
    · subst hk2
      rw [if_pos (by omega),List.getElem?_append_left (by simp [strs])]
      simp only [strs,List.getElem?_map]
      rw [List.getElem?_append_right (by simp)]
      simp
    · rw [if_neg (by omega),List.getElem?_append_right (by rw [strs_length];omega),List.getElem?_append_right (by simp [strs];omega)]
      simp [strs]
      congr 1
      omega
theorem strs_last {l:List (List UInt8)} (h:l ≠ []) (cur:List Value):(strs l++cur)[(l.length - 1) * 1]? = some (.string (bsL (l.getLastD []))):=by
  have hp:0 < l.length:=List.length_pos_iff.2 h
  rw [Nat.mul_one,List.getElem?_append_left (by rw [strs_length];omega)]
  simp only [strs,List.getElem?_map]
  rw [List.getLastD_eq_getLast?,List.getLast?_eq_getElem?]
  rw [List.getElem?_eq_getElem (by omega)]
  rfl
theorem split_q {s:ByteArray} {c:UInt8} (hs:s.size ≤ 5000) (w:World):Gives Tryz.prog 154 [.string s,.int .u8 (c.toNat:Nat)] w [] (fun _:Value=>True) id (fun v=>[row 9 1 v (splL c (toL s)).length (strs (splL c (toL s)))]):=by
  refine gives_of_tr Tryz.func154 rfl rfl ?_
  (refine s_r ?_;refine a_s rfl rfl ?_;refine n_r ?_;refine tr_new (rk_sliceLit (.cons (.of rfl) .nil) rfl rfl rfl rfl) rfl (fun _ _=>?_);refine a_s rfl rfl ?_;refine n_t ?_;refine tr_seq ?_;refine s_r ?_;refine a_s rfl rfl ?_;refine n_t ?_;refine tr_block ?_)
  rename_i b hb
  refine tr_rowLitF (g:=b) (E:=9) (ys:=[.string ⟨#[]⟩]) 1 1 (by exact .here) (by exact rfl) rfl rfl ?_
  refine tr_for (ι:=Nat × Value) (fun x=>x.1 ≤ s.size) (fun x=>[(6,.int .i64 (x.1:Int)),(5,x.2),(0,.string s),(1,.int .u8 (c.toNat:Nat))])
    (fun x=>[row 9 1 x.2 (splL c ((toL s).take x.1)).length (strs (splL c ((toL s).take x.1)))]) (fun x=>s.size - x.1) ?_ ?_
  · apply tr_start (0,.slice (some ⟨b,0,none⟩) 1 1) (Nat.zero_le _)
    case hs1=>exact .cons rfl (.cons rfl (.cons rfl (.cons rfl .nil)))
    case ht=>
      show Takes _ [row 9 1 (.slice (some ⟨b,0,none⟩) 1 1) 1 [.string ⟨#[]⟩]] _
      exact .cons .here .nil
  rintro ⟨i,v⟩ hi
  dsimp only at hi ⊢
  by_cases hlt:i < s.size
  · obtain ⟨x,r,hx1,hx2,hx3⟩:=toL_split hlt
    have hb0:=bt_at (i:=i) hx1 (by rw [List.length_take,← size_toL];omega)
    have hle:=splL_le c ((toL s).take i)
    have hpos:=splL_pos c ((toL s).take i)
    have hne:=splL_ne c ((toL s).take i)
    have hsn:=splL_snoc c x ((toL s).take i)
    rw [← hx2] at hsn
    rw [List.length_take,← size_toL] at hle
    have hmin:min i s.size = i:=by omega
    rw [hmin] at hle
    refine tr_rowSl (E:=9) (sz:=1) (v:=v) (by exact .here) fun va vc e=>?_
    subst e
    have hbx:¬ x = c → ¬ (((s.data.toList[((i:Nat):Int).toNat]?.getD 0).toNat:Nat):Int) = (c.toNat:Nat):=fun h e=>by
      rw [Int.toNat_natCast,hb0] at e
      exact h (UInt8.toNat.inj (by omega))
    (refine tr_seq ?_;refine s_r ?_;refine m_v rfl rfl ?_;refine m_v rfl rfl ?_;refine tr_val (rk_len_string (.of rfl)) rfl ?_;refine tr_val (rk_lss (.of rfl) (.of rfl)) rfl ?_;refine n_t ?_;refine c_d rfl (fun hcd=>?_) (fun _=>by omega);refine s_t ?_;refine tr_seq ?_;refine tr_block ?_;refine tr_seq ?_;refine s_r ?_;refine m_v rfl rfl ?_;refine m_v rfl rfl ?_;refine tr_val (rk_indexS (.of rfl) (.of rfl) (by omega) hcd) rfl ?_;refine m_v rfl rfl ?_;refine tr_val (rk_eql (.of rfl) (.of rfl)) rfl ?_;refine n_t ?_;refine c_d rfl (fun hcd=>?_) (fun hcd=>?_);refine s_r ?_;refine m_v rfl rfl ?_;refine tr_new (rk_sliceLit (.cons (.of rfl) .nil) rfl rfl rfl rfl) rfl (fun _ _=>?_);rotate_left;refine s_t ?_;rotate_right)
    · have hxc:x = c:=Decidable.byContradiction fun h=>hbx h hcd
      rw [if_pos hxc] at hsn
      refine tr_appendB (.of rfl) (.of rfl) (.there .here) .here norm_ (by rfl) (okc_cons rfl okc_nil) (by rfl) (by rfl) (by rfl) lenx_ (by rfl) ?_
      intro v'
      (refine a_s rfl rfl ?_;refine n_t ?_;refine x_t ?_;refine tr_blk_exit ?_;refine tr_then ?_;refine tr_region ?_;refine m_v rfl rfl ?_;refine tr_val (rk_add (.of rfl) (.of rfl) (ini (by omega))) rfl ?_;refine a_s rfl rfl ?_;refine n_t ?_)
      apply tr_next (i + 1,v') (show (fun x:Nat × Value=>x.1 ≤ s.size) (i + 1,v') from hlt) (by show s.size - (i + 1) < s.size - i;omega)
      case hs1=>exact .cons rfl (.cons rfl (.cons rfl (.cons rfl .nil)))
      case ht=>
        show Takes _ [row 9 1 v' (splL c ((toL s).take (i + 1))).length (strs (splL c ((toL s).take (i + 1))))] _
        rw [hsn,List.length_append,List.length_singleton,show strs (splL c ((toL s).take i)++[[]]) = strs (splL c ((toL s).take i))++[.string ⟨#[]⟩] by simp only [strs,List.map_append];rfl]
        exact .cons .here .nil
    · have hxc:¬ x = c:=fun h=>hcd (by rw [Int.toNat_natCast,hb0,h])
      rw [if_neg hxc] at hsn
      refine tr_rowOpen (E:=9) (sz:=1) (v:=.slice va (splL c ((toL s).take i)).length vc) (by exact .here) hpos fun g gcap gcur e hk1 hx1' hz1 hl1=>?_
      obtain ⟨rfl,-,rfl⟩:=Value.slice.inj e
      unfold maxLen at hx1'
      have q0:=strs_last hne gcur
      have q1:=strs_set (x:=(splL c ((toL s).take i)).getLastD []++[x]) hne gcur
      have q2:((splL c ((toL s).take i)).length - 1) * 1 + 1 ≤ (strs (splL c ((toL s).take i))++gcur).length:=by
        rw [List.length_append,strs_length];omega
      have e1:(((splL c ((toL s).take i)).length:Int) - 1).toNat = (splL c ((toL s).take i)).length - 1:=by omega
      rw [← e1] at q0 q1 q2
      have hex:toL (s.extract ((i:Nat):Int).toNat (((i:Nat):Int) + 1).toNat) = [x]:=by
        rw [show ((i:Nat):Int).toNat = i by omega,show (((i:Nat):Int) + 1).toNat = i + 1 by omega,toL_extract,hx2]
        exact List.drop_left' (by rw [List.length_take,← size_toL];omega)
      have hsz2:(s.extract ((i:Nat):Int).toNat (((i:Nat):Int) + 1).toNat).size = 1:=by rw [size_toL,hex];rfl
      have hsz1:(bsL ((splL c ((toL s).take i)).getLastD [])).size ≤ 5000:=by
        rw [bsL_size]
        have hm:(splL c ((toL s).take i)).getLastD [] ∈ splL c ((toL s).take i):=by
          rw [List.getLastD_eq_getLast?,List.getLast?_eq_some_getLast hne]
          exact List.getLast_mem hne
        have:=splL_len c _ _ hm
        rw [List.length_take,← size_toL] at this
        omega
      have hval:bsL ((splL c ((toL s).take i)).getLastD [])++s.extract ((i:Nat):Int).toNat (((i:Nat):Int) + 1).toNat = bsL ((splL c ((toL s).take i)).getLastD []++[x]):=toL_inj (by rw [toL_append,toL_bsL,toL_bsL,hex])
      with_reducible refine tr_draw 17 (by kernel_rfl) ?_
      (refine a_m rfl rfl ?_;refine a_m rfl rfl ?_;refine any_val (rk_len_slice (.of rfl)) rfl ?_;refine any_val (rk_sub (.of rfl) (.of rfl) (ini (by omega))) rfl ?_;refine a_m rfl rfl ?_;refine a_m rfl rfl ?_;refine any_val (rk_len_slice (.of rfl)) rfl ?_;refine any_val (rk_sub (.of rfl) (.of rfl) (ini (by omega))) rfl ?_;refine any_val (rk_indexAddr (.of rfl) (.of rfl) rfl (by omega) (by omega) norm1_) rfl ?_;refine any_val (rk_load1 (.of rfl) (At.blkL .here q0)) rfl ?_;refine a_m rfl rfl ?_;refine a_m rfl rfl ?_;refine a_m rfl rfl ?_;refine any_val (rk_add (.of rfl) (.of rfl) (ini (by omega))) rfl ?_;refine any_val (rk_sliceS_lh (.of rfl) (.of rfl) (.of rfl) (by omega) (by omega) (by omega)) rfl ?_;refine any_val (rk_cat (.of rfl) (.of rfl) (by omega)) rfl ?_;refine any_val (rk_indexAddr (.of rfl) (.of rfl) rfl (by omega) (by omega) norm1_) rfl ?_)
      with_reducible refine any_end ?_
      rw [hval]
      refine tr_store (.of rfl) (.of rfl) .here rfl rfl (okc_cons rfl okc_nil) q2 q1 ?_
      (refine tr_nil ?_;refine tr_blk_normal ?_;refine tr_then ?_;refine tr_region ?_;refine m_v rfl rfl ?_;refine tr_val (rk_add (.of rfl) (.of rfl) (ini (by omega))) rfl ?_;refine a_s rfl rfl ?_;refine n_t ?_)
      have e2:(splL c ((toL s).take (i + 1))).length = (splL c ((toL s).take i)).length:=by rw [hsn,List.length_append,List.length_dropLast,List.length_singleton];omega
      refine tr_rowShut (E:=9) (sz:=1) (n:=(splL c ((toL s).take i)).length) (cap:=vc) (xs:=strs (splL c ((toL s).take (i + 1)))) (cur:=gcur) (g:=g) (by rw [hsn];exact .here) hk1 (by unfold maxLen;omega) (by rw [List.length_append,strs_length] at hz1 ⊢;rw [e2];exact hz1) (by rw [strs_length,Nat.mul_one,e2]) ?_
      apply tr_next (i + 1,.slice (some ⟨g,0,none⟩) (splL c ((toL s).take i)).length vc) (show (fun x:Nat × Value=>x.1 ≤ s.size) (i + 1,.slice (some ⟨g,0,none⟩) (splL c ((toL s).take i)).length vc) from hlt) (by show s.size - (i + 1) < s.size - i;omega)
      case hs1=>exact .cons rfl (.cons rfl (.cons rfl (.cons rfl .nil)))
      case ht=>
        show Takes _ [row 9 1 (.slice (some ⟨g,0,none⟩) (splL c ((toL s).take i)).length vc) (splL c ((toL s).take (i + 1))).length (strs (splL c ((toL s).take (i + 1))))] _
        rw [e2]
        exact .cons .here .nil
  · obtain rfl:i = s.size:=by omega
    rw [List.take_of_length_le (by rw [← size_toL];exact Nat.le_refl _)]
    (refine tr_seq ?_;refine s_r ?_;refine m_v rfl rfl ?_;refine m_v rfl rfl ?_;refine tr_val (rk_len_string (.of rfl)) rfl ?_;refine tr_val (rk_lss (.of rfl) (.of rfl)) rfl ?_;refine n_t ?_;refine c_d rfl (fun _=>by omega) (fun hcd=>?_);refine x_t ?_;refine tr_then_exit ?_;refine tr_blk_exit ?_;refine tr_then ?_;refine s_r ?_;refine m_v rfl rfl ?_;refine a_s rfl rfl ?_;refine n_t ?_;refine tr_ret ?_)
    first | with_reducible apply tr_retM | with_reducible apply tr_endM
    case he=>exact ends1 rfl rfl
    case hR=>
      intro w' hm'
      exact gives_end v trivial (show Takes _ [row 9 1 v (splL c (toL s)).length (strs (splL c (toL s)))] _ by exact .cons .here .nil) hm' rfl
theorem isD_q (c:Int) (w:World):GivesV Tryz.prog 202 [.int .u8 c] w (.bool (isD c)):=by
  refine givesV_of_tr Tryz.func202 rfl rfl ?_
  (refine s_r ?_;refine a_s rfl rfl ?_;refine n_r ?_;refine m_v rfl rfl ?_;refine tr_val (rk_leq (.of rfl) (.of rfl)) rfl ?_;refine m_v rfl rfl ?_;refine v_g rfl rfl rfl rfl ?_;refine tr_vG1 rfl rfl inferInstance (fun hg hgp=>(rk_leq (.ofg hg rfl) (.of rfl))) rfl ?_;refine tr_val (rk_pick_and (.of rfl) rfl) rfl ?_;refine a_s rfl rfl ?_;refine n_t ?_;refine tr_ret ?_;refine tr_retE rfl (ends1 rfl rfl) ?_)
  rfl
theorem text_q (m:Nat) (hm:(m:Int) ≤ 9223372036854775807) (w:World):GivesV Tryz.prog 153 [.int .i64 (m:Int)] w (.string (itoaB (m:Int))):=by
  induction m using Nat.strongRecOn generalizing w with
  | ind m ih=>
  have hw:(m:Int) < 10 → IntKind.u8.wrap (48 + (m:Int)) = 48 + (m:Int):=fun h=>u8w (by omega)
  have hw2:IntKind.u8.wrap (48 + (m:Int) % 10) = 48 + (m:Int) % 10:=u8w (by omega)
  refine givesV_of_tr Tryz.func153 rfl rfl ?_
  (refine s_r ?_;refine a_s rfl rfl ?_;refine n_t ?_;refine tr_seq ?_;refine s_r ?_;refine m_v rfl rfl ?_;refine tr_val (rk_lss (.of rfl) (.of rfl)) rfl ?_;refine n_t ?_;refine c_d rfl (fun _=>by omega) (fun hcd=>?_);refine s_t ?_;refine tr_seq ?_;refine s_r ?_;refine m_v rfl rfl ?_;refine tr_val (rk_lss (.of rfl) (.of rfl)) rfl ?_;refine n_t ?_;refine c_d rfl (fun hcd=>?_) (fun hcd=>?_);refine s_r ?_;refine m_v rfl rfl ?_;refine tr_val (rk_add (.of rfl) (.of rfl) (ini (by omega))) rfl ?_;refine tr_val (rk_conv (.of rfl)) rfl ?_;refine tr_new (rk_sliceLit (.cons (.of rfl) .nil) rfl rfl rfl rfl) rfl (fun _ _=>?_);refine tr_val (rk_convBS (.of rfl) (At.lit .here rfl)) rfl ?_;refine a_s rfl rfl ?_;refine n_t ?_;refine r_t ?_;refine tr_retE rfl (ends1 rfl rfl) ?_;rotate_left;refine s_t ?_;refine tr_seq ?_;rotate_right)
  · have hlt:m < 10:=by omega
    rw [itoaB_nat,Lib.decDigits,dif_pos hlt,hw hcd]
    rw [show (48 + (m:Int)).toNat = 48 + m by omega];rfl
  have hge:¬ m < 10:=by omega
  have ih':∀ w,GivesV Tryz.prog 153 [.int .i64 ((m:Int) / 10)] w (.string (itoaB ((m / 10:Nat):Int))):=fun w=>by
    have:=ih (m / 10) (by omega) (by omega) w
    rwa [Int.natCast_ediv] at this
  have hsz:(itoaB ((m / 10:Nat):Int)).size ≤ 100:=by
    rw [itoaB_nat,bsL_size]
    exact Nat.le_trans (decDigits_len _ 20 (by omega) (by decide)) (by decide)
  with_reducible refine tr_drawM 11 (by kernel_rfl) ?_
  (refine am_val (fun β=>(rk_move (.of rfl))) indC rfl ?_;refine am_val (fun β=>(rk_quo (.of rfl) (.of rfl) (by omega) hm (by omega))) indC rfl ?_)
  dsimp only [Nat.zero_add,Nat.reduceAdd]
  with_reducible apply am_callV (B:=[]) (F:=fun _=>.string (itoaB ((m / 10:Nat):Int))) (args:=fun _=>[.int .i64 ((m:Int) / 10)])
  case hB=>rfl
  case hr=>exact fun β=>rk_call (.of rfl) (.cons (.of rfl) .nil) inferInstance rfl
  case hi=>exact indC
  case hd=>rfl
  case hc=>exact fun β w' hb=>ih' w'
  (refine am_val (fun β=>(rk_move (.of rfl))) indC rfl ?_;refine am_val (fun β=>(rk_rem (.of rfl) (.of rfl) (by omega) (by omega))) indC rfl ?_;refine am_val (fun β=>(rk_add (.of rfl) (.of rfl) (ini (by omega)))) indC rfl ?_)
  dsimp only [Nat.reduceAdd]
  refine am_val (F:=fun _=>.int .u8 (IntKind.u8.wrap (48 + (m:Int) % 10))) (fun β=>rk_conv (.of rfl)) indC rfl ?_
  refine am_new (fun β=>(rk_sliceLit (.cons (.of rfl) .nil) rfl rfl rfl rfl)) (fun _ _ _=>rfl) rfl ?_
  refine am_valR (F:=fun _=>.string ⟨#[UInt8.ofNat (IntKind.u8.wrap (48 + (m:Int) % 10)).toNat]⟩) 7 rfl rfl (fun β=>rk_convBS (e:=5) (.of rfl) (At.lit .here rfl)) indC rfl ?_
  refine am_val (F:=fun _=>.string (itoaB ((m / 10:Nat):Int)++⟨#[UInt8.ofNat (IntKind.u8.wrap (48 + (m:Int) % 10)).toNat]⟩)) (fun β=>rk_cat (.of rfl) (.of rfl) (by show (itoaB ((m / 10:Nat):Int)).size + 1 ≤ 9223372036854775807;omega)) indC rfl ?_
  refine am_val (fun β=>(rk_assign (.of rfl))) indC rfl ?_
  refine am_end fun β=>?_
  dsimp only [resAll,List.nil_append,List.cons_append,List.append_eq,Nat.reduceAdd]
  with_reducible refine left_done (by kernel_rfl) ?_
  (refine tr_then ?_;refine tr_ret ?_;refine tr_retE rfl (ends1 rfl rfl) ?_)
  rw [hw2,itoaB_nat,itoaB_nat,Lib.decDigits.eq_def m,dif_neg hge,← bsL_append]
  congr 1
theorem isD_dg (x:UInt8):isD (x.toNat:Nat) = isDg x:=by
  unfold isD isDg
  congr 1 <;> exact decide_eq_decide.2 (by omega)
theorem digB_take {s:ByteArray} {i:Nat} {x:UInt8} (h:(toL s).take (i + 1) = (toL s).take i++[x]):digB ((toL s).take (i + 1)) = (digB ((toL s).take i) && isDg x):=by
  unfold digB;rw [h,List.all_append];simp
theorem digB_bad {l:List UInt8} {i:Nat} {x:UInt8} (hx:l[i]? = some x) (h:isDg x = false):digB l = false:=by
  unfold digB
  rw [List.all_eq_false]
  exact ⟨x,List.mem_of_getElem? hx,by rw [h];decide⟩
theorem bt_hd {s:ByteArray} (h:0 < s.size):(((s.data.toList[0]?.getD 0).toNat:Nat):Int) = ((toL s).headD 0).toNat:=by
  have hl:0 < (toL s).length:=by rw [← size_toL];exact h
  unfold toL at hl ⊢
  cases e:s.data.toList with
  | nil=>rw [e] at hl;simp at hl
  | cons a b=>rfl
theorem dig_q (s:ByteArray) (w:World):GivesV Tryz.prog 155 [.string s] w (.tuple #[.int .i64 (if numB (toL s) then digV (toL s) else 0),.bool (numB (toL s))]):=by
  have hn:=numB_iff (l:=toL s)
  rw [← size_toL] at hn
  refine givesV_of_tr Tryz.func155 rfl rfl ?_
  (refine s_r ?_;refine a_s rfl rfl ?_;refine a_s rfl rfl ?_;refine n_t ?_;refine tr_seq ?_;refine s_r ?_;refine m_v rfl rfl ?_;refine tr_val (rk_len_string (.of rfl)) rfl ?_;refine tr_val (rk_eql (.of rfl) (.of rfl)) rfl ?_;refine m_v rfl rfl ?_;refine v_g rfl rfl rfl rfl ?_;refine tr_vG1 rfl rfl inferInstance (fun hg hgp=>(rk_len_string (.ofg hg rfl))) rfl ?_;refine tr_vG1 rfl rfl inferInstance (fun hg hgp=>(rk_gtr (.ofg hg rfl) (.of rfl))) rfl ?_;refine tr_val (rk_pick_or (.of rfl) rfl) rfl ?_;refine m_v rfl rfl ?_;refine v_g rfl rfl rfl rfl ?_;refine tr_vG1 rfl rfl inferInstance (fun hg hgp=>(rk_len_string (.ofg hg rfl))) rfl ?_;refine tr_vG1 rfl rfl inferInstance (fun hg hgp=>(rk_gtr (.ofg hg rfl) (.of rfl))) rfl ?_;refine tr_vG1 rfl rfl inferInstance (fun hg hgp=>(rk_move (.ofg hg rfl))) rfl ?_;refine tr_vG rfl rfl inferInstance (fun hg hgp=>(rk_move (.of rfl))) rfl ?_;refine tr_vG rfl rfl inferInstance (fun hg hgp=>(rk_indexS (.ofg hg rfl) (.of rfl) (by omega) (by omega))) rfl ?_;refine tr_vG rfl rfl inferInstance (fun hg hgp=>(rk_eql (.ofg hg rfl) (.of rfl))) rfl ?_;refine tr_vG1 rfl rfl inferInstance (fun hg hgp=>(rk_pick_and' hg (.ofg hg rfl) rfl)) rfl ?_;refine tr_val (rk_pick_or (.of rfl) rfl) rfl ?_;refine n_t ?_;refine c_b rfl (fun hcd=>?_) (fun hcd=>?_);refine s_r ?_;refine a_s rfl rfl ?_;refine a_s rfl rfl ?_;refine n_t ?_;refine r_t ?_;refine tr_retE rfl (ends2 rfl rfl rfl) ?_;rotate_left;refine s_t ?_;refine s_r ?_;refine a_s rfl rfl ?_;refine n_t ?_;refine tr_seq ?_;refine s_r ?_;refine a_s rfl rfl ?_;refine n_t ?_;refine tr_block ?_;rotate_right)
  · have hb:numB (toL s) = false:=by
      rw [← Bool.not_eq_true,hn]
      rintro ⟨a,b,c,d⟩
      have h0:s.size ≠ 0:=fun e=>a (List.length_eq_zero_iff.1 (by rw [← size_toL];exact e))
      have h1:=bt_hd (s:=s) (by omega)
      rcases d with d | d
      · omega
      · rw [show Int.toNat 0 = 0 from rfl,h1] at hcd
        have:((toL s).headD 0).toNat ≠ 48:=fun e=>d (UInt8.toNat.inj e)
        omega
    rw [hb];rfl
  have hz0:0 < s.size:=by omega
  have h1:=bt_hd (s:=s) hz0
  rw [show Int.toNat 0 = 0 from rfl,h1] at hcd
  have hn2:numB (toL s) = digB (toL s):=by
    rw [Bool.eq_iff_iff,hn]
    constructor
    · exact fun h=>h.2.1
    · intro h
      refine ⟨fun e=>?_,h,by omega,?_⟩
      · rw [size_toL,e] at hz0;simp at hz0
      · by_cases e:s.size = 1
        · exact .inl e
        · refine .inr fun e2=>?_
          rw [e2] at hcd
          have:(48:UInt8).toNat = 48:=rfl
          omega
  rw [hn2]
  have h9:s.size ≤ 9:=by omega
  clear hcd
  refine tr_for (ι:=Nat) (fun i=>i ≤ s.size ∧ digB ((toL s).take i) = true) (fun i=>[(5,.int .i64 (i:Int)),(4,.int .i64 (digV ((toL s).take i))),(0,.string s)]) (fun _=>[]) (fun i=>s.size - i) ?_ ?_
  · apply tr_start 0 ⟨Nat.zero_le _,rfl⟩
    case hs1=>exact .cons rfl (.cons rfl (.cons rfl .nil))
    case ht=>exact .nil
  rintro i ⟨hi,hd⟩
  by_cases hlt:i < s.size
  · obtain ⟨x,r,hx1,hx2,hx3⟩:=toL_split hlt
    have hb0:=bt_at (i:=i) hx1 (by rw [List.length_take,← size_toL];omega)
    have hdt:=digB_take hx2
    have hv9:=digV_9 hd (by rw [List.length_take,← size_toL];omega)
    rw [hd,Bool.true_and] at hdt
    (refine tr_seq ?_;refine s_r ?_;refine m_v rfl rfl ?_;refine m_v rfl rfl ?_;refine tr_val (rk_len_string (.of rfl)) rfl ?_;refine tr_val (rk_lss (.of rfl) (.of rfl)) rfl ?_;refine n_t ?_;refine c_d rfl (fun hcd=>?_) (fun _=>by omega);refine s_t ?_;refine tr_seq ?_;refine tr_block ?_;refine tr_seq ?_;refine s_r ?_;refine m_v rfl rfl ?_;refine m_v rfl rfl ?_;refine tr_val (rk_indexS (.of rfl) (.of rfl) (by omega) hcd) rfl ?_)
    rw [Int.toNat_natCast,hb0]
    with_reducible apply tr_callV
    case hr=>exact rk_call (.of rfl) (.cons (.of rfl) .nil) inferInstance normc_
    case hd=>rfl
    case hc=>
      intro w' hm'
      exact isD_q _ w'
    rw [isD_dg]
    cases hdx:isDg x with
    | false =>
      rw [digB_bad hx3 hdx]
      (refine tr_val (rk_not (.of rfl)) rfl ?_;refine n_t ?_;refine tr_cond_t (.of rfl) ?_;refine s_r ?_;refine a_s rfl rfl ?_;refine a_s rfl rfl ?_;refine n_t ?_;refine r_t ?_;refine tr_blk_ret ?_;refine tr_then_ret ?_;refine tr_then_ret ?_;refine tr_blk_ret ?_;refine tr_then_ret ?_;refine tr_retE rfl (ends2 rfl rfl rfl) ?_)
      rfl
    | true =>
      rw [hdx] at hdt
      have hdx':=hdx
      unfold isDg at hdx'
      rw [Bool.and_eq_true,decide_eq_true_eq,decide_eq_true_eq] at hdx'
      (refine tr_val (rk_not (.of rfl)) rfl ?_;refine n_t ?_;refine tr_cond_f (.of rfl) ?_;refine s_t ?_;refine tr_region ?_;refine m_v rfl rfl ?_;refine tr_val (rk_mul (.of rfl) (.of rfl) (ini (by omega))) rfl ?_;refine m_v rfl rfl ?_;refine m_v rfl rfl ?_;refine tr_val (rk_indexS (.of rfl) (.of rfl) (by omega) hcd) rfl ?_)
      rw [Int.toNat_natCast,hb0]
      refine tr_val (rk_subw (.of rfl) (.of rfl)) rfl ?_
      refine tr_val (rk_conv (.of rfl)) rfl ?_
      rw [u8w (x:=(x.toNat:Int) - 48) (by omega),i64w (x:=(x.toNat:Int) - 48) (by omega)]
      (refine tr_val (rk_add (.of rfl) (.of rfl) (ini (by omega))) rfl ?_;refine a_s rfl rfl ?_;refine tr_nil ?_;refine tr_blk_normal ?_;refine tr_then ?_;refine tr_region ?_;refine m_v rfl rfl ?_;refine tr_val (rk_add (.of rfl) (.of rfl) (ini (by omega))) rfl ?_;refine a_s rfl rfl ?_;refine n_t ?_)
      rw [← digV_snoc,← hx2]
      apply tr_next (i + 1) ⟨hlt,hdt⟩ (by show s.size - (i + 1) < s.size - i;omega)
      case hs1=>exact .cons rfl (.cons rfl (.cons rfl .nil))
      case ht=>exact .nil
  · obtain rfl:i = s.size:=by omega
    rw [List.take_of_length_le (by rw [← size_toL];exact Nat.le_refl _)] at hd
    rw [List.take_of_length_le (by rw [← size_toL];exact Nat.le_refl _),hd]
    (refine tr_seq ?_;refine s_r ?_;refine m_v rfl rfl ?_;refine m_v rfl rfl ?_;refine tr_val (rk_len_string (.of rfl)) rfl ?_;refine tr_val (rk_lss (.of rfl) (.of rfl)) rfl ?_;refine n_t ?_;refine c_d rfl (fun _=>by omega) (fun hcd=>?_);refine x_t ?_;refine tr_then_exit ?_;refine tr_blk_exit ?_;refine tr_then ?_;refine s_r ?_;refine m_v rfl rfl ?_;refine a_s rfl rfl ?_;refine a_s rfl rfl ?_;refine n_t ?_;refine tr_ret ?_;refine tr_retE rfl (ends2 rfl rfl rfl) ?_)
    rfl
end Go.Proofs.A1
namespace Go.Proofs.A1
open Go Go.SL
theorem itoaB_dig {n:Int} (h:0 ≤ n ∧ n ≤ 9):itoaB n = bA [dgC n]:=by
  obtain ⟨m,rfl⟩:∃ m:Nat,n = m:=⟨n.toNat,by omega⟩
  rw [itoaB_nat,Lib.decDigits,dif_pos (by omega)]
  show bsL _ = bA _
  unfold bsL bA dgC
  rw [show (48 + (m:Int)).toNat = 48 + m by omega]
theorem itoaB_sz {n:Int} (h0:0 ≤ n) (h1:n ≤ 1000000):(itoaB n).size ≤ 7:=by
  obtain ⟨m,rfl⟩:∃ m:Nat,n = m:=⟨n.toNat,by omega⟩
  rw [itoaB_nat,bsL_size]
  exact decDigits_len m 7 (by omega) (by decide)
theorem two_q (n:Int) (h:0 ≤ n ∧ n ≤ 59) (w:World):GivesV Tryz.prog 152 [.int .i64 n] w (.string (bA (twoL n))):=by
  have t1:∀ w',GivesV Tryz.prog 153 [.int .i64 (n / 10)] w' (.string (bA [dgC (n / 10)])):=fun w'=>by
    have:=text_q (n / 10).toNat (by omega) w'
    rw [show (((n / 10).toNat:Nat):Int) = n / 10 by omega,itoaB_dig (by omega)] at this
    exact this
  have t2:∀ w',GivesV Tryz.prog 153 [.int .i64 (n % 10)] w' (.string (bA [dgC (n % 10)])):=fun w'=>by
    have:=text_q (n % 10).toNat (by omega) w'
    rw [show (((n % 10).toNat:Nat):Int) = n % 10 by omega,itoaB_dig (by omega)] at this
    exact this
  have s1:(bA [dgC (n / 10)]).size = 1:=rfl
  have s2:(bA [dgC (n % 10)]).size = 1:=rfl
  refine givesV_of_tr Tryz.func152 rfl rfl ?_
  (refine s_r ?_;refine a_s rfl rfl ?_;refine n_r ?_;refine m_v rfl rfl ?_;refine tr_val (rk_quo (.of rfl) (.of rfl) (by omega) (by omega) (by omega)) rfl ?_;refine tr_callV (rk_call (.of rfl) (.cons (.of rfl) .nil) inferInstance normc_) rfl (fun w' hm'=>(t1 w')) ?_;refine m_v rfl rfl ?_;refine tr_val (rk_rem (.of rfl) (.of rfl) (by omega) (by omega)) rfl ?_;refine tr_callV (rk_call (.of rfl) (.cons (.of rfl) .nil) inferInstance normc_) rfl (fun w' hm'=>(t2 w')) ?_;refine tr_val (rk_cat (.of rfl) (.of rfl) (by omega)) rfl ?_;refine a_s rfl rfl ?_;refine n_t ?_;refine tr_ret ?_;refine tr_retE rfl (ends1 rfl rfl) ?_)
  rw [bA_app];rfl
theorem prtQ_parts {s:Stm} (h:StOk s):((((((((((bA (twoL s.la.h)++(⟨#[58]⟩:ByteArray))++bA (twoL s.la.m))++(⟨#[58]⟩:ByteArray))++bA (twoL s.la.s))++(bif s.ra.dr then (⟨#[59]⟩:ByteArray) else ⟨#[58]⟩))++bA (twoL s.la.f))++(⟨#[32,97,116,32]⟩:ByteArray))++itoaB s.ra.fr)++(⟨#[32]⟩:ByteArray))++itoaB s.us) = bA (prtL s):=by
  have hus:=h.us
  have hfr:=h.la.ra.fr
  obtain ⟨m,hm⟩:∃ m:Nat,s.us = m:=⟨s.us.toNat,by omega⟩
  obtain ⟨k,hk⟩:∃ k:Nat,s.ra.fr = k:=⟨s.ra.fr.toNat,by omega⟩
  unfold prtL
  rw [hm,hk,Int.toNat_natCast,Int.toNat_natCast,itoaB_nat,itoaB_nat]
  apply ByteArray.ext
  apply Array.ext'
  simp [bA,bsL,twoL,lbW,mkC]
  cases s.ra.dr <;> simp
set_option maxHeartbeats 1000000 in
theorem printQ_c (s:Stm) (hs:StOk s) (w:World):GivesV Tryz.prog 83 [.agg s.cells.toArray] w (.string (bA (prtL s))):=by
  have hh:=hs.la.h;have hmi:=hs.la.m;have hse:=hs.la.s;have hf:=hs.la.f;have hfr:=hs.la.ra.fr;have hus:=hs.us
  have hf59:0 ≤ s.la.f ∧ s.la.f ≤ 59:=by omega
  have hth:=two_q s.la.h (by omega)
  have htm:=two_q s.la.m (by omega)
  have hts:=two_q s.la.s (by omega)
  have htf:=two_q s.la.f (by omega)
  have hqr:∀ w',GivesV Tryz.prog 153 [.int .i64 s.ra.fr] w' (.string (itoaB s.ra.fr)):=fun w'=>by
    have:=text_q s.ra.fr.toNat (by omega) w'
    rwa [show ((s.ra.fr.toNat:Nat):Int) = s.ra.fr by omega] at this
  have hqu:∀ w',GivesV Tryz.prog 153 [.int .i64 s.us] w' (.string (itoaB s.us)):=fun w'=>by
    have:=text_q s.us.toNat (by omega) w'
    rwa [show ((s.us.toNat:Nat):Int) = s.us by omega] at this
  have z1:=itoaB_sz (n:=s.ra.fr) (by omega) (by omega)
  have z2:=itoaB_sz (n:=s.us) (by omega) (by omega)
  have z3:(bA (twoL s.la.h)).size = 2:=rfl
  have z4:(bA (twoL s.la.m)).size = 2:=rfl
  have z5:(bA (twoL s.la.s)).size = 2:=rfl
  have z6:(bA (twoL s.la.f)).size = 2:=rfl
  have z7:(⟨#[58]⟩:ByteArray).size = 1:=rfl
  have z8:(⟨#[59]⟩:ByteArray).size = 1:=rfl
  have z9:(⟨#[32,97,116,32]⟩:ByteArray).size = 4:=rfl
  have z10:(⟨#[32]⟩:ByteArray).size = 1:=rfl
  have hr:=prtQ_parts hs
  have q0:(bA (twoL s.la.h)).size + ((⟨#[58]⟩:ByteArray)).size ≤ 9223372036854775807:=by (try simp only [ByteArray.size_append]);omega
  have q1:((bA (twoL s.la.h)++(⟨#[58]⟩:ByteArray))).size + (bA (twoL s.la.m)).size ≤ 9223372036854775807:=by (try simp only [ByteArray.size_append]);omega
  have q2:(((bA (twoL s.la.h)++(⟨#[58]⟩:ByteArray))++bA (twoL s.la.m))).size + ((⟨#[58]⟩:ByteArray)).size ≤ 9223372036854775807:=by (try simp only [ByteArray.size_append]);omega
  have q3:((((bA (twoL s.la.h)++(⟨#[58]⟩:ByteArray))++bA (twoL s.la.m))++(⟨#[58]⟩:ByteArray))).size + (bA (twoL s.la.s)).size ≤ 9223372036854775807:=by (try simp only [ByteArray.size_append]);omega
  have q4:(((((bA (twoL s.la.h)++(⟨#[58]⟩:ByteArray))++bA (twoL s.la.m))++(⟨#[58]⟩:ByteArray))++bA (twoL s.la.s))).size + ((⟨#[59]⟩:ByteArray)).size ≤ 9223372036854775807:=by (try simp only [ByteArray.size_append]);omega
  have q5:((((((bA (twoL s.la.h)++(⟨#[58]⟩:ByteArray))++bA (twoL s.la.m))++(⟨#[58]⟩:ByteArray))++bA (twoL s.la.s))++(⟨#[59]⟩:ByteArray))).size + (bA (twoL s.la.f)).size ≤ 9223372036854775807:=by (try simp only [ByteArray.size_append]);omega
  have q6:(((((((bA (twoL s.la.h)++(⟨#[58]⟩:ByteArray))++bA (twoL s.la.m))++(⟨#[58]⟩:ByteArray))++bA (twoL s.la.s))++(⟨#[59]⟩:ByteArray))++bA (twoL s.la.f))).size + ((⟨#[32,97,116,32]⟩:ByteArray)).size ≤ 9223372036854775807:=by (try simp only [ByteArray.size_append]);omega
  have q7:((((((((bA (twoL s.la.h)++(⟨#[58]⟩:ByteArray))++bA (twoL s.la.m))++(⟨#[58]⟩:ByteArray))++bA (twoL s.la.s))++(⟨#[59]⟩:ByteArray))++bA (twoL s.la.f))++(⟨#[32,97,116,32]⟩:ByteArray))).size + (itoaB s.ra.fr).size ≤ 9223372036854775807:=by (try simp only [ByteArray.size_append]);omega
  have q8:(((((((((bA (twoL s.la.h)++(⟨#[58]⟩:ByteArray))++bA (twoL s.la.m))++(⟨#[58]⟩:ByteArray))++bA (twoL s.la.s))++(⟨#[59]⟩:ByteArray))++bA (twoL s.la.f))++(⟨#[32,97,116,32]⟩:ByteArray))++itoaB s.ra.fr)).size + ((⟨#[32]⟩:ByteArray)).size ≤ 9223372036854775807:=by (try simp only [ByteArray.size_append]);omega
  have q9:((((((((((bA (twoL s.la.h)++(⟨#[58]⟩:ByteArray))++bA (twoL s.la.m))++(⟨#[58]⟩:ByteArray))++bA (twoL s.la.s))++(⟨#[59]⟩:ByteArray))++bA (twoL s.la.f))++(⟨#[32,97,116,32]⟩:ByteArray))++itoaB s.ra.fr)++(⟨#[32]⟩:ByteArray))).size + (itoaB s.us).size ≤ 9223372036854775807:=by (try simp only [ByteArray.size_append]);omega
  have q10:(((((bA (twoL s.la.h)++(⟨#[58]⟩:ByteArray))++bA (twoL s.la.m))++(⟨#[58]⟩:ByteArray))++bA (twoL s.la.s))).size + ((⟨#[58]⟩:ByteArray)).size ≤ 9223372036854775807:=by (try simp only [ByteArray.size_append]);omega
  have q11:((((((bA (twoL s.la.h)++(⟨#[58]⟩:ByteArray))++bA (twoL s.la.m))++(⟨#[58]⟩:ByteArray))++bA (twoL s.la.s))++(⟨#[58]⟩:ByteArray))).size + (bA (twoL s.la.f)).size ≤ 9223372036854775807:=by (try simp only [ByteArray.size_append]);omega
  have q12:(((((((bA (twoL s.la.h)++(⟨#[58]⟩:ByteArray))++bA (twoL s.la.m))++(⟨#[58]⟩:ByteArray))++bA (twoL s.la.s))++(⟨#[58]⟩:ByteArray))++bA (twoL s.la.f))).size + ((⟨#[32,97,116,32]⟩:ByteArray)).size ≤ 9223372036854775807:=by (try simp only [ByteArray.size_append]);omega
  have q13:((((((((bA (twoL s.la.h)++(⟨#[58]⟩:ByteArray))++bA (twoL s.la.m))++(⟨#[58]⟩:ByteArray))++bA (twoL s.la.s))++(⟨#[58]⟩:ByteArray))++bA (twoL s.la.f))++(⟨#[32,97,116,32]⟩:ByteArray))).size + (itoaB s.ra.fr).size ≤ 9223372036854775807:=by (try simp only [ByteArray.size_append]);omega
  have q14:(((((((((bA (twoL s.la.h)++(⟨#[58]⟩:ByteArray))++bA (twoL s.la.m))++(⟨#[58]⟩:ByteArray))++bA (twoL s.la.s))++(⟨#[58]⟩:ByteArray))++bA (twoL s.la.f))++(⟨#[32,97,116,32]⟩:ByteArray))++itoaB s.ra.fr)).size + ((⟨#[32]⟩:ByteArray)).size ≤ 9223372036854775807:=by (try simp only [ByteArray.size_append]);omega
  have q15:((((((((((bA (twoL s.la.h)++(⟨#[58]⟩:ByteArray))++bA (twoL s.la.m))++(⟨#[58]⟩:ByteArray))++bA (twoL s.la.s))++(⟨#[58]⟩:ByteArray))++bA (twoL s.la.f))++(⟨#[32,97,116,32]⟩:ByteArray))++itoaB s.ra.fr)++(⟨#[32]⟩:ByteArray))).size + (itoaB s.us).size ≤ 9223372036854775807:=by (try simp only [ByteArray.size_append]);omega
  unfold Stm.cells
  refine givesV_of_tr Tryz.func83 rfl rfl ?_
  (refine s_r ?_;refine tr_new (rk_box (.of rfl) rfl) rfl (fun _ _=>?_);refine a_s rfl rfl ?_;refine n_r ?_;refine a_s rfl rfl ?_;refine n_t ?_;refine tr_seq ?_;refine s_r ?_;refine f_a rfl rfl norm0_ ?_;refine f_a rfl rfl norm0_ ?_;refine tr_val (rk_load1 (.of rfl) (At.lit .here rfl)) rfl ?_;refine n_t ?_;refine c_b rfl (fun hcd=>?_) (fun hcd=>?_);refine tr_region ?_;refine a_s rfl rfl ?_;refine n_t ?_;refine tr_seq ?_;rotate_left;refine s_t ?_;refine tr_seq ?_;rotate_right)
  · with_reducible refine tr_draw 34 (by kernel_rfl) ?_
    (refine a_f rfl rfl norm0_ ?_;refine a_f rfl rfl norm0_ ?_;refine any_val (rk_load1 (.of rfl) (At.lit .here rfl)) rfl ?_;refine any_call (rk_call (.of rfl) (.cons (.of rfl) .nil) inferInstance normc_) rfl (fun w' hm'=>(hth w')) ?_;refine any_val (rk_cat (.of rfl) (.of rfl) q0) rfl ?_;refine a_f rfl rfl norm0_ ?_;refine a_f rfl rfl norm0_ ?_;refine any_val (rk_load1 (.of rfl) (At.lit .here rfl)) rfl ?_;refine any_call (rk_call (.of rfl) (.cons (.of rfl) .nil) inferInstance normc_) rfl (fun w' hm'=>(htm w')) ?_;refine any_val (rk_cat (.of rfl) (.of rfl) q1) rfl ?_;refine any_val (rk_cat (.of rfl) (.of rfl) q2) rfl ?_;refine a_f rfl rfl norm0_ ?_;refine a_f rfl rfl norm0_ ?_;refine any_val (rk_load1 (.of rfl) (At.lit .here rfl)) rfl ?_;refine any_call (rk_call (.of rfl) (.cons (.of rfl) .nil) inferInstance normc_) rfl (fun w' hm'=>(hts w')) ?_;refine any_val (rk_cat (.of rfl) (.of rfl) q3) rfl ?_;refine a_m rfl rfl ?_;refine any_val (rk_cat (.of rfl) (.of rfl) q4) rfl ?_;refine a_f rfl rfl norm0_ ?_;refine a_f rfl rfl norm0_ ?_;refine any_val (rk_load1 (.of rfl) (At.lit .here rfl)) rfl ?_;refine any_call (rk_call (.of rfl) (.cons (.of rfl) .nil) inferInstance normc_) rfl (fun w' hm'=>(htf w')) ?_;refine any_val (rk_cat (.of rfl) (.of rfl) q5) rfl ?_;refine any_val (rk_cat (.of rfl) (.of rfl) q6) rfl ?_;refine a_f rfl rfl norm0_ ?_;refine a_f rfl rfl norm0_ ?_;refine any_val (rk_load1 (.of rfl) (At.lit .here rfl)) rfl ?_;refine any_call (rk_call (.of rfl) (.cons (.of rfl) .nil) inferInstance normc_) rfl (fun w' hm'=>(hqr w')) ?_;refine any_val (rk_cat (.of rfl) (.of rfl) q7) rfl ?_;refine any_val (rk_cat (.of rfl) (.of rfl) q8) rfl ?_;refine a_f rfl rfl norm0_ ?_;refine any_val (rk_load1 (.of rfl) (At.lit .here rfl)) rfl ?_;refine any_call (rk_call (.of rfl) (.cons (.of rfl) .nil) inferInstance normc_) rfl (fun w' hm'=>(hqu w')) ?_;refine any_val (rk_cat (.of rfl) (.of rfl) q9) rfl ?_)
    with_reducible refine any_end ?_
    (refine a_s rfl rfl ?_;refine n_t ?_;refine tr_ret ?_;refine tr_retE rfl (ends1 rfl rfl) ?_)
    rw [show s.ra.dr = true from by assumption] at hr
    exact congrArg Value.string hr
  · with_reducible refine tr_draw 34 (by kernel_rfl) ?_
    (refine a_f rfl rfl norm0_ ?_;refine a_f rfl rfl norm0_ ?_;refine any_val (rk_load1 (.of rfl) (At.lit .here rfl)) rfl ?_;refine any_call (rk_call (.of rfl) (.cons (.of rfl) .nil) inferInstance normc_) rfl (fun w' hm'=>(hth w')) ?_;refine any_val (rk_cat (.of rfl) (.of rfl) q0) rfl ?_;refine a_f rfl rfl norm0_ ?_;refine a_f rfl rfl norm0_ ?_;refine any_val (rk_load1 (.of rfl) (At.lit .here rfl)) rfl ?_;refine any_call (rk_call (.of rfl) (.cons (.of rfl) .nil) inferInstance normc_) rfl (fun w' hm'=>(htm w')) ?_;refine any_val (rk_cat (.of rfl) (.of rfl) q1) rfl ?_;refine any_val (rk_cat (.of rfl) (.of rfl) q2) rfl ?_;refine a_f rfl rfl norm0_ ?_;refine a_f rfl rfl norm0_ ?_;refine any_val (rk_load1 (.of rfl) (At.lit .here rfl)) rfl ?_;refine any_call (rk_call (.of rfl) (.cons (.of rfl) .nil) inferInstance normc_) rfl (fun w' hm'=>(hts w')) ?_;refine any_val (rk_cat (.of rfl) (.of rfl) q3) rfl ?_;refine a_m rfl rfl ?_;refine any_val (rk_cat (.of rfl) (.of rfl) q10) rfl ?_;refine a_f rfl rfl norm0_ ?_;refine a_f rfl rfl norm0_ ?_;refine any_val (rk_load1 (.of rfl) (At.lit .here rfl)) rfl ?_;refine any_call (rk_call (.of rfl) (.cons (.of rfl) .nil) inferInstance normc_) rfl (fun w' hm'=>(htf w')) ?_;refine any_val (rk_cat (.of rfl) (.of rfl) q11) rfl ?_;refine any_val (rk_cat (.of rfl) (.of rfl) q12) rfl ?_;refine a_f rfl rfl norm0_ ?_;refine a_f rfl rfl norm0_ ?_;refine any_val (rk_load1 (.of rfl) (At.lit .here rfl)) rfl ?_;refine any_call (rk_call (.of rfl) (.cons (.of rfl) .nil) inferInstance normc_) rfl (fun w' hm'=>(hqr w')) ?_;refine any_val (rk_cat (.of rfl) (.of rfl) q13) rfl ?_;refine any_val (rk_cat (.of rfl) (.of rfl) q14) rfl ?_;refine a_f rfl rfl norm0_ ?_;refine any_val (rk_load1 (.of rfl) (At.lit .here rfl)) rfl ?_;refine any_call (rk_call (.of rfl) (.cons (.of rfl) .nil) inferInstance normc_) rfl (fun w' hm'=>(hqu w')) ?_;refine any_val (rk_cat (.of rfl) (.of rfl) q15) rfl ?_)
    with_reducible refine any_end ?_
    (refine a_s rfl rfl ?_;refine n_t ?_;refine tr_ret ?_;refine tr_retE rfl (ends1 rfl rfl) ?_)
    rw [show s.ra.dr = false from by assumption] at hr
    exact congrArg Value.string hr
end Go.Proofs.A1
namespace Go.Proofs
open Go.Shelf
def Tryz.lays144_ren:Go.Shelf.Ren:=⟨fun | 144=>201 | 143=>249 | 219=>277 | 217=>288 | 225=>289 | 224=>290 | 267=>291 | 266=>298 | 314=>299 | n=>n,fun | 9=>9 | 4=>4 | 3=>3 | 5=>5 | 46=>206 | 146=>391 | 51=>91 | n=>n,fun | 1=>2 | n=>n⟩
theorem Tryz.lays144:Go.Proofs.Lays.n144 Tryz.prog Tryz.lays144_ren:={
  mixed:=by kernel_rfl
  f143:=Tryz.func249.trans (congrArg some (by kernel_rfl))
  f144:=Tryz.func201.trans (congrArg some (by kernel_rfl))
  f217:=Tryz.func288.trans (congrArg some (by kernel_rfl))
  f219:=Tryz.func277.trans (congrArg some (by kernel_rfl))
  f224:=Tryz.func290.trans (congrArg some (by kernel_rfl))
  f225:=Tryz.func289.trans (congrArg some (by kernel_rfl))
  f266:=Tryz.func298.trans (congrArg some (by kernel_rfl))
  f267:=Tryz.func291.trans (congrArg some (by kernel_rfl))
  f314:=Tryz.func299.trans (congrArg some (by kernel_rfl))
  t3:=Tryz.underlying3
  a3:=Tryz.isAgg3
  z3:=Tryz.sizeOf3
  v3:=Tryz.zeroValue3
  t4:=Tryz.underlying4
  a4:=Tryz.isAgg4
  z4:=Tryz.sizeOf4
  v4:=Tryz.zeroValue4
  t5:=Tryz.underlying5
  a5:=Tryz.isAgg5
  z5:=Tryz.sizeOf5
  v5:=Tryz.zeroValue5
  t9:=Tryz.underlying9
  a9:=Tryz.isAgg9
  z9:=Tryz.sizeOf9
  v9:=Tryz.zeroValue9
  t46:=Tryz.underlying206
  a46:=Tryz.isAgg206
  z46:=Tryz.sizeOf206
  v46:=Tryz.zeroValue206
  t51:=Tryz.underlying91
  a51:=Tryz.isAgg91
  z51:=Tryz.sizeOf91
  v51:=Tryz.zeroValue91
  t146:=Tryz.underlying391
  a146:=Tryz.isAgg391
  z146:=Tryz.sizeOf391
  v146:=Tryz.zeroValue391
  g1:=by kernel_rfl }
open Go.RowKit Go.Lib in
theorem Tryz.strings_Contains_one (s:ByteArray) (c:UInt8) (w:World) :
    Calls Tryz.prog 201 #[.string s,.string ⟨#[c]⟩] w fun e w'=>e = .returned (.bool (decide (0 ≤ Lib.indexByte s.data.toList c))) ∧ w' = w:=Any.strings_Contains_one Tryz.lays144 s c w
def Tryz.lays146_ren:Go.Shelf.Ren:=⟨fun | 146=>148 | 221=>199 | 268=>247 | 138=>248 | 143=>249 | 195=>274 | 197=>275 | 218=>276 | 219=>277 | 260=>287 | 217=>288 | 225=>289 | 224=>290 | 267=>291 | 266=>298 | 314=>299 | n=>n,fun | 9=>9 | 31=>245 | 3=>3 | 4=>4 | 0=>0 | 105=>372 | 21=>21 | 5=>5 | 46=>206 | 119=>387 | 139=>390 | 138=>389 | 146=>391 | 51=>91 | n=>n,fun | 1=>2 | 3=>4 | 4=>5 | n=>n⟩
theorem Tryz.lays146:Go.Proofs.Lays.n146 Tryz.prog Tryz.lays146_ren:={
  mixed:=by kernel_rfl
  f138:=Tryz.func248.trans (congrArg some (by kernel_rfl))
  f143:=Tryz.func249.trans (congrArg some (by kernel_rfl))
  f146:=Tryz.func148.trans (congrArg some (by kernel_rfl))
  f195:=Tryz.func274.trans (congrArg some (by kernel_rfl))
  f197:=Tryz.func275.trans (congrArg some (by kernel_rfl))
  f217:=Tryz.func288.trans (congrArg some (by kernel_rfl))
  f218:=Tryz.func276.trans (congrArg some (by kernel_rfl))
  f219:=Tryz.func277.trans (congrArg some (by kernel_rfl))
  f221:=Tryz.func199.trans (congrArg some (by kernel_rfl))
  f224:=Tryz.func290.trans (congrArg some (by kernel_rfl))
  f225:=Tryz.func289.trans (congrArg some (by kernel_rfl))
  f260:=Tryz.func287.trans (congrArg some (by kernel_rfl))
  f266:=Tryz.func298.trans (congrArg some (by kernel_rfl))
  f267:=Tryz.func291.trans (congrArg some (by kernel_rfl))
  f268:=Tryz.func247.trans (congrArg some (by kernel_rfl))
  f314:=Tryz.func299.trans (congrArg some (by kernel_rfl))
  t0:=Tryz.underlying0
  a0:=Tryz.isAgg0
  z0:=Tryz.sizeOf0
  v0:=Tryz.zeroValue0
  t3:=Tryz.underlying3
  a3:=Tryz.isAgg3
  z3:=Tryz.sizeOf3
  v3:=Tryz.zeroValue3
  t4:=Tryz.underlying4
  a4:=Tryz.isAgg4
  z4:=Tryz.sizeOf4
  v4:=Tryz.zeroValue4
  t5:=Tryz.underlying5
  a5:=Tryz.isAgg5
  z5:=Tryz.sizeOf5
  v5:=Tryz.zeroValue5
  t9:=Tryz.underlying9
  a9:=Tryz.isAgg9
  z9:=Tryz.sizeOf9
  v9:=Tryz.zeroValue9
  t21:=Tryz.underlying21
  a21:=Tryz.isAgg21
  z21:=Tryz.sizeOf21
  v21:=Tryz.zeroValue21
  t31:=Tryz.underlying245
  a31:=Tryz.isAgg245
  z31:=Tryz.sizeOf245
  v31:=Tryz.zeroValue245
  t46:=Tryz.underlying206
  a46:=Tryz.isAgg206
  z46:=Tryz.sizeOf206
  v46:=Tryz.zeroValue206
  t51:=Tryz.underlying91
  a51:=Tryz.isAgg91
  z51:=Tryz.sizeOf91
  v51:=Tryz.zeroValue91
  t105:=Tryz.underlying372
  a105:=Tryz.isAgg372
  z105:=Tryz.sizeOf372
  v105:=Tryz.zeroValue372
  t119:=Tryz.underlying387
  a119:=Tryz.isAgg387
  z119:=Tryz.sizeOf387
  t138:=Tryz.underlying389
  a138:=Tryz.isAgg389
  z138:=Tryz.sizeOf389
  v138:=Tryz.zeroValue389
  t139:=Tryz.underlying390
  a139:=Tryz.isAgg390
  z139:=Tryz.sizeOf390
  v139:=Tryz.zeroValue390
  t146:=Tryz.underlying391
  a146:=Tryz.isAgg391
  z146:=Tryz.sizeOf391
  v146:=Tryz.zeroValue391
  g1:=by kernel_rfl
  g3:=by kernel_rfl
  g4:=by kernel_rfl }
open Go.RowKit Go.Lib in
theorem Tryz.strings_Split (s sep:ByteArray) (m:Int) (w:World) (hs:s.size < 4294967281) (hm:w.cell? ⟨2,0,none⟩ = some (.int .i64 m)) (h1:1 ≤ sep.size) :
    Calls Tryz.prog 148 #[.string s,.string sep] w fun e w'=>
      e = .returned (.slice (some ⟨w.heap.size,0,none⟩) (Lib.countB s sep + 1) (Lib.countB s sep + 1)) ∧ w' = w.alloc (.cells ((Lib.splitB sep 0 (Lib.countB s sep) s).map Value.string).toArray 9):=Any.strings_Split Tryz.lays146 (by kernel_rfl) s sep m w hs hm h1
end Go.Proofs
namespace Go.Proofs.A1
open Go Go.SL
def MaxL (w:World):Prop:=∃ m:Int,w.cell? ⟨2,0,none⟩ = some (.int .i64 m)
theorem MaxL.keeps {w w':World} (h:MaxL w) (hk:Keeps [] w w'):MaxL w':=by
  obtain ⟨m,hm⟩:=h
  refine ⟨m,?_⟩
  have hb:=World.block_lt_of_cell? w ⟨2,0,none⟩ hm
  have:=hk.block 2 hb (by simp)
  rw [← hm];simp [World.cell?,this]
theorem split_p {c:UInt8} {s:ByteArray} (hs:s.size ≤ 5000) {w:World} (hM:MaxL w):Gives Tryz.prog 148 [.string s,.string ⟨#[c]⟩] w [] (fun _:Nat=>True) (fun g=>.slice (some ⟨g,0,none⟩) (splL c (toL s)).length (splL c (toL s)).length) (fun g=>[blk g (.cells (strs (splL c (toL s))).toArray 9)]):=by
  obtain ⟨m,hm⟩:=hM
  obtain ⟨e1,e2⟩:=splitB_spl c s
  refine Calls.mono (Tryz.strings_Split s ⟨#[c]⟩ m w (by omega) hm (Nat.le_refl 1)) fun e w' ⟨he,hw⟩=>?_
  rw [e1,← strs_strB] at hw
  rw [e2] at he
  refine ⟨w.heap.size,he,trivial,by rw [hw];exact .alloc _ _ _,[w.heap.size],by simp,⟨[w.heap.size],[],rfl,⟨rfl,by rw [hw];exact World.alloc_heap_new w _⟩,rfl⟩,by simp⟩
theorem i32w {x:Int} (h:-2147483648 ≤ x ∧ x ≤ 2147483647):IntKind.i32.wrap x = x:=by unfold IntKind.wrap;simp [IntKind.signed,IntKind.bits];omega
theorem wd_get {ws:List (List UInt8)} {k:Nat} (h:k < ws.length):(strs ws)[k]? = some (.string (bsL (wd ws k))):=by
  simp [strs,wd,h]
theorem contains_p (s:ByteArray) (c:UInt8) (w:World):GivesV Tryz.prog 201 [.string s,.string ⟨#[c]⟩] w (.bool (decide (0 ≤ Lib.indexByte (toL s) c))):=
  Calls.mono (Tryz.strings_Contains_one s c w) fun e w' ⟨he,hw⟩=>⟨he,by rw [hw];exact .refl _ _⟩
def intC (l:List UInt8):Int:=if digB l && decide (l.length ≤ 5) then digV l else 0
def intB (l:List UInt8):Bool:=!l.isEmpty && (digB l && decide (l.length ≤ 5))
theorem intB_ne {l:List UInt8} (h:l ≠ []):intB l = (digB l && decide (l.length ≤ 5)):=by
  unfold intB
  cases l with
  | nil=>exact absurd rfl h
  | cons a r=>simp
theorem digV_5 {l:List UInt8} (h:digB l = true) (h5:l.length ≤ 5):0 ≤ digV l ∧ digV l ≤ 99999:=by
  have:=digV_range h
  have h2:(10:Int) ^ l.length ≤ 10 ^ 5:=by
    have:∀ k,k ≤ 5 → (10:Int) ^ k ≤ 10 ^ 5:=by decide
    exact this _ h5
  have h3:(10:Int) ^ 5 = 100000:=by decide
  omega
theorem integer_c (s:ByteArray) (w:World):GivesV Tryz.prog 200 [.string s] w (.tuple #[.int .i64 (intC (toL s)),.bool (intB (toL s))]):=by
  have hne:0 < s.size → toL s ≠ []:=fun h e=>by rw [size_toL,e] at h;simp at h
  refine givesV_of_tr Tryz.func200 rfl rfl ?_
  (refine s_r ?_;refine a_s rfl rfl ?_;refine a_s rfl rfl ?_;refine n_r ?_;refine a_s rfl rfl ?_;refine n_t ?_;refine tr_seq ?_;refine s_r ?_;refine m_v rfl rfl ?_;refine tr_new (rk_rangeS (.of rfl)) rfl (fun _ _=>?_);refine n_t ?_;refine tr_block ?_)
  rename_i bi hbi
  refine tr_for (ι:=Nat) (fun p=>p ≤ s.size ∧ digB ((toL s).take p) = true ∧ (p = 0 ∨ s.size ≤ 5)) (fun p=>[(8,.pointer (some ⟨bi,0,none⟩)),(4,.int .i64 (digV ((toL s).take p))),(0,.string s)]) (fun p=>[blk bi (.stringIter s p)]) (fun p=>s.size - p) ?_ ?_
  · apply tr_start 0 ⟨Nat.zero_le _,rfl,.inl rfl⟩
    case hs1=>exact .cons rfl (.cons rfl (.cons rfl .nil))
    case ht=>exact .cons .here .nil
  rintro p ⟨hp,hd,h9⟩
  by_cases hpl:p < s.size
  · obtain ⟨x,r,hx1,hx2,hx3⟩:=toL_split hpl
    have hb0:bt s p = x.toNat:=bt_at (i:=p) hx1 (by rw [List.length_take,← size_toL];omega)
    have hd2:=decode_bt hpl
    have hnl:=hne (by omega)
    have hdt:=digB_take hx2
    rw [hd] at hdt
    by_cases hx:isDg x = true
    · have hx':=hx
      unfold isDg at hx'
      rw [Bool.and_eq_true,decide_eq_true_eq,decide_eq_true_eq] at hx'
      rw [hx] at hdt
      have hw1:(Utf8.decode s p).2 = 1:=by omega
      have hr1:((Utf8.decode s p).1:Int) = x.toNat:=by omega
      by_cases h5:5 < s.size
      · (refine s_r ?_;refine tr_nextS (.of rfl) .here rfl (fun hlt=>?_) (fun hlt=>(by omega));refine tr_val (rk_extract (.of rfl) rfl) rfl ?_;refine n_t ?_;refine tr_seq ?_;refine tr_cond_t (.of rfl) ?_;refine s_t ?_;refine tr_block ?_;refine s_r ?_;refine tr_val (rk_extract (.of rfl) rfl) rfl ?_;refine a_s rfl rfl ?_;refine n_t ?_;refine tr_seq ?_;refine s_r ?_;refine m_v rfl rfl ?_;refine tr_val (rk_lss (.of rfl) (.of rfl)) rfl ?_;refine m_v rfl rfl ?_;refine v_g rfl rfl rfl rfl ?_;refine tr_vG1 rfl rfl inferInstance (fun hg hgp=>(rk_gtr (.ofg hg rfl) (.of rfl))) rfl ?_;refine tr_val (rk_pick_or (.of rfl) rfl) rfl ?_;refine m_v rfl rfl ?_;refine v_g rfl rfl rfl rfl ?_;refine tr_vG1 rfl rfl inferInstance (fun hg hgp=>(rk_len_string (.ofg hg rfl))) rfl ?_;refine tr_vG1 rfl rfl inferInstance (fun hg hgp=>(rk_gtr (.ofg hg rfl) (.of rfl))) rfl ?_;refine tr_val (rk_pick_or (.of rfl) rfl) rfl ?_;refine n_t ?_;refine c_b rfl (fun hcd=>?_) (fun _=>by omega);refine s_r ?_;refine a_s rfl rfl ?_;refine a_s rfl rfl ?_;refine n_t ?_;refine r_t ?_;refine tr_blk_ret ?_;refine tr_then_ret ?_;refine tr_blk_ret ?_;refine tr_then_ret ?_;refine tr_retE rfl (ends2 rfl rfl rfl) ?_)
        rw [intB_ne hnl]
        unfold intC
        rw [show decide ((toL s).length ≤ 5) = false by rw [decide_eq_false_iff_not,← size_toL];omega,Bool.and_false];rfl
      · have hv5:=digV_5 hd (by rw [List.length_take,← size_toL];omega)
        (refine s_r ?_;refine tr_nextS (.of rfl) .here rfl (fun hlt=>?_) (fun hlt=>(by omega));refine tr_val (rk_extract (.of rfl) rfl) rfl ?_;refine n_t ?_;refine tr_seq ?_;refine tr_cond_t (.of rfl) ?_;refine s_t ?_;refine tr_block ?_;refine s_r ?_;refine tr_val (rk_extract (.of rfl) rfl) rfl ?_;refine a_s rfl rfl ?_;refine n_t ?_;refine tr_seq ?_;refine s_r ?_;refine m_v rfl rfl ?_;refine tr_val (rk_lss (.of rfl) (.of rfl)) rfl ?_;refine m_v rfl rfl ?_;refine v_g rfl rfl rfl rfl ?_;refine tr_vG1 rfl rfl inferInstance (fun hg hgp=>(rk_gtr (.ofg hg rfl) (.of rfl))) rfl ?_;refine tr_val (rk_pick_or (.of rfl) rfl) rfl ?_;refine m_v rfl rfl ?_;refine v_g rfl rfl rfl rfl ?_;refine tr_vG1 rfl rfl inferInstance (fun hg hgp=>(rk_len_string (.ofg hg rfl))) rfl ?_;refine tr_vG1 rfl rfl inferInstance (fun hg hgp=>(rk_gtr (.ofg hg rfl) (.of rfl))) rfl ?_;refine tr_val (rk_pick_or (.of rfl) rfl) rfl ?_;refine n_t ?_;refine c_b rfl (fun _=>by omega) (fun hcd=>?_);refine s_t ?_;refine tr_region ?_;refine m_v rfl rfl ?_;refine tr_val (rk_mul (.of rfl) (.of rfl) (ini (by omega))) rfl ?_;refine m_v rfl rfl ?_)
        refine tr_val (rk_subw (.of rfl) (.of rfl)) rfl ?_
        refine tr_val (rk_conv (.of rfl)) rfl ?_
        rw [hr1,hw1,i32w (x:=(x.toNat:Int) - 48) (by omega),i64w (x:=(x.toNat:Int) - 48) (by omega)]
        (refine tr_val (rk_add (.of rfl) (.of rfl) (ini (by omega))) rfl ?_;refine a_s rfl rfl ?_;refine tr_nil ?_;refine tr_blk_normal ?_;refine tr_then ?_)
        rw [← digV_snoc,← hx2]
        apply tr_next (p + 1) ⟨hpl,hdt,.inr (by omega)⟩ (by show s.size - (p + 1) < s.size - p;omega)
        case hs1=>exact .cons rfl (.cons rfl (.cons rfl .nil))
        case ht=>exact .cons .here .nil
    · have e0:=digB_bad hx3 (by simpa using hx)
      have hnx:¬ (48 ≤ x.toNat ∧ x.toNat ≤ 57):=fun h=>hx (by
        unfold isDg
        rw [Bool.and_eq_true,decide_eq_true_eq,decide_eq_true_eq];exact h)
      (refine s_r ?_;refine tr_nextS (.of rfl) .here rfl (fun hlt=>?_) (fun hlt=>(by omega));refine tr_val (rk_extract (.of rfl) rfl) rfl ?_;refine n_t ?_;refine tr_seq ?_;refine tr_cond_t (.of rfl) ?_;refine s_t ?_;refine tr_block ?_;refine s_r ?_;refine tr_val (rk_extract (.of rfl) rfl) rfl ?_;refine a_s rfl rfl ?_;refine n_t ?_;refine tr_seq ?_;refine s_r ?_;refine m_v rfl rfl ?_;refine tr_val (rk_lss (.of rfl) (.of rfl)) rfl ?_;refine m_v rfl rfl ?_;refine v_g rfl rfl rfl rfl ?_;refine tr_vG1 rfl rfl inferInstance (fun hg hgp=>(rk_gtr (.ofg hg rfl) (.of rfl))) rfl ?_;refine tr_val (rk_pick_or (.of rfl) rfl) rfl ?_;refine m_v rfl rfl ?_;refine v_g rfl rfl rfl rfl ?_;refine tr_vG1 rfl rfl inferInstance (fun hg hgp=>(rk_len_string (.ofg hg rfl))) rfl ?_;refine tr_vG1 rfl rfl inferInstance (fun hg hgp=>(rk_gtr (.ofg hg rfl) (.of rfl))) rfl ?_;refine tr_val (rk_pick_or (.of rfl) rfl) rfl ?_;refine n_t ?_;refine c_b rfl (fun hcd=>?_) (fun _=>by omega);refine s_r ?_;refine a_s rfl rfl ?_;refine a_s rfl rfl ?_;refine n_t ?_;refine r_t ?_;refine tr_blk_ret ?_;refine tr_then_ret ?_;refine tr_blk_ret ?_;refine tr_then_ret ?_;refine tr_retE rfl (ends2 rfl rfl rfl) ?_)
      rw [intB_ne hnl]
      unfold intC
      rw [e0];rfl
  · obtain rfl:p = s.size:=by omega
    rw [List.take_of_length_le (by rw [← size_toL];exact Nat.le_refl _)] at hd ⊢
    (refine s_r ?_;refine tr_nextS (.of rfl) .here rfl (fun hlt=>(by omega)) (fun hlt=>?_);refine tr_val (rk_extract (.of rfl) rfl) rfl ?_;refine n_t ?_;refine tr_seq ?_;refine tr_cond_f (.of rfl) ?_;refine x_t ?_;refine tr_then_exit ?_;refine tr_blk_exit ?_;refine tr_then ?_;refine s_r ?_;refine m_v rfl rfl ?_;refine m_v rfl rfl ?_;refine tr_val (rk_neqs (.of rfl) (.of rfl)) rfl ?_;refine a_s rfl rfl ?_;refine a_s rfl rfl ?_;refine n_t ?_;refine tr_ret ?_;refine tr_retE rfl (ends2 rfl rfl rfl) ?_)
    have h5:decide ((toL s).length ≤ 5) = true:=by rw [decide_eq_true_eq,← size_toL];omega
    have e1:intC (toL s) = digV (toL s):=by unfold intC;rw [hd,h5];rfl
    have e2:decide (s ≠ ⟨#[]⟩) = intB (toL s):=by
      unfold intB
      rw [hd,h5]
      by_cases hz:s.size = 0
      · obtain rfl:s = ⟨#[]⟩:=toL_inj (List.length_eq_zero_iff.1 (by rw [← size_toL];exact hz))
        rfl
      · have h1:=hne (by omega)
        have h2:s ≠ ⟨#[]⟩:=fun e=>hz (by rw [e];rfl)
        rw [decide_eq_true h2]
        cases e:toL s with
        | nil=>exact absurd e h1
        | cons a b=>rfl
    rw [e1,e2]
theorem plain_c (s:ByteArray) (w:World):GivesV Tryz.prog 151 [.string s] w (.tuple #[.int .i64 (intC (toL s)),.bool (nmB (toL s))]):=by
  have hint:∀ w',GivesV Tryz.prog 200 [.string s] w' (.tuple #[.int .i64 (intC (toL s)),.bool (intB (toL s))]):=fun w'=>integer_c s w'
  refine givesV_of_tr Tryz.func151 rfl rfl ?_
  by_cases hz:s.size = 0
  · obtain rfl:s = ⟨#[]⟩:=toL_inj (List.length_eq_zero_iff.1 (by rw [← size_toL];exact hz))
    rw [show intC (toL ⟨#[]⟩) = 0 from rfl,show intB (toL ⟨#[]⟩) = false from rfl] at hint
    (refine s_r ?_;refine a_s rfl rfl ?_;refine a_s rfl rfl ?_;refine n_r ?_;refine m_v rfl rfl ?_;refine tr_callV (rk_call (.of rfl) (.cons (.of rfl) .nil) inferInstance normc_) rfl (fun w' hm'=>(hint w')) ?_;refine m_v rfl rfl ?_;refine tr_val (rk_extract (.of rfl) rfl) rfl ?_;refine tr_val (rk_extract (.of rfl) rfl) rfl ?_;refine a_s rfl rfl ?_;refine a_s rfl rfl ?_;refine n_t ?_;refine tr_seq ?_)
    with_reducible refine tr_drawM 14 (by kernel_rfl) ?_
    (refine am_val (fun β=>(rk_move (.of rfl))) indC rfl ?_;refine am_val (fun β=>(rk_move (.of rfl))) indC rfl ?_;refine am_val (fun β=>(rk_move (.of rfl))) indC rfl ?_;refine am_gOff rfl (fun _=>rfl) (Or.inr rfl) rfl ?_;refine am_gOff rfl (fun _=>rfl) (Or.inr rfl) rfl ?_;refine am_gOff rfl (fun _=>rfl) (Or.inr rfl) rfl ?_;refine am_gOff rfl (fun _=>rfl) (Or.inr rfl) rfl ?_;refine am_gOff rfl (fun _=>rfl) (Or.inl rfl) rfl ?_;refine am_gOff rfl (fun _=>rfl) (Or.inl rfl) rfl ?_;refine am_gOff rfl (fun _=>rfl) (Or.inl rfl) rfl ?_;refine am_gOff rfl (fun _=>rfl) (Or.inr rfl) rfl ?_;refine am_val (fun β=>(rk_pickB (.of rfl) (.of rfl) (.of rfl) rfl)) indC rfl ?_;refine am_val (fun β=>(rk_assign (.of rfl))) indC rfl ?_;refine am_val (fun β=>(rk_assign (.of rfl))) indC rfl ?_)
    dsimp only [Nat.zero_add,Nat.reduceAdd]
    refine am_end fun β=>?_
    dsimp only [resAll,List.nil_append,List.cons_append,List.append_eq,Nat.reduceAdd]
    with_reducible refine left_done (by kernel_rfl) ?_
    (refine tr_then ?_;refine tr_ret ?_;refine tr_retE rfl (ends2 rfl rfl rfl) ?_)
    rfl
  · have hb0:=bt_hd (s:=s) (by omega)
    have hnl:toL s ≠ []:=fun e=>hz (by rw [size_toL,e];rfl)
    (refine s_r ?_;refine a_s rfl rfl ?_;refine a_s rfl rfl ?_;refine n_r ?_;refine m_v rfl rfl ?_;refine tr_callV (rk_call (.of rfl) (.cons (.of rfl) .nil) inferInstance normc_) rfl (fun w' hm'=>(hint w')) ?_;refine m_v rfl rfl ?_;refine tr_val (rk_extract (.of rfl) rfl) rfl ?_;refine tr_val (rk_extract (.of rfl) rfl) rfl ?_;refine a_s rfl rfl ?_;refine a_s rfl rfl ?_;refine n_t ?_;refine tr_seq ?_)
    with_reducible refine tr_draw 14 (by kernel_rfl) ?_
    (refine a_m rfl rfl ?_;refine a_m rfl rfl ?_;refine a_m rfl rfl ?_;refine any_vG1 rfl rfl inferInstance (fun hg hgp=>(rk_move (.of rfl))) rfl ?_;refine any_vG1 rfl rfl inferInstance (fun hg hgp=>(rk_len_string (.ofg hg rfl))) rfl ?_;refine any_vG1 rfl rfl inferInstance (fun hg hgp=>(rk_eql (.ofg hg rfl) (.of rfl))) rfl ?_;refine any_vG1 rfl rfl inferInstance (fun hg hgp=>(rk_move (.ofg hg rfl))) rfl ?_;refine any_vG rfl rfl inferInstance (fun hg hgp=>(rk_move (.of rfl))) rfl ?_;refine any_vG rfl rfl inferInstance (fun hg hgp=>(rk_indexS (.ofg hg rfl) (.of rfl) (by omega) (by omega))) rfl ?_;refine any_vG rfl rfl inferInstance (fun hg hgp=>(rk_neq (.ofg hg rfl) (.of rfl))) rfl ?_;refine any_vG1 rfl rfl inferInstance (fun hg hgp=>(rk_pick_or' hg (.ofg hg rfl) rfl)) rfl ?_;refine any_val (rk_pick_and (.of rfl) rfl) rfl ?_;refine any_val (rk_assign (.of rfl)) rfl ?_;refine any_val (rk_assign (.of rfl)) rfl ?_)
    with_reducible refine any_end ?_
    (refine n_t ?_;refine tr_ret ?_;refine tr_retE rfl (ends2 rfl rfl rfl) ?_)
    have e2:(intB (toL s) && (decide ((s.size:Int) = 1) || decide ((((s.data.toList[Int.toNat 0]?.getD 0).toNat:Nat):Int) ≠ 48))) = nmB (toL s):=by
      rw [intB_ne hnl,show Int.toNat 0 = 0 from rfl,hb0]
      unfold nmB
      rw [Bool.eq_iff_iff]
      simp only [Bool.and_eq_true,Bool.or_eq_true,decide_eq_true_eq,numB_iff,← size_toL]
      constructor
      · rintro ⟨⟨h1,h2⟩,h3⟩
        refine ⟨⟨hnl,h1,by omega,?_⟩,h2⟩
        rcases h3 with h3 | h3
        · exact .inl (by omega)
        · exact .inr fun e=>h3 (by rw [e];rfl)
      · rintro ⟨⟨_,h1,h2,h3⟩,h4⟩
        refine ⟨⟨h1,h4⟩,?_⟩
        rcases h3 with h3 | h3
        · exact .inl (by omega)
        · exact .inr fun e=>h3 (UInt8.toNat.inj (by have:(48:UInt8).toNat = 48:=rfl;omega))
    rw [e2]
end Go.Proofs.A1
