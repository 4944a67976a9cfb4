/- Parts of the proof: U22 U23 TryzShelf. -/
import Derived.Test.YthhidjfahmcekaaGreatDoorPM14
import Derived.Test.YthhidjfahmcekaaGreatDoorPM06
import Derived.Shelf.Strings.OnBuilder
import Derived.Shelf.LaysM
import Derived.Shelf.Strconv.Itoa3
import Derived.Ground.NamesProg
import Derived.Ground.Names2Prog
import Derived.Test.YthhidjfahmcekaaGreatDoorProg
set_option linter.unusedSectionVars false
set_option linter.unusedVariables false
set_option linter.unusedSimpArgs false
namespace Go.Proofs.A1
open Go Go.SL
theorem tr_rowLitE {c:Cx} {D:List Nat} {sl:Slots} {hs hs':List Asn} {X:Act → World → Prop} {E:TypeId} {g:Nat} {xs ys:List Value} (n sz:Nat) (ht:Take hs (blk g (.cells xs.toArray E (0,0))) hs') (he:xs = ys) (hl:ys.length = n * sz) (hn:Nat.ble n 1000 = true)
    (k:Tr c D sl (row E sz (.slice (some ⟨g,0,none⟩) n n) n ys :: hs') X):Tr c D sl hs X:=by
  subst he
  exact tr_rowShut (n:=n) (cap:=n) (cur:=[]) (by rw [List.append_nil];exact ht) (Nat.le_refl _) (by unfold maxLen;have:=Nat.le_of_ble_eq_true hn;omega) (by rw [List.append_nil,hl]) hl k
theorem rk_build0 {P:Program} {c:Cx} {sl:Slots} {hs:List Asn} {dst:Option Tmp} {ty:TypeId} {pos:String} {af:Array Edge} {g:Option (Nat × Bool)} {t e:TypeId} {agg:Bool} {size:Nat} [hu:Und P t (.slice e)] [hT:Ty P e agg size] :
    RunN P c sl hs ⟨dst,.buildSlice t 0 #[],ty,pos,af,g⟩ (fun b=>.slice (some ⟨b,0,none⟩) 0 0) (.cells ([]:List Value).toArray e):=
  rk_buildSlice (ps:=#[]) (fun a _=>by simp) fun w=>by
    have e0:Array.map (fun _=>(default:Value)) (Array.range 0) = #[]:=by apply Array.ext';simp
    unfold Instr.buildSlice
    simp [rk_underlying hu.eq,rk_sizeOf (t:=e) (agg:=agg) (n:=size),Instr.fill,newRow,e0]
theorem cloneC_c {lv:Value} {l:List Cp} {w:World} (h:Rd w lv 5 (cps l)) (hl:l.length ≤ 1000) :
    Gives Tryz.prog 124 [lv] w [] (fun _:Value=>True) id (fun v=>[row 195 5 v l.length (cpsV l)]):=by
  have h':=h
  obtain ⟨a,cp,b,o,rfl,hcap,hmax,ha,hc⟩:=h
  refine gives_of_tr Tryz.func124 rfl rfl ?_
  cases a with
  | none =>
    have hl0:l = []:=by
      cases l with
      | nil=>rfl
      | cons x r=>exact absurd (ha (by simp [cps])) (by simp)
    subst hl0
    (refine s_r ?_;refine a_s rfl rfl ?_;refine n_t ?_;refine tr_seq ?_;refine s_r ?_;refine m_v rfl rfl ?_;refine tr_val (rk_eqNil (.of rfl) (.of rfl)) rfl ?_;refine n_t ?_;refine tr_cond_t (.of rfl) ?_;refine s_r ?_;refine a_s rfl rfl ?_;refine n_t ?_;refine r_t ?_)
    refine tr_rowNil 195 5 ?_
    first | with_reducible apply tr_retM | with_reducible apply tr_endM
    case he=>exact ends1 rfl rfl
    case hR=>
      intro w' hm'
      exact gives_end (.slice none 0 0) trivial (show Takes _ [row 195 5 (.slice none 0 0) 0 []] _ by exact .cons .here .nil) hm' rfl
  | some ad =>
    (refine s_r ?_;refine a_s rfl rfl ?_;refine n_t ?_;refine tr_seq ?_;refine s_r ?_;refine m_v rfl rfl ?_;refine tr_val (rk_eqNil (.of rfl) (.of rfl)) rfl ?_;refine n_t ?_;refine tr_cond_f (.of rfl) ?_;refine s_t ?_;refine s_r ?_)
    with_reducible apply tr_new
    case hr=>exact rk_build0
    case hd=>rfl
    intro bq hbq
    refine m_v rfl rfl ?_
    refine tr_rowLitE (g:=bq) (E:=195) (ys:=[]) 0 5 (by exact .here) rfl rfl rfl ?_
    with_reducible apply tr_appendR
    case hx=>exact Is.of rfl
    case hy=>exact Is.of rfl
    case ht=>exact .here
    case hsrc=>exact fun w' hm'=>h'.keeps hm'.keeps
    case h1=>exact cps_one l
    case hz=>exact rfl
    case hsz=>exact rfl
    case hb0=>exact rfl
    case hb=>rw [cps_length];omega
    case hd=>rfl
    intro v'
    rw [cps_length,← cps_flat,Nat.zero_add,List.nil_append]
    (refine a_s rfl rfl ?_;refine n_t ?_;refine tr_ret ?_)
    first | with_reducible apply tr_retM | with_reducible apply tr_endM
    case he=>exact ends1 rfl rfl
    case hR=>
      intro w' hm'
      exact gives_end v' trivial (show Takes _ [row 195 5 v' l.length (cpsV l)] _ by exact .cons .here .nil) hm' rfl
theorem flat_at5 {l:List Cp} {j:Nat} (h:j < l.length):((cps l).flatten.drop (j * 5)).take 5 = (l[j]).cells:=by
  apply List.ext_getElem?
  intro t
  by_cases ht:t < 5
  · rw [List.getElem?_take_of_lt ht,List.getElem?_drop]
    have e2:((l[j]).cells)[t]? = some (((l[j]).cells)[t]'(by exact ht)):=List.getElem?_eq_getElem (by exact ht)
    rw [e2]
    exact flatten_get (sz:=5) (cps l) j (cps_sz _) (cps_get h) e2
  · rw [List.getElem?_eq_none (by rw [List.length_take];omega),List.getElem?_eq_none (by show 5 ≤ t;omega)]
theorem shown_l {lv:Value} {l:List Cp} {n:Int} {w:World} (h:Rd w lv 5 (cps l)) (hk:CapOk l):GivesV Tryz.prog 123 [lv,.int .i64 n] w (.agg #[.string (strB (rowB l n 0)),.string (strB (rowB l n 1)),.string (strB (rowB l n 2)),.string (strB (rowB l n 3)),.string (strB (rowB l n 4)),.string (strB (rowB l n 5)),.string (strB (rowB l n 6)),.string (strB (rowB l n 7))]):=shown_c h hk
theorem chB_lit (l:List Cp) (x:Int):(!(decide (strB (rowB l x 0) = strB (rowB l (x - 1) 0)) && (decide (strB (rowB l x 1) = strB (rowB l (x - 1) 1)) && (decide (strB (rowB l x 2) = strB (rowB l (x - 1) 2)) && (decide (strB (rowB l x 3) = strB (rowB l (x - 1) 3)) && (decide (strB (rowB l x 4) = strB (rowB l (x - 1) 4)) && (decide (strB (rowB l x 5) = strB (rowB l (x - 1) 5)) && (decide (strB (rowB l x 6) = strB (rowB l (x - 1) 6)) && (decide (strB (rowB l x 7) = strB (rowB l (x - 1) 7)) && true))))))))) = chB l x:=by
  unfold chB
  rw [decide_not]
  congr 1
  rw [Bool.eq_iff_iff]
  simp only [Bool.and_eq_true,decide_eq_true_eq,and_true]
  show _ ↔ [strB (rowB l x 0),strB (rowB l x 1),strB (rowB l x 2),strB (rowB l x 3),strB (rowB l x 4),strB (rowB l x 5),strB (rowB l x 6),strB (rowB l x 7)] = [strB (rowB l (x - 1) 0),strB (rowB l (x - 1) 1),strB (rowB l (x - 1) 2),strB (rowB l (x - 1) 3),strB (rowB l (x - 1) 4),strB (rowB l (x - 1) 5),strB (rowB l (x - 1) 6),strB (rowB l (x - 1) 7)]
  simp only [List.cons.injEq,and_true]
theorem endB_top {l:List Cp} (h:CapOk l) {n:Int} (he:endB l n = true):n ≤ 10000000:=by
  unfold endB at he
  rw [List.any_eq_true] at he
  obtain ⟨x,hx,h2⟩:=he
  obtain ⟨k,hk,rfl⟩:=List.getElem_of_mem hx
  have:=(h.ok k hk).sp
  rw [nthC_get hk] at this
  simp at h2
  omega
def chX (l:List Cp):List Int:=if capE l = 0 then (chL l).map fun (n:Nat)=>(n:Int) else []
set_option maxHeartbeats 2000000 in
theorem changes_c {lv:Value} {l:List Cp} {w:World} (h:Rd w lv 5 (cps l)) (hs:∀ x ∈ l,x.tx.size ≤ 1000000000) :
    Gives Tryz.prog 62 [lv] w [] (fun _:Value=>True) (fun v=>.tuple #[v,.int .i64 (capE l)]) (fun v=>[row 3 1 v (chX l).length (intgV (chX l))]):=by
  refine gives_of_tr Tryz.func62 rfl rfl ?_
  unfold chX
  (refine s_r ?_;refine a_s rfl rfl ?_;refine a_s rfl rfl ?_;refine n_t ?_;refine tr_seq ?_;refine s_r ?_;refine m_v rfl rfl ?_;refine tr_callV (rk_call (.of rfl) (.cons (.of rfl) .nil) inferInstance normc_) rfl (fun w' hm'=>(chkCaps_c (Rd.keeps h (Mem.keeps hm')) hs)) ?_;refine a_s rfl rfl ?_;refine n_r ?_;refine m_v rfl rfl ?_;refine tr_val (rk_neq (.of rfl) (.of rfl)) rfl ?_;refine n_t ?_;refine c_d rfl (fun hcd=>?_) (fun hcd=>?_);refine s_r ?_;refine m_v rfl rfl ?_;refine a_s rfl rfl ?_;refine a_s rfl rfl ?_;refine n_t ?_;refine r_t ?_;rotate_left;refine s_t ?_;refine s_r ?_;rotate_right)
  · rw [if_neg hcd]
    refine tr_rowNil 3 1 ?_
    first | with_reducible apply tr_retM | with_reducible apply tr_endM
    case he=>exact ends2 rfl rfl rfl
    case hR=>
      intro w' hm'
      exact gives_end (.slice none 0 0) trivial (show Takes _ [row 3 1 (.slice none 0 0) 0 []] _ by exact .cons .here .nil) hm' rfl
  have hz:=Decidable.not_not.1 hcd
  have hk:=capE_zero.1 hz
  have hfew:=hk.few
  rw [if_pos hz,hz]
  clear hcd
  with_reducible apply tr_makeMapI
  case hd=>rfl
  intro bm hbm
  (refine a_s rfl rfl ?_;refine n_r ?_;refine m_v rfl rfl ?_)
  with_reducible apply tr_call
  case hr=>exact rk_call (.of rfl) (.cons (.of rfl) .nil) inferInstance normc_
  case hd=>rfl
  case ht=>exact Takes.nil
  case hc=>
    intro w1 fp hm1 _ hs1
    obtain rfl:fp = []:=hs1
    exact cloneC_c (h.keeps hm1.keeps) (by omega)
  intro v6 _
  dsimp only [id_eq,List.cons_append,List.nil_append]
  (refine a_s rfl rfl ?_;refine n_r ?_;refine m_v rfl rfl ?_)
  with_reducible apply tr_call (As:=[row 195 5 v6 l.length (cpsV l)])
  case hr=>exact rk_call (.of rfl) (.cons (.of rfl) (.cons (.of rfl) .nil)) inferInstance normc_
  case hd=>rfl
  case ht=>exact .cons .here .nil
  case hc=>exact fun w1 fp hm1 _ hs1=>sortF_c rfl (by omega) hs1
  intro l' hp
  dsimp only [List.cons_append,List.nil_append]
  have hll:=hp.length_eq
  (refine n_t ?_;refine tr_seq ?_;refine s_r ?_;refine m_v rfl rfl ?_)
  refine tr_rowSl (E:=195) (sz:=5) (v:=v6) (by exact .here) fun a6 c6 e=>?_
  subst e
  (refine tr_val (rk_len_slice (.of rfl)) rfl ?_;refine m_v rfl rfl ?_;refine n_t ?_;refine tr_block ?_)
  refine tr_for (ι:=Nat × List (Int × Value)) (fun x=>x.1 ≤ l.length ∧ EndM l' x.1 x.2 ∧ x.2.length ≤ 2 * x.1) (fun x=>[(23,.int .i64 (x.1:Nat)),(22,.int .i64 l.length),(21,.slice a6 l.length c6),(5,.map (some bm)),(0,lv)]) (fun x=>[row 195 5 (.slice a6 l.length c6) l.length (cpsV l'),mp (fun n:Int=>Value.int .i64 n) bm x.2]) (fun x=>l.length - x.1) ?_ ?_
  · apply tr_start (0,[]) ⟨Nat.zero_le _,EndM.zero _,Nat.zero_le _⟩
    case hs1=>exact .cons rfl (.cons rfl (.cons rfl (.cons rfl (.cons rfl .nil))))
    case ht=>exact .cons .here (.cons .here .nil)
  rintro ⟨j,m⟩ ⟨hj,hE,hml⟩
  dsimp only at hj hE hml ⊢
  by_cases hlt:j < l.length
  · have hlt':j < l'.length:=by omega
    (refine s_r ?_;refine tr_val (rk_lss (.of rfl) (.of rfl)) rfl ?_;refine n_t ?_;refine tr_seq ?_;refine c_d rfl (fun hcd=>?_) (fun _=>by omega);refine s_t ?_;refine tr_seq ?_;refine tr_block ?_;refine s_r ?_)
    refine tr_rowOpen (E:=195) (sz:=5) (by exact .here) (show 0 < l.length by omega) ?_
    rintro g2 cap2 cur2 e hcap2 hmx2 hsz2 hxl2
    cases e
    have hcl:cellsAt (cpsV l'++cur2) (j * 5) 5 = (l'[j]).cells:=by
      rw [cellsAt_app (by rw [cpsV_len];omega),cps_flat,cellsAt_eq]
      exact flat_at5 hlt'
    have hnx:=fun (a b:Int) (u v:Value) hab=>hE.next (a:=a) (b:=b) hlt' u v hab
    generalize l'[j] = x at hcl hnx
    have hc5:x.cells.length = 5:=rfl
    unfold Cp.cells at hcl hc5
    (refine tr_val (rk_indexAddr (.of rfl) (.of rfl) rfl (by omega) hcd norm1_) rfl ?_;refine tr_val (rk_loadB (.of rfl) .here hcl rfl) rfl ?_;refine tr_new (rk_alloc rfl) rfl (fun _ _=>?_);refine tr_store (.of rfl) (.of rfl) .here rfl rfl (okc_cons rfl (okc_cons rfl (okc_cons rfl (okc_cons rfl (okc_cons rfl okc_nil))))) (lenb rfl) norm_ ?_;refine n_t ?_)
    with_reducible refine tr_left 10 rfl ?_
    (refine left_take 0 rfl kr_ kr_ kr_ (fun w ρ=>rfl) (fun w=>(rk_move (.of rfl))) rfl ?_;refine left_take 1 rfl kr_ kr_ kr_ (fun w ρ=>rfl) (fun w=>(rk_fieldAddr (.of rfl) norm0_)) rfl ?_;refine left_take 2 rfl kr_ kr_ kr_ (fun w ρ=>rfl) (fun w=>(rk_fieldAddr (.of rfl) norm0_)) rfl ?_;refine left_take 4 rfl kr_ kr_ kr_ (fun w ρ=>rfl) (fun w=>(rk_move (.of rfl))) rfl ?_;refine left_take 5 rfl kr_ kr_ kr_ (fun w ρ=>rfl) (fun w=>(rk_fieldAddr (.of rfl) norm0_)) rfl ?_;refine left_take 6 rfl kr_ kr_ kr_ (fun w ρ=>rfl) (fun w=>(rk_fieldAddr (.of rfl) norm0_)) rfl ?_)
    refine left_ready (rs:=[3,7]) (by kernel_rfl) (by simp) (List.forall_mem_cons.2 ⟨?_,List.forall_mem_cons.2 ⟨?_,fun _ h=>absurd h List.not_mem_nil⟩⟩)
    · refine next_step rfl ?_
      (refine tr_val (rk_load1 (.of rfl) (At.lit .here rfl)) rfl ?_;refine n_t ?_)
      refine left_ready (rs:=[7,8]) (by kernel_rfl) (by simp) (List.forall_mem_cons.2 ⟨?_,List.forall_mem_cons.2 ⟨?_,fun _ h=>absurd h List.not_mem_nil⟩⟩)
      · refine next_step rfl ?_
        (refine tr_val (rk_load1 (.of rfl) (At.lit .here rfl)) rfl ?_;refine n_t ?_)
        refine left_ready (rs:=[8]) (by kernel_rfl) (by simp) (List.forall_mem_cons.2 ⟨?_,fun _ h=>absurd h List.not_mem_nil⟩)
        refine next_step rfl ?_
        refine tr_mapUpdate keyI (.of rfl) (.of rfl) (.of rfl) (.there (.there .here)) ?_
        (refine n_t ?_)
        refine left_ready (rs:=[9]) (by kernel_rfl) (by simp) (List.forall_mem_cons.2 ⟨?_,fun _ h=>absurd h List.not_mem_nil⟩)
        refine next_step rfl ?_
        refine tr_mapUpdate keyI (.of rfl) (.of rfl) (.of rfl) .here ?_
        (refine n_t ?_)
        with_reducible refine left_done (by kernel_rfl) ?_
        (refine tr_blk_normal ?_;refine tr_then ?_;refine tr_region ?_;refine tr_val (rk_add (.of rfl) (.of rfl) (ini (by omega))) rfl ?_;refine m_v rfl rfl ?_;refine n_t ?_)
        refine tr_rowShut (E:=195) (n:=l.length) (cap:=c6) (sz:=5) (cur:=cur2) (xs:=cpsV l') (by exact Take.there (.there .here)) hcap2 hmx2 hsz2 hxl2 ?_
        apply tr_next (j + 1,aset x.to (.bool true) (aset x.fr (.bool true) m)) ⟨show j + 1 ≤ l.length by omega,hnx _ _ _ _ (.inl ⟨rfl,rfl⟩),Nat.le_trans (aset_len _ _ _) (by have:=aset_len x.fr (.bool true) m;omega)⟩ (show l.length - (j + 1) < l.length - j by omega)
        case hs1=>exact .cons rfl (.cons rfl (.cons rfl (.cons rfl (.cons rfl .nil))))
        case ht=>exact .cons .here (.cons .here .nil)
      · refine next_step rfl ?_
        refine tr_mapUpdate keyI (.of rfl) (.of rfl) (.of rfl) (.there (.there .here)) ?_
        (refine n_t ?_)
        refine left_ready (rs:=[7]) (by kernel_rfl) (by simp) (List.forall_mem_cons.2 ⟨?_,fun _ h=>absurd h List.not_mem_nil⟩)
        refine next_step rfl ?_
        (refine tr_val (rk_load1 (.of rfl) (At.lit (.there .here) rfl)) rfl ?_;refine n_t ?_)
        refine left_ready (rs:=[9]) (by kernel_rfl) (by simp) (List.forall_mem_cons.2 ⟨?_,fun _ h=>absurd h List.not_mem_nil⟩)
        refine next_step rfl ?_
        refine tr_mapUpdate keyI (.of rfl) (.of rfl) (.of rfl) .here ?_
        (refine n_t ?_)
        with_reducible refine left_done (by kernel_rfl) ?_
        (refine tr_blk_normal ?_;refine tr_then ?_;refine tr_region ?_;refine tr_val (rk_add (.of rfl) (.of rfl) (ini (by omega))) rfl ?_;refine m_v rfl rfl ?_;refine n_t ?_)
        refine tr_rowShut (E:=195) (n:=l.length) (cap:=c6) (sz:=5) (cur:=cur2) (xs:=cpsV l') (by exact Take.there (.there .here)) hcap2 hmx2 hsz2 hxl2 ?_
        apply tr_next (j + 1,aset x.to (.bool true) (aset x.fr (.bool true) m)) ⟨show j + 1 ≤ l.length by omega,hnx _ _ _ _ (.inl ⟨rfl,rfl⟩),Nat.le_trans (aset_len _ _ _) (by have:=aset_len x.fr (.bool true) m;omega)⟩ (show l.length - (j + 1) < l.length - j by omega)
        case hs1=>exact .cons rfl (.cons rfl (.cons rfl (.cons rfl (.cons rfl .nil))))
        case ht=>exact .cons .here (.cons .here .nil)
    · refine next_step rfl ?_
      (refine tr_val (rk_load1 (.of rfl) (At.lit .here rfl)) rfl ?_;refine n_t ?_)
      refine left_ready (rs:=[3]) (by kernel_rfl) (by simp) (List.forall_mem_cons.2 ⟨?_,fun _ h=>absurd h List.not_mem_nil⟩)
      refine next_step rfl ?_
      (refine tr_val (rk_load1 (.of rfl) (At.lit .here rfl)) rfl ?_;refine n_t ?_)
      refine left_ready (rs:=[8]) (by kernel_rfl) (by simp) (List.forall_mem_cons.2 ⟨?_,fun _ h=>absurd h List.not_mem_nil⟩)
      refine next_step rfl ?_
      refine tr_mapUpdate keyI (.of rfl) (.of rfl) (.of rfl) (.there (.there .here)) ?_
      (refine n_t ?_)
      refine left_ready (rs:=[9]) (by kernel_rfl) (by simp) (List.forall_mem_cons.2 ⟨?_,fun _ h=>absurd h List.not_mem_nil⟩)
      refine next_step rfl ?_
      refine tr_mapUpdate keyI (.of rfl) (.of rfl) (.of rfl) .here ?_
      (refine n_t ?_)
      with_reducible refine left_done (by kernel_rfl) ?_
      (refine tr_blk_normal ?_;refine tr_then ?_;refine tr_region ?_;refine tr_val (rk_add (.of rfl) (.of rfl) (ini (by omega))) rfl ?_;refine m_v rfl rfl ?_;refine n_t ?_)
      refine tr_rowShut (E:=195) (n:=l.length) (cap:=c6) (sz:=5) (cur:=cur2) (xs:=cpsV l') (by exact Take.there (.there .here)) hcap2 hmx2 hsz2 hxl2 ?_
      apply tr_next (j + 1,aset x.to (.bool true) (aset x.fr (.bool true) m)) ⟨show j + 1 ≤ l.length by omega,hnx _ _ _ _ (.inl ⟨rfl,rfl⟩),Nat.le_trans (aset_len _ _ _) (by have:=aset_len x.fr (.bool true) m;omega)⟩ (show l.length - (j + 1) < l.length - j by omega)
      case hs1=>exact .cons rfl (.cons rfl (.cons rfl (.cons rfl (.cons rfl .nil))))
      case ht=>exact .cons .here (.cons .here .nil)
  · obtain rfl:j = l.length:=by omega
    have hE':EndM l' l'.length m:=by rw [hll];exact hE
    (refine s_r ?_;refine tr_val (rk_lss (.of rfl) (.of rfl)) rfl ?_;refine n_t ?_;refine tr_seq ?_;refine c_d rfl (fun _=>by omega) (fun hcd=>?_);refine x_t ?_;refine tr_then_exit ?_;refine tr_blk_exit ?_;refine tr_then ?_;refine s_r ?_;refine a_s rfl rfl ?_;refine n_t ?_;refine tr_seq ?_;refine s_r ?_;refine m_v rfl rfl ?_)
    refine tr_mpOpen (kv:=fun n:Int=>Value.int .i64 n) (by exact Take.there .here) fun es ck hmp=>?_
    with_reducible apply tr_new
    case hr=>
      with_reducible apply rk_rangeM
      case hx=>exact Is.of rfl
      case ht=>exact .here
    case hd=>rfl
    intro bi hbi
    (refine n_t ?_;refine tr_block ?_)
    refine tr_rowNil 3 1 ?_
    refine tr_for (ι:=Array Nat × List Int × Value) (fun x=>FndM l es x.1 x.2.1 ∧ x.2.1.length + (leftOf es x.1).size ≤ 64) (fun x=>[(37,.pointer (some ⟨bi,0,none⟩)),(9,x.2.2),(0,lv)]) (fun x=>[blk bi (.mapIter (some bm) ck x.1 ck),blk bm (.map es ck),row 3 1 x.2.2 x.2.1.length (intgV x.2.1)]) (fun x=>(leftOf es x.1).size) ?_ ?_
    · apply tr_start (#[],[],.slice none 0 0) ⟨FndM.zero l es,by
        have h1:es.toList.length = m.length:=by
          have:=congrArg List.length hmp.eq
          rwa [List.length_map,List.length_map] at this
        have h2:=Array.size_filter_le (p:=fun e:MapEntry=>!(#[]:Array Nat).contains e.born) (xs:=es)
        have h3:(leftOf es #[]).size ≤ es.size:=h2
        rw [Array.length_toList] at h1
        show 0 + (leftOf es #[]).size ≤ 64
        omega⟩
      case hs1=>exact .cons rfl (.cons rfl (.cons rfl .nil))
      case ht=>
        show Takes _ [blk bi (.mapIter (some bm) ck #[] ck),blk bm (.map es ck),row 3 1 (.slice none 0 0) 0 []] _
        exact .cons (.there .here) (.cons (.there .here) (.cons .here .nil))
    rintro ⟨seen,out,v9⟩ ⟨hF,hbd⟩
    dsimp only at hF hbd ⊢
    (refine s_r ?_)
    with_reducible apply tr_nextM
    case hx=>exact Is.of rfl
    case hd=>rfl
    case ht=>exact .here
    case ht2=>exact .here
    case hold=>exact hmp.lt
    case hsc=>exact Nat.le_refl _
    case hck=>exact Nat.le_refl _
    case k0=>
      intro hall
      have hmem:=hF.all hmp hE' hp hall
      have hso:=ch_sorted hk hF.nd hmem
      (refine tr_val (rk_extract (.of rfl) rfl) rfl ?_;refine n_t ?_;refine tr_seq ?_;refine tr_cond_f (.of rfl) ?_;refine x_t ?_;refine tr_then_exit ?_;refine tr_blk_exit ?_;refine tr_then ?_;refine s_r ?_;refine m_v rfl rfl ?_)
      with_reducible apply tr_call (As:=[row 3 1 v9 out.length (intgV out)])
      case hr=>exact rk_call (.of rfl) (.cons (.of rfl) .nil) inferInstance normc_
      case hd=>rfl
      case ht=>exact .cons (.there (.there .here)) .nil
      case hc=>exact fun w1 fp hm1 _ hs1=>sort_c rfl (by omega) hs1
      intro u _
      dsimp only [List.cons_append,List.nil_append]
      (refine n_r ?_;refine m_v rfl rfl ?_;refine a_s rfl rfl ?_;refine a_s rfl rfl ?_;refine n_t ?_;refine tr_ret ?_)
      rw [← srt_len out,hso]
      first | with_reducible apply tr_retM | with_reducible apply tr_endM
      case he=>exact ends2 rfl rfl rfl
      case hR=>
        intro w' hm'
        exact gives_end v9 trivial (by exact .cons .here .nil) hm' rfl
    case k1=>
      intro e he hns
      obtain ⟨x,hxk,hke⟩:=ent_int hmp he
      have hex:endB l x = true:=by
        have:=(hE'.mem x).1 hxk
        rwa [List.take_length,endB_perm hp] at this
      have hx0:=endB_pos hk hex
      have hx1:=endB_top hk hex
      have hnext:=hF.next hmp hE'.nd he hns hke
      have hshr:=left_shrinks es seen e (left_mem he hns)
      (refine tr_val (rk_extract (.of rfl) rfl) rfl ?_;refine n_t ?_;refine tr_seq ?_;refine tr_cond_t (.of rfl) ?_;refine s_t ?_;refine tr_block ?_;refine s_r ?_)
      with_reducible apply tr_val
      case hr=>
        with_reducible apply rk_entry
        case hx=>exact Is.of rfl
        case ht=>exact .here
        case ht2=>exact .here
        case he=>exact he
        case hn=>exact hmp.nd
      case hd=>rfl
      rw [hke]
      have hch:=chB_lit l x
      (refine tr_val (rk_extract (.of rfl) rfl) rfl ?_;refine a_s rfl rfl ?_;refine n_r ?_;refine m_v rfl rfl ?_;refine m_v rfl rfl ?_;refine tr_callV (rk_call (.of rfl) (.cons (.of rfl) (.cons (.of rfl) .nil)) inferInstance normc_) rfl (fun w' hm'=>(shown_l (Rd.keeps h (Mem.keeps hm')) hk)) ?_;refine m_v rfl rfl ?_;refine m_v rfl rfl ?_;refine tr_val (rk_sub (.of rfl) (.of rfl) (ini (by omega))) rfl ?_;refine tr_callV (rk_call (.of rfl) (.cons (.of rfl) (.cons (.of rfl) .nil)) inferInstance normc_) rfl (fun w' hm'=>(shown_l (Rd.keeps h (Mem.keeps hm')) hk)) ?_;refine tr_val (rk_neqA (.of rfl) (.of rfl) (okL_string (okL_string (okL_string (okL_string (okL_string (okL_string (okL_string (okL_string okL_nil)))))))) rfl) rfl ?_;refine n_t ?_;refine c_b rfl (fun hcd=>?_) (fun hcd=>?_);refine tr_region ?_;refine m_v rfl rfl ?_;refine m_v rfl rfl ?_;refine tr_new (rk_sliceLit (.cons (.of rfl) .nil) rfl rfl rfl rfl) rfl (fun _ _=>?_);rotate_left;refine tr_skip ?_;refine tr_blk_normal ?_;refine tr_then ?_;rotate_right)
      · have hc:chB l x = true:=by
          rw [← hch]
          simp only [Bool.not_eq_true',Bool.and_eq_false_iff,decide_eq_false_iff_not]
          exact hcd
        rw [hc,if_pos rfl] at hnext
        have hav:intgV (out++[x]) = intgV out++[.int .i64 x]:=by rw [intgV_app];rfl
        have hal:(out++[x]).length = out.length + 1:=by simp
        refine tr_appendB (.of rfl) (.of rfl) (.there (.there (.there .here))) .here norm_ (by rfl) (okc_cons rfl okc_nil) (by rfl) (by rfl) (by rfl) lenx_ (by rfl) ?_
        intro v8
        (refine a_s rfl rfl ?_;refine tr_nil ?_;refine tr_blk_normal ?_;refine tr_then ?_)
        apply tr_next (seen.push e.born,out++[x],v8) ⟨hnext,by show (out++[x]).length + (leftOf es (seen.push e.born)).size ≤ 64;omega⟩ hshr
        case hs1=>exact .cons rfl (.cons rfl (.cons rfl .nil))
        case ht=>
          show Takes _ [blk bi (.mapIter (some bm) ck (seen.push e.born) ck),blk bm (.map es ck),row 3 1 v8 (out++[x]).length (intgV (out++[x]))] _
          rw [hal,hav]
          exact .cons (.there (.there .here)) (.cons (.there (.there .here)) (.cons .here .nil))
      · have hc:chB l x = false:=by
          rw [← hch]
          simpa using hcd
        rw [hc,if_neg (by decide),List.append_nil] at hnext
        apply tr_next (seen.push e.born,out,v9) ⟨hnext,by show out.length + (leftOf es (seen.push e.born)).size ≤ 64;omega⟩ hshr
        case hs1=>exact .cons rfl (.cons rfl (.cons rfl .nil))
        case ht=>exact .cons .here (.cons .here (.cons .here .nil))
end Go.Proofs.A1
namespace Go.Proofs.A1
open Go Go.SL
theorem ones_c (b:Int) (hb:0 ≤ b ∧ b ≤ 255) (w:World):GivesV Tryz.prog 185 [.int .u8 b] w (.int .i64 (cntQ b 8)):=by
  refine givesV_of_tr Tryz.func185 rfl rfl ?_
  (refine s_r ?_;refine a_s rfl rfl ?_;refine n_r ?_;refine m_v rfl rfl ?_)
  with_reducible apply tr_val
  case hr=>
    with_reducible apply rk_indexS
    case hx=>exact Is.of rfl
    case hy=>exact Is.of rfl
    case h0=>omega
    case h1=>exact Int.lt_of_le_of_lt hb.2 (by decide +kernel)
  case hd=>rfl
  (refine tr_val (rk_conv (.of rfl)) rfl ?_;refine a_s rfl rfl ?_;refine n_t ?_;refine tr_ret ?_;refine tr_retE rfl (ends1 rfl rfl) ?_)
  obtain ⟨k,hk,rfl⟩:=byte_nat hb
  congr 1
  revert k
  decide +kernel
theorem odd_c (b:Int) (hb:0 ≤ b ∧ b ≤ 255) (w:World):GivesV Tryz.prog 120 [.int .u8 b] w (.bool (oddB b)):=by
  have hn:0 ≤ cntQ b 8 ∧ cntQ b 8 ≤ 8:=by
    obtain ⟨k,hk,rfl⟩:=byte_nat hb
    revert k
    decide +kernel
  refine givesV_of_tr Tryz.func120 rfl rfl ?_
  (refine s_r ?_;refine a_s rfl rfl ?_;refine n_r ?_;refine m_v rfl rfl ?_;refine tr_callV (rk_call (.of rfl) (.cons (.of rfl) .nil) inferInstance normc_) rfl (fun w' hm'=>(ones_c b hb w')) ?_;refine tr_val (rk_rem (.of rfl) (.of rfl) (by omega) (by omega)) rfl ?_;refine tr_val (rk_eql (.of rfl) (.of rfl)) rfl ?_;refine a_s rfl rfl ?_;refine n_t ?_;refine tr_ret ?_;refine tr_retE rfl (ends1 rfl rfl) ?_)
  rfl
theorem sntE_hi {s:ByteArray} (h4:¬ 4000 < s.size) {k:Nat} (hk:k < s.size) (h:128 ≤ bt s k):sntE s = 1:=by unfold sntE;rw [if_neg h4,if_pos (hiB_at hk h)]
theorem sntE_no {s:ByteArray} (h4:¬ 4000 < s.size) (h:∀ k,k < s.size → ¬ 128 ≤ bt s k):sntE s = 0:=by unfold sntE;rw [if_neg h4,if_neg (by rw [hiB_no h];decide)]
theorem bt_in (s:ByteArray) (k:Nat):0 ≤ bt s k ∧ bt s k ≤ 255:=by unfold bt;have:=(s.data.toList[k]?.getD 0).toNat_lt;omega
theorem sent_c (s:ByteArray) (w:World) :
    Gives Tryz.prog 51 [.string s] w [] (fun _:Value=>True) (fun v=>.tuple #[v,.int .i64 (sntE s)]) (fun v=>[row 5 1 v (sntL s).length (bytsV (sntL s))]):=by
  refine gives_of_tr Tryz.func51 rfl rfl ?_
  (refine s_r ?_;refine a_s rfl rfl ?_;refine a_s rfl rfl ?_;refine n_t ?_;refine tr_seq ?_;refine s_r ?_;refine m_v rfl rfl ?_;refine tr_val (rk_len_string (.of rfl)) rfl ?_;refine tr_val (rk_gtr (.of rfl) (.of rfl)) rfl ?_;refine n_t ?_;refine c_d rfl (fun hcd=>?_) (fun hcd=>?_);refine s_r ?_;refine a_s rfl rfl ?_;refine a_s rfl rfl ?_;refine n_t ?_;refine r_t ?_;rotate_left;refine s_t ?_;refine s_r ?_;refine a_s rfl rfl ?_;refine n_t ?_;refine tr_seq ?_;refine s_r ?_;refine m_v rfl rfl ?_;refine tr_val (rk_len_string (.of rfl)) rfl ?_;refine m_v rfl rfl ?_;refine n_t ?_;refine tr_block ?_;rotate_right)
  · have e:sntE s = 26:=by unfold sntE;rw [if_pos (by omega)]
    rw [show sntL s = [] by unfold sntL;rw [e,if_neg (by decide)],e]
    refine tr_rowNil 5 1 ?_
    first | with_reducible apply tr_retM | with_reducible apply tr_endM
    case he=>exact ends2 rfl rfl rfl
    case hR=>
      intro w' hm'
      exact gives_end (.slice none 0 0) trivial (show Takes _ [row 5 1 (.slice none 0 0) 0 []] _ by exact .cons .here .nil) hm' rfl
  have h4:¬ 4000 < s.size:=by omega
  refine tr_rowNil 5 1 ?_
  refine tr_for (ι:=Nat × Value) (fun x=>x.1 ≤ s.size ∧ ∀ i,i < x.1 → ¬ 128 ≤ bt s i) (fun x=>[(12,.int .i64 (x.1:Nat)),(11,.int .i64 s.size),(0,.string s),(4,x.2)]) (fun x=>[row 5 1 x.2 x.1 (bytsV (sntK s x.1))]) (fun x=>s.size - x.1) ?_ ?_
  · apply tr_start (0,.slice none 0 0) ⟨Nat.zero_le _,fun i h=>absurd h (by omega)⟩
    case hs1=>exact .cons rfl (.cons rfl (.cons rfl (.cons rfl .nil)))
    case ht=>
      show Takes _ [row 5 1 (.slice none 0 0) 0 []] _
      exact .cons .here .nil
  rintro ⟨k,v⟩ ⟨hk,hf⟩
  dsimp only at hk hf ⊢
  by_cases hlt:k < s.size
  · have hbb:=bt_in s k
    have hod:∀ w,GivesV Tryz.prog 120 [.int .u8 ((s.data.toList[((k:Nat):Int).toNat]?.getD 0).toNat:Nat)] w (.bool (oddB (bt s k))):=fun w=>odd_c _ hbb w
    have hbt:(((s.data.toList[((k:Nat):Int).toNat]?.getD 0).toNat:Nat):Int) = bt s k:=rfl
    have hsk:sntK s (k + 1) = sntK s k++[sntB (bt s k)]:=sntK_succ s k
    have hskv:bytsV (sntK s (k + 1)) = bytsV (sntK s k)++[.int .u8 (sntB (bt s k))]:=by rw [hsk,bytsV_app];rfl
    have hol:(bytsV (sntK s k)).length = k * 1:=by rw [bytsV_len,sntK_len]
    (refine s_r ?_;refine tr_val (rk_lss (.of rfl) (.of rfl)) rfl ?_;refine n_t ?_;refine tr_seq ?_;refine c_d rfl (fun hcd=>?_) (fun _=>by omega);refine s_t ?_;refine tr_seq ?_;refine tr_block ?_;refine s_r ?_;refine m_v rfl rfl ?_;refine a_s rfl rfl ?_;refine n_r ?_;refine m_v rfl rfl ?_;refine m_v rfl rfl ?_;refine tr_val (rk_indexS (.of rfl) (.of rfl) (by omega) hcd) rfl ?_;refine a_s rfl rfl ?_;refine n_t ?_;refine tr_block ?_;refine s_r ?_;refine m_v rfl rfl ?_;refine tr_val (rk_geq (.of rfl) (.of rfl)) rfl ?_;refine a_s rfl rfl ?_;refine n_t ?_;refine c_d rfl (fun hcd=>?_) (fun hcd=>?_);refine s_r ?_;refine a_s rfl rfl ?_;refine a_s rfl rfl ?_;refine n_t ?_;refine tr_ret ?_;refine tr_blk_ret ?_;refine tr_blk_ret ?_;refine tr_then_ret ?_;refine tr_then_ret ?_;refine tr_blk_ret ?_;refine tr_then_ret ?_;rotate_left;refine s_r ?_;refine m_v rfl rfl ?_;refine tr_callV (rk_call (.of rfl) (.cons (.of rfl) .nil) inferInstance normc_) rfl (fun w' hm'=>(hod w')) ?_;refine a_s rfl rfl ?_;refine n_t ?_;refine c_d rfl (fun hcd=>?_) (fun hcd=>?_);refine tr_region ?_;refine m_v rfl rfl ?_;refine m_v rfl rfl ?_;refine tr_new (rk_sliceLit (.cons (.of rfl) .nil) rfl rfl rfl rfl) rfl (fun _ _=>?_);rotate_left;refine tr_region ?_;refine m_v rfl rfl ?_;refine m_v rfl rfl ?_;refine tr_val (rk_or8 (.of rfl) (.of rfl)) rfl ?_;refine tr_new (rk_sliceLit (.cons (.of rfl) .nil) rfl rfl rfl rfl) rfl (fun _ _=>?_);rotate_right;rotate_right)
    · have e:=sntE_hi h4 hlt hcd
      rw [show sntL s = [] by unfold sntL;rw [e,if_neg (by decide)],e]
      refine tr_rowNil 5 1 ?_
      first | with_reducible apply tr_retM | with_reducible apply tr_endM
      case he=>exact ends2 rfl rfl rfl
      case hR=>
        intro w' hm'
        exact gives_end (.slice none 0 0) trivial (show Takes _ [row 5 1 (.slice none 0 0) 0 []] _ by exact .cons .here .nil) hm' rfl
    · have ho:oddB (bt s k) = true:=by unfold oddB;simpa using hcd
      have hb:sntB (bt s k) = bt s k:=by unfold sntB;rw [if_pos ho]
      rw [hb] at hskv
      rw [hbt]
      refine tr_appendB (.of rfl) (.of rfl) (.there .here) .here norm_ (by rfl) (okc_cons rfl okc_nil) (by rfl) (by rfl) (by rfl) lenx_ (by rfl) ?_
      intro v'
      (refine a_s rfl rfl ?_;refine tr_nil ?_;refine tr_blk_normal ?_;refine tr_blk_normal ?_;refine tr_then ?_;refine tr_region ?_;refine tr_val (rk_add (.of rfl) (.of rfl) (ini (by omega))) rfl ?_;refine m_v rfl rfl ?_;refine n_t ?_)
      apply tr_next (k + 1,v') ⟨show k + 1 ≤ s.size by omega,fun i hi=>by
        by_cases e:i = k
        · rw [e];assumption
        · exact hf i (by omega)⟩ (show s.size - (k + 1) < s.size - k by omega)
      case hs1=>exact .cons rfl (.cons rfl (.cons rfl (.cons rfl .nil)))
      case ht=>
        show Takes _ [row 5 1 v' (k + 1) (bytsV (sntK s (k + 1)))] _
        rw [hskv]
        exact .cons .here .nil
    · have ho:¬ oddB (bt s k) = true:=by unfold oddB;simpa using hcd
      have hb:sntB (bt s k) = orF (bt s k) 128:=by unfold sntB;rw [if_neg ho]
      rw [hb] at hskv
      rw [hbt]
      refine tr_appendB (.of rfl) (.of rfl) (.there .here) .here norm_ (by rfl) (okc_cons rfl okc_nil) (by rfl) (by rfl) (by rfl) lenx_ (by rfl) ?_
      intro v'
      (refine a_s rfl rfl ?_;refine tr_nil ?_;refine tr_blk_normal ?_;refine tr_blk_normal ?_;refine tr_then ?_;refine tr_region ?_;refine tr_val (rk_add (.of rfl) (.of rfl) (ini (by omega))) rfl ?_;refine m_v rfl rfl ?_;refine n_t ?_)
      apply tr_next (k + 1,v') ⟨show k + 1 ≤ s.size by omega,fun i hi=>by
        by_cases e:i = k
        · rw [e];assumption
        · exact hf i (by omega)⟩ (show s.size - (k + 1) < s.size - k by omega)
      case hs1=>exact .cons rfl (.cons rfl (.cons rfl (.cons rfl .nil)))
      case ht=>
        show Takes _ [row 5 1 v' (k + 1) (bytsV (sntK s (k + 1)))] _
        rw [hskv]
        exact .cons .here .nil
  · obtain rfl:k = s.size:=by omega
    have e:=sntE_no h4 hf
    have hL:sntL s = sntK s s.size:=by unfold sntL;rw [if_pos e]
    rw [hL,e,sntK_len]
    (refine s_r ?_;refine tr_val (rk_lss (.of rfl) (.of rfl)) rfl ?_;refine n_t ?_;refine tr_seq ?_;refine c_d rfl (fun _=>by omega) (fun hcd=>?_);refine x_t ?_;refine tr_then_exit ?_;refine tr_blk_exit ?_;refine tr_then ?_;refine s_r ?_;refine m_v rfl rfl ?_;refine a_s rfl rfl ?_;refine a_s rfl rfl ?_;refine n_t ?_;refine tr_ret ?_)
    first | with_reducible apply tr_retM | with_reducible apply tr_endM
    case he=>exact ends2 rfl rfl rfl
    case hR=>
      intro w' hm'
      exact gives_end v trivial (by exact .cons .here .nil) hm' rfl
def hrdX (l:List Int):ByteArray:=if hrdE l.length = 0 then strOf (hrdT l) else ⟨#[]⟩
def hrdL (l:List Int):List Nat:=if hrdE l.length = 0 then hrdW l l.length else []
theorem hrdV_at {l:List Int} {k:Nat} (hk:k < l.length) (v:Int):setCells (hrdV l k) (k * 1) [.int .u8 v] = (hrdV l k).set k (.int .u8 v):=by
  show (hrdV l k).set (k * 1) _ = _
  rw [Nat.mul_one]
theorem hrdV_zero (l:List Int):hrdV l 0 = List.replicate l.length (.int .u8 0):=by simp [hrdV]
theorem heard_c {sv:Value} {l:List Int} {w:World} (h:Rd w sv 1 (byts l)) (hby:∀ x ∈ l,0 ≤ x ∧ x ≤ 255) :
    Gives Tryz.prog 52 [sv] w [] (fun _:Value=>True) (fun v=>.tuple #[.string (hrdX l),v,.int .i64 (hrdE l.length)]) (fun v=>[row 3 1 v (hrdL l).length (natsV (hrdL l))]):=by
  have h1':=h
  obtain ⟨a,cap,b,o,rfl,hcap,hmax,ha,hc⟩:=h1'
  rw [byts_length] at *
  unfold maxLen at hmax
  refine gives_of_tr Tryz.func52 rfl rfl ?_
  (refine s_r ?_;refine a_s rfl rfl ?_;refine a_s rfl rfl ?_;refine a_s rfl rfl ?_;refine n_t ?_;refine tr_seq ?_;refine s_r ?_;refine m_v rfl rfl ?_;refine tr_callV (rk_call (.of rfl) (.cons (.of rfl) .nil) inferInstance normc_) rfl (fun w' hm'=>(chkBytes_c a _ cap w')) ?_;refine a_s rfl rfl ?_;refine n_r ?_;refine m_v rfl rfl ?_;refine tr_val (rk_neq (.of rfl) (.of rfl)) rfl ?_;refine n_t ?_;refine c_d rfl (fun hcd=>?_) (fun hcd=>?_);refine s_r ?_;refine m_v rfl rfl ?_;refine a_s rfl rfl ?_;refine a_s rfl rfl ?_;refine a_s rfl rfl ?_;refine n_t ?_;refine r_t ?_;rotate_left;refine s_t ?_;refine s_r ?_;refine m_v rfl rfl ?_;refine tr_val (rk_len_slice (.of rfl)) rfl ?_;rotate_right)
  · rw [hrdX,hrdL,if_neg hcd,if_neg hcd]
    refine tr_rowNil 3 1 ?_
    first | with_reducible apply tr_retM | with_reducible apply tr_endM
    case he=>exact ends3 rfl rfl rfl rfl
    case hR=>
      intro w' hm'
      exact gives_end (.slice none 0 0) trivial (show Takes _ [row 3 1 (.slice none 0 0) 0 []] _ by exact .cons .here .nil) hm' rfl
  have hz:hrdE l.length = 0:=Decidable.not_not.1 hcd
  have hfew:l.length ≤ 4000:=by
    unfold hrdE at hz
    by_cases h4:4000 < l.length
    · rw [if_pos h4] at hz;cases hz
    · omega
  rw [hrdX,hrdL,if_pos hz,if_pos hz,hz]
  with_reducible apply tr_new
  case hr=>
    with_reducible apply rk_make
    case hx=>exact Is.of rfl
    case hy=>exact Is.of rfl
    case hl=>omega
    case hb=>omega
    case hz=>rfl
    case hsz=>rfl
    case h63=>omega
  case hd=>rfl
  intro g hg
  have hrep:(List.replicate l.length (Value.int .u8 0).cells.toList).flatten = hrdV l 0:=by
    rw [hrdV_zero]
    have:=flatten_singletons (List.replicate l.length (Value.int .u8 0))
    rw [List.map_replicate] at this
    exact this
  rw [hrep]
  (refine a_s rfl rfl ?_;refine n_r ?_;refine a_s rfl rfl ?_;refine n_t ?_;refine tr_seq ?_;refine s_r ?_;refine m_v rfl rfl ?_;refine tr_val (rk_len_slice (.of rfl)) rfl ?_;refine m_v rfl rfl ?_;refine n_t ?_;refine tr_block ?_)
  refine tr_rowNil 3 1 ?_
  refine tr_for (ι:=Nat × Value) (fun x=>x.1 ≤ l.length) (fun x=>[(20,.int .i64 (x.1:Nat)),(19,.int .i64 l.length),(18,.slice a l.length cap),(6,.slice (some ⟨g,0,none⟩) l.length l.length),(7,x.2)]) (fun x=>[blk g (.cells (hrdV l x.1).toArray 5 (0,0)),row 3 1 x.2 (hrdW l x.1).length (natsV (hrdW l x.1))]) (fun x=>l.length - x.1) ?_ ?_
  · apply tr_start (0,.slice none 0 0) (Nat.zero_le _)
    case hs1=>exact .cons rfl (.cons rfl (.cons rfl (.cons rfl (.cons rfl .nil))))
    case ht=>
      show Takes _ [blk g (.cells (hrdV l 0).toArray 5 (0,0)),row 3 1 (.slice none 0 0) 0 []] _
      exact .cons (.there .here) (.cons .here .nil)
  rintro ⟨k,v⟩ hk
  dsimp only at hk ⊢
  by_cases hlt:k < l.length
  · have ha':=ha (byts_ne hlt)
    have hcell:=(hc k _ (byts_get hlt)).2
    have c0:w.cell? ⟨b,o + k * 1,none⟩ = some (.int .u8 l[k]):=hcell 0 _ rfl
    have hbb:=hby _ (List.getElem_mem hlt)
    have hset:=hrdV_at hlt (anotF l[k] 128)
    have hsl:k * 1 + 1 ≤ (hrdV l k).length:=by rw [hrdV_len l (by omega)];omega
    have hsl2:k * 1 + 1 ≤ ((hrdV l k).set k (.int .u8 (anotF l[k] 128))).length:=by rw [List.length_set,hrdV_len l (by omega)];omega
    have hset2:setCells ((hrdV l k).set k (.int .u8 (anotF l[k] 128))) (k * 1) [.int .u8 63] = (hrdV l k).set k (.int .u8 63):=by
      show ((hrdV l k).set k (.int .u8 (anotF l[k] 128))).set (k * 1) _ = _
      rw [Nat.mul_one,hrdV_set2 l hlt]
    have hsucc:=hrdV_succ l hlt
    have hW:=hrdW_succ l hlt
    have hWl:=hrdW_len l k
    (refine s_r ?_;refine tr_val (rk_lss (.of rfl) (.of rfl)) rfl ?_;refine n_t ?_;refine tr_seq ?_;refine c_d rfl (fun hcd=>?_) (fun _=>by omega);refine s_t ?_;refine tr_seq ?_;refine tr_block ?_;refine s_r ?_;refine m_v rfl rfl ?_;refine tr_val (rk_indexAddr (.of rfl) (.of rfl) ha' (by omega) hcd norm1_) rfl ?_;refine tr_val (rk_load1 (.of rfl) (At.base c0 rfl)) rfl ?_;refine a_s rfl rfl ?_;refine a_s rfl rfl ?_;refine n_r ?_;refine m_v rfl rfl ?_;refine m_v rfl rfl ?_;refine m_v rfl rfl ?_;refine tr_val (rk_andNot8 (.of rfl) (.of rfl)) rfl ?_;refine tr_val (rk_indexAddr (.of rfl) (.of rfl) rfl (by omega) hcd norm1_) rfl ?_;refine tr_store (.of rfl) (.of rfl) .here rfl rfl (okc_cons rfl okc_nil) hsl hset ?_;refine n_r ?_;refine m_v rfl rfl ?_;refine tr_callV (rk_call (.of rfl) (.cons (.of rfl) .nil) inferInstance normc_) rfl (fun w' hm'=>(odd_c _ hbb w')) ?_;refine tr_val (rk_not (.of rfl)) rfl ?_;refine n_t ?_;refine c_b rfl (fun hcd=>?_) (fun hcd=>?_);refine s_r ?_;refine m_v rfl rfl ?_;refine m_v rfl rfl ?_;refine tr_val (rk_indexAddr (.of rfl) (.of rfl) rfl (by omega) (by assumption) norm1_) rfl ?_;refine tr_store (.of rfl) (.of rfl) .here rfl rfl (okc_cons rfl okc_nil) hsl2 hset2 ?_;refine n_t ?_;refine tr_region ?_;refine m_v rfl rfl ?_;refine m_v rfl rfl ?_;refine tr_new (rk_sliceLit (.cons (.of rfl) .nil) rfl rfl rfl rfl) rfl (fun _ _=>?_);rotate_left;refine tr_skip ?_;refine tr_blk_normal ?_;refine tr_then ?_;refine tr_region ?_;refine tr_val (rk_add (.of rfl) (.of rfl) (ini (by omega))) rfl ?_;refine m_v rfl rfl ?_;refine n_t ?_;rotate_right)
    · have hB:hrdB l[k] = 63:=by unfold hrdB;rw [hcd];rfl
      rw [hB] at hsucc
      rw [hcd,if_neg (by decide)] at hW
      have hWv:natsV (hrdW l (k + 1)) = natsV (hrdW l k)++[.int .i64 (k:Nat)]:=by rw [hW,natsV_app];rfl
      have hWn:(hrdW l (k + 1)).length = (hrdW l k).length + 1:=by rw [hW];simp
      rw [hsucc]
      refine tr_appendB (.of rfl) (.of rfl) (.there (.there .here)) .here norm_ (by rfl) (okc_cons rfl okc_nil) (by rfl) (by rfl) (by rfl) lenx_ (by rfl) ?_
      intro v'
      (refine a_s rfl rfl ?_;refine tr_nil ?_;refine tr_blk_normal ?_;refine tr_then ?_;refine tr_region ?_;refine tr_val (rk_add (.of rfl) (.of rfl) (ini (by omega))) rfl ?_;refine m_v rfl rfl ?_;refine n_t ?_)
      apply tr_next (k + 1,v') (show k + 1 ≤ l.length by omega) (show l.length - (k + 1) < l.length - k by omega)
      case hs1=>exact .cons rfl (.cons rfl (.cons rfl (.cons rfl (.cons rfl .nil))))
      case ht=>
        show Takes _ [blk g (.cells (hrdV l (k + 1)).toArray 5 (0,0)),row 3 1 v' (hrdW l (k + 1)).length (natsV (hrdW l (k + 1)))] _
        rw [hWn,hWv]
        exact .cons (.there (.there .here)) (.cons .here .nil)
    · have hB:hrdB l[k] = anotF l[k] 128:=by unfold hrdB;rw [hcd];rfl
      rw [hB] at hsucc
      rw [hcd,if_pos rfl,List.append_nil] at hW
      rw [hsucc]
      apply tr_next (k + 1,v) (show k + 1 ≤ l.length by omega) (show l.length - (k + 1) < l.length - k by omega)
      case hs1=>exact .cons rfl (.cons rfl (.cons rfl (.cons rfl (.cons rfl .nil))))
      case ht=>
        show Takes _ [blk g (.cells (hrdV l (k + 1)).toArray 5 (0,0)),row 3 1 v (hrdW l (k + 1)).length (natsV (hrdW l (k + 1)))] _
        rw [hW]
        exact .cons .here (.cons .here .nil)
  · obtain rfl:k = l.length:=by omega
    rw [hrdV_end]
    (refine s_r ?_;refine tr_val (rk_lss (.of rfl) (.of rfl)) rfl ?_;refine n_t ?_;refine tr_seq ?_;refine c_d rfl (fun _=>by omega) (fun hcd=>?_);refine x_t ?_;refine tr_then_exit ?_;refine tr_blk_exit ?_;refine tr_then ?_;refine s_r ?_;refine m_v rfl rfl ?_)
    with_reducible apply tr_val (V:=.string (strOf (hrdT l)))
    case hr=>
      with_reducible apply rk_convBSn
      case hx=>exact Is.of rfl
      case hv=>exact Ats.blk (by exact .here) (cellsAt_all (n:=l.length) (by simp [hrdT]))
      case hl=>simp [hrdT]
    case hd=>rfl
    (refine m_v rfl rfl ?_;refine a_s rfl rfl ?_;refine a_s rfl rfl ?_;refine a_s rfl rfl ?_;refine n_t ?_;refine tr_ret ?_)
    first | with_reducible apply tr_retM | with_reducible apply tr_endM
    case he=>exact ends3 rfl rfl rfl rfl
    case hR=>
      intro w' hm'
      exact gives_end v trivial (by exact .cons (.there .here) .nil) hm' rfl
end Go.Proofs.A1
namespace Go.Proofs
open Go.Shelf
def Tryz.lays156_ren:Go.Shelf.Ren:=⟨fun | 156=>144 | 165=>195 | 166=>196 | 169=>197 | 240=>244 | 241=>245 | 276=>268 | 277=>269 | n=>n,fun | 31=>245 | 9=>9 | 3=>3 | 4=>4 | 0=>0 | 20=>20 | 72=>302 | 76=>306 | 70=>300 | 37=>78 | 75=>305 | 127=>343 | 164=>365 | 5=>5 | 80=>308 | n=>n,fun | n=>n⟩
theorem Tryz.lays156:Go.Proofs.Lays.n156 Tryz.prog Tryz.lays156_ren:={
  mixed:=by kernel_rfl
  f156:=Tryz.func144.trans (congrArg some (by kernel_rfl))
  f165:=Tryz.func195.trans (congrArg some (by kernel_rfl))
  f166:=Tryz.func196.trans (congrArg some (by kernel_rfl))
  f169:=Tryz.func197.trans (congrArg some (by kernel_rfl))
  f240:=Tryz.func244.trans (congrArg some (by kernel_rfl))
  f241:=Tryz.func245.trans (congrArg some (by kernel_rfl))
  f276:=Tryz.func268.trans (congrArg some (by kernel_rfl))
  f277:=Tryz.func269.trans (congrArg some (by kernel_rfl))
  t0:=Tryz.underlying0
  a0:=Tryz.isAgg0
  z0:=Tryz.sizeOf0
  v0:=Tryz.zeroValue0
  t3:=Tryz.underlying3
  a3:=Tryz.isAgg3
  z3:=Tryz.sizeOf3
  v3:=Tryz.zeroValue3
  t4:=Tryz.underlying4
  a4:=Tryz.isAgg4
  z4:=Tryz.sizeOf4
  v4:=Tryz.zeroValue4
  t9:=Tryz.underlying9
  a9:=Tryz.isAgg9
  z9:=Tryz.sizeOf9
  v9:=Tryz.zeroValue9
  t20:=Tryz.underlying20
  a20:=Tryz.isAgg20
  z20:=Tryz.sizeOf20
  v20:=Tryz.zeroValue20
  t31:=Tryz.underlying245
  a31:=Tryz.isAgg245
  z31:=Tryz.sizeOf245
  v31:=Tryz.zeroValue245
  t37:=Tryz.underlying78
  a37:=Tryz.isAgg78
  z37:=Tryz.sizeOf78
  v37:=Tryz.zeroValue78
  t70:=Tryz.underlying300
  a70:=Tryz.isAgg300
  z70:=Tryz.sizeOf300
  v70:=Tryz.zeroValue300
  t72:=Tryz.underlying302
  a72:=Tryz.isAgg302
  z72:=Tryz.sizeOf302
  v72:=Tryz.zeroValue302
  t75:=Tryz.underlying305
  a75:=Tryz.isAgg305
  z75:=Tryz.sizeOf305
  v75:=Tryz.zeroValue305
  t76:=Tryz.underlying306
  a76:=Tryz.isAgg306
  z76:=Tryz.sizeOf306
  v76:=Tryz.zeroValue306
  t127:=Tryz.underlying343
  a127:=Tryz.isAgg343
  z127:=Tryz.sizeOf343
  v127:=Tryz.zeroValue343
  t164:=Tryz.underlying365
  a164:=Tryz.isAgg365
  z164:=Tryz.sizeOf365
  v164:=Tryz.zeroValue365 }
theorem Tryz.Builder_Extra_156:Builder.Extra Tryz.prog Tryz.lays156_ren:={
  sizeBuilder:=by kernel_rfl
  liesBuilder:=by kernel_rfl
  t5:=Tryz.underlying5
  a5:=Tryz.isAgg5
  z5:=Tryz.sizeOf5
  v5:=Tryz.zeroValue5
  infoByte:=by kernel_rfl
  cellsByte:=by kernel_rfl
  sizeByte:=by kernel_rfl
  neB5:=by decide }
open Go.RowKit in
theorem Tryz.strings_Join_none (a:Option Addr) (c:Nat) (sep:ByteArray) (w:World) :
    Calls Tryz.prog 144 #[.slice a 0 c,.string sep] w fun e w'=>e = .returned (.string ⟨#[]⟩) ∧ w' = w:=Any.strings_Join_none Tryz.lays156 Tryz.Builder_Extra_156 a c sep w
open Go.RowKit in
theorem Tryz.strings_Join (bk o c:Nat) (xs:List ByteArray) (sep:ByteArray) (w:World) (hcells:∀ (j:Nat) x,xs[j]? = some x → w.cell? ⟨bk,o + j,none⟩ = some (.string x)) (hbk:bk < w.heap.size) (hN:xs.length ≤ 140737488355328) (hcap:xs.length ≤ c) (hlen:(Lib.join (xs.map (·.data.toList)) sep.data.toList).length ≤ 140737488355328) :
    Calls Tryz.prog 144 #[.slice (some ⟨bk,o,none⟩) xs.length c,.string sep] w fun e w'=>e = .returned (.string ⟨(Lib.join (xs.map (·.data.toList)) sep.data.toList).toArray⟩) ∧ Below w.heap.size w w':=Any.strings_Join Tryz.lays156 Tryz.Builder_Extra_156 bk o c xs sep w hcells hbk hN hcap hlen
def Tryz.laysM171_ren:Go.Shelf.Ren:=⟨fun | 171=>147 | 243=>198 | 246=>246 | 283=>270 | 284=>271 | 285=>272 | 286=>273 | 129=>233 | 317=>283 | 318=>284 | 319=>285 | 320=>286 | 337=>296 | 338=>297 | n=>n,fun | 3=>3 | 9=>9 | 2=>2 | 4=>4 | 171=>368 | 0=>0 | 53=>335 | 37=>78 | 5=>5 | 173=>370 | 212=>384 | 51=>91 | 20=>20 | 213=>385 | 46=>206 | 232=>393 | 233=>394 | n=>n,fun | 17=>3 | 18=>6 | 19=>7 | n=>n⟩
theorem Tryz.laysM171:Go.Proofs.LaysM.n171 Tryz.prog Tryz.laysM171_ren:={
  mixed:=by kernel_rfl
  f129:=Tryz.func233.trans (congrArg some (by kernel_rfl))
  f171:=Tryz.func147.trans (congrArg some (by kernel_rfl))
  f243:=Tryz.func198.trans (congrArg some (by kernel_rfl))
  f246:=Tryz.func246.trans (congrArg some (by kernel_rfl))
  f283:=Tryz.func270.trans (congrArg some (by kernel_rfl))
  f284:=Tryz.func271.trans (congrArg some (by kernel_rfl))
  f285:=Tryz.func272.trans (congrArg some (by kernel_rfl))
  f286:=Tryz.func273.trans (congrArg some (by kernel_rfl))
  f317:=Tryz.func283.trans (congrArg some (by kernel_rfl))
  f318:=Tryz.func284.trans (congrArg some (by kernel_rfl))
  f319:=Tryz.func285.trans (congrArg some (by kernel_rfl))
  f320:=Tryz.func286.trans (congrArg some (by kernel_rfl))
  f337:=Tryz.func296.trans (congrArg some (by kernel_rfl))
  f338:=Tryz.func297.trans (congrArg some (by kernel_rfl))
  t0:=Tryz.underlying0
  a0:=Tryz.isAgg0
  z0:=Tryz.sizeOf0
  v0:=Tryz.zeroValue0
  t2:=Tryz.underlying2
  a2:=Tryz.isAgg2
  z2:=Tryz.sizeOf2
  v2:=Tryz.zeroValue2
  t3:=Tryz.underlying3
  a3:=Tryz.isAgg3
  z3:=Tryz.sizeOf3
  v3:=Tryz.zeroValue3
  t4:=Tryz.underlying4
  a4:=Tryz.isAgg4
  z4:=Tryz.sizeOf4
  v4:=Tryz.zeroValue4
  t5:=Tryz.underlying5
  a5:=Tryz.isAgg5
  z5:=Tryz.sizeOf5
  v5:=Tryz.zeroValue5
  t9:=Tryz.underlying9
  a9:=Tryz.isAgg9
  z9:=Tryz.sizeOf9
  v9:=Tryz.zeroValue9
  t20:=Tryz.underlying20
  a20:=Tryz.isAgg20
  z20:=Tryz.sizeOf20
  v20:=Tryz.zeroValue20
  t37:=Tryz.underlying78
  a37:=Tryz.isAgg78
  z37:=Tryz.sizeOf78
  v37:=Tryz.zeroValue78
  t46:=Tryz.underlying206
  a46:=Tryz.isAgg206
  z46:=Tryz.sizeOf206
  v46:=Tryz.zeroValue206
  t51:=Tryz.underlying91
  a51:=Tryz.isAgg91
  z51:=Tryz.sizeOf91
  v51:=Tryz.zeroValue91
  t53:=Tryz.underlying335
  a53:=Tryz.isAgg335
  z53:=Tryz.sizeOf335
  v53:=Tryz.zeroValue335
  t171:=Tryz.underlying368
  a171:=Tryz.isAgg368
  z171:=Tryz.sizeOf368
  v171:=Tryz.zeroValue368
  t173:=Tryz.underlying370
  a173:=Tryz.isAgg370
  z173:=Tryz.sizeOf370
  v173:=Tryz.zeroValue370
  t212:=Tryz.underlying384
  a212:=Tryz.isAgg384
  z212:=Tryz.sizeOf384
  v212:=Tryz.zeroValue384
  t213:=Tryz.underlying385
  a213:=Tryz.isAgg385
  z213:=Tryz.sizeOf385
  t232:=Tryz.underlying393
  a232:=Tryz.isAgg393
  z232:=Tryz.sizeOf393
  v232:=Tryz.zeroValue393
  t233:=Tryz.underlying394
  a233:=Tryz.isAgg394
  z233:=Tryz.sizeOf394
  v233:=Tryz.zeroValue394
  g17:=by kernel_rfl
  g18:=by kernel_rfl
  g19:=by kernel_rfl
  i0:=by kernel_rfl
  i2:=by kernel_rfl
  i3:=by kernel_rfl
  i4:=by kernel_rfl
  i5:=by kernel_rfl
  i9:=by kernel_rfl
  i20:=by kernel_rfl
  i37:=by kernel_rfl
  i46:=by kernel_rfl
  i51:=by kernel_rfl
  i53:=by kernel_rfl
  i171:=by kernel_rfl
  i173:=by kernel_rfl
  i212:=by kernel_rfl
  i232:=by kernel_rfl
  i233:=by kernel_rfl
  m17:=by kernel_rfl
  m18:=by kernel_rfl
  m19:=by kernel_rfl }
open Go.RowKit Go.Sort Go.Lib in
theorem Tryz.strconv_Itoa (n:Int) (h0:-9223372036854775808 ≤ n) (h1:n ≤ 9223372036854775807) (w:World) (htab:Lib.TabIs Tryz.prog w "internal/strconv.uint64pow10" .u64 Lib.pow10Tab) :
    Calls Tryz.prog 147 #[.int .i64 n] w fun e w'=>e = .returned (.string ⟨(Lib.itoa n).toArray⟩) ∧ ∃ k os,w' = grow (w.drewN k) os:=Any.strconv_Itoa Tryz.laysM171 n h0 h1 w htab
end Go.Proofs
