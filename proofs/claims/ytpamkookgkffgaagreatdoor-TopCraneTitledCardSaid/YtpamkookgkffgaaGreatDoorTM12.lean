/- Parts of the proof: ES7 ES8 ES9. -/
import Derived.Test.YtpamkookgkffgaaGreatDoorTM11
import Derived.Test.YtpamkookgkffgaaGreatDoorTM06
import Derived.Test.YtpamkookgkffgaaGreatDoorTM05
set_option linter.unusedSectionVars false
set_option linter.unusedVariables false
set_option linter.unusedSimpArgs false
namespace Go.Proofs.A1
open Go Go.SL
def triV (g:Int × Int × Int):List Value:=[.int .i64 g.1,.int .i64 g.2.1,.int .i64 g.2.2]
def gpR (es:List En) (k:Nat):List Value:=(gpL es k).flatMap triV
def endV (es:List En):Nat → Int
  | 0=>0
  | k + 1=>to es k
theorem gpL_succ (es:List En) (k:Nat):gpL es (k + 1) = gpL es k++if 0 < k ∧ endV es k < fr es k then [((k:Int) - 1,endV es k,fr es k)] else []:=by
  rw [gpL]
  cases k with
  | zero=>rfl
  | succ k=>rfl
theorem gpL_le (es:List En):∀ k,(gpL es k).length ≤ k
  | 0=>Nat.le_refl _
  | k + 1 => by
    have:=gpL_le es k
    rw [gpL_succ,List.length_append]
    split <;> simp <;> omega
theorem gaps_c {sv:Value} {es:List En} {w:World} (h1:Rd w sv 6 (ensL es)) (hok:∀ k,k < es.length → EnOk (nth es k)) (hfew:es.length ≤ 24) (hg:Glob w) :
    Gives Tryz.prog 39 [.agg #[sv]] w [] (fun _:Value=>True) id (fun v=>[row 74 3 v (gpL es es.length).length (gpR es es.length)]):=by
  have hone:=Rd.one h1
  refine gives_of_tr Tryz.func39 rfl rfl ?_
  (refine s_r ?_;refine tr_new (rk_box (.of rfl) rfl) rfl (fun _ _=>?_);refine a_s rfl rfl ?_;refine n_r ?_;refine tr_new (rk_alloc rfl) rfl (fun _ _=>?_);refine n_r ?_;refine tr_new (rk_alloc rfl) rfl (fun _ _=>?_);refine tr_store (.of rfl) (.of rfl) .here rfl rfl (okc_cons rfl okc_nil) (lenb rfl) norm_ ?_;refine n_t ?_;refine tr_seq ?_;refine s_r ?_;refine tr_val (rk_loadB (.of rfl) (.there (.there .here)) norm_ (by rfl)) rfl ?_)
  rename_i b1 hb1 b3 hb3 b4 hb4
  with_reducible apply tr_call
  case hr=>exact rk_call (.of rfl) (.cons (.of rfl) .nil) inferInstance normc_
  case hd=>rfl
  case ht=>exact Takes.nil
  case hc=>
    intro w1 fp hm1 _ hs1
    obtain rfl:fp = []:=hs1
    exact entries_c _ _ hone
  intro x1 _
  dsimp only [List.cons_append,List.nil_append]
  (refine n_t ?_;refine tr_block ?_)
  refine tr_rowNil 74 3 ?_
  refine tr_rangeSeq (ps:=[9,10]) (f:=99) (first:=[]) (cap:=[.pointer (some ⟨x1,0,none⟩)]) (ι:=Nat × Value) (κ:=Empty) (rst:=[blk b1 (.cells #[sv] 40 (0,0))]) ?hg
    [blk x1 (.cells #[sv] 40 (0,0))] (plcs es) ?hit (fun k x=>x.1 = k)
    (fun x=>[blk b3 (.cells #[x.2] 71 (0,0)),blk b4 (.cells #[.int .i64 (endV es x.1)] 3 (0,0)),row 74 3 x.2 (gpL es x.1).length (gpR es x.1)])
    (fun _=>False) (fun _=>[]) (fun _=>.ret) (0,.slice none 0 0) rfl ?ht ?hlen ?hps ?round ?kn ?kj
  case hg=>exact Is.of rfl
  case hit=>intro w' hm';exact iter_c h1 hok hfew hg (fun h=>by cases h) (Out.nil _ _)
  case ht=>
    show Takes _ [blk b3 (.cells #[.slice none 0 0] 71 (0,0)),blk b4 (.cells #[.int .i64 0] 3 (0,0)),row 74 3 (.slice none 0 0) 0 [],_] _
    exact .cons (.there (.there (.there .here))) (.cons (.there (.there .here)) (.cons .here (.cons .here .nil)))
  case hlen=>intro vs hvs;obtain ⟨x,_,rfl⟩:=List.mem_map.1 hvs;rfl
  case hps=>intro t ht;simp only [List.mem_cons,List.not_mem_nil,or_false] at ht;rcases ht with rfl | rfl <;> exact Nat.le_of_ble_eq_true rfl
  case kj=>intro y;cases y
  case kn=>
    rintro ⟨n,v⟩ D hq
    dsimp only [List.cons_append,List.nil_append] at hq ⊢
    rw [plcs_length] at hq
    subst hq
    (refine tr_blk_normal ?_;refine tr_then ?_;refine s_r ?_;refine tr_val (rk_load1 (.of rfl) (At.lit .here rfl)) rfl ?_;refine a_s rfl rfl ?_;refine n_t ?_;refine tr_ret ?_)
    first | with_reducible apply tr_retM | with_reducible apply tr_endM
    case he=>exact ends1 rfl rfl
    case hR=>
      intro w' hm'
      exact gives_end v trivial (show Takes _ [row 74 3 v (gpL es es.length).length (gpR es es.length)] _ by exact .cons (.there (.there .here)) .nil) hm' rfl
  case round=>
    rintro l rc W fp k ⟨n,v⟩ vs hsz hk hq hB hF
    dsimp only at hq
    subst hq
    have hlt:n < es.length:=by have:=(List.getElem?_eq_some_iff.1 hk).1;rwa [plcs_length] at this
    rw [plcs_get hlt,Option.some.injEq] at hk
    subst hk
    have hle:=gpL_le es n
    have hsucc:=gpL_succ es n
    unfold plL
    dsimp only [List.zip_cons_cons,List.zip_nil_right,putAll,List.cons_append,List.nil_append]
    (refine s_r ?_;refine a_s rfl rfl ?_;refine n_t ?_;refine tr_region ?_;refine tr_new (rk_alloc rfl) rfl (fun _ _=>?_);refine tr_store (.of rfl) (.of rfl) .here rfl rfl (okc_cons rfl (okc_cons rfl (okc_cons rfl (okc_cons rfl (okc_cons rfl (okc_cons rfl (okc_cons rfl (okc_cons rfl okc_nil)))))))) (lenb rfl) norm_ ?_;refine n_t ?_)
    with_reducible apply tr_begin
    case ht=>exact Take.there .here
    (refine tr_block ?_;refine tr_seq ?_;refine s_r ?_;refine m_v rfl rfl ?_;refine tr_val (rk_gtr (.of rfl) (.of rfl)) rfl ?_;refine m_v rfl rfl ?_;refine tr_vG1 rfl rfl inferInstance (fun hg hgp=>(rk_fieldAddr (.of rfl) norm0_)) rfl ?_;refine tr_vG1 rfl rfl inferInstance (fun hg hgp=>(rk_fieldAddr (.ofg hg rfl) norm0_)) rfl ?_;refine tr_vG1 rfl rfl inferInstance (fun hg hgp=>(rk_load1 (.ofg hg rfl) (At.lit (.there .here) rfl))) rfl ?_;refine tr_vG1 rfl rfl inferInstance (fun hg hgp=>(rk_load1 (.of rfl) (At.lit (.there (.there (.there .here))) rfl))) rfl ?_;refine tr_vG1 rfl rfl inferInstance (fun hg hgp=>(rk_gtr (.ofg hg rfl) (.ofg hg rfl))) rfl ?_;refine tr_val (rk_pick_and (.of rfl) rfl) rfl ?_;refine n_t ?_;refine c_b rfl (fun hcd=>?_) (fun hcd=>?_);refine tr_region ?_;refine tr_val (rk_load1 (.of rfl) (At.lit (.there (.there .here)) rfl)) rfl ?_;refine m_v rfl rfl ?_;refine tr_val (rk_sub (.of rfl) (.of rfl) (ini (by omega))) rfl ?_;refine tr_val (rk_load1 (.of rfl) (At.lit (.there (.there (.there .here))) rfl)) rfl ?_;refine f_a rfl rfl norm0_ ?_;refine f_a rfl rfl norm0_ ?_;refine tr_val (rk_load1 (.of rfl) (At.lit (.there .here) rfl)) rfl ?_;refine tr_val (rk_buildL (.cons (.of rfl) (.cons (.of rfl) .nil)) norm_) rfl ?_;refine tr_val (rk_buildL (.cons (.of rfl) (.cons (.of rfl) .nil)) norm_) rfl ?_;refine tr_new (rk_sliceLitN (.cons (.of rfl) .nil) rfl rfl normp_ normp_ norm_) rfl (fun _ _=>?_);rotate_left;refine s_t ?_;refine tr_region ?_;refine f_a rfl rfl norm0_ ?_;refine f_a rfl rfl norm0_ ?_;refine tr_val (rk_load1 (.of rfl) (At.lit (.there .here) rfl)) rfl ?_;refine tr_store (.of rfl) (.of rfl) (.there (.there (.there .here))) rfl rfl (okc_cons rfl okc_nil) (lenb rfl) norm_ ?_;refine tr_nil ?_;refine tr_blk_normal ?_;rotate_right)
    · change 0 < (n:Int) ∧ endV es n < fr es n at hcd
      have hc2:0 < n ∧ endV es n < fr es n:=⟨by omega,hcd.2⟩
      rw [if_pos hc2] at hsucc
      refine tr_appendB (.of rfl) (.of rfl) (.there (.there (.there (.there (.there .here))))) .here norm_ (by rfl) (okc_cons rfl (okc_cons rfl (okc_cons rfl okc_nil))) (by rfl) (by rfl) (by rfl) lenx_ (by rfl) ?_
      intro v'
      refine tr_rowSl (by exact .here) fun a' cap' e=>?_
      subst e
      (refine tr_store (.of rfl) (.of rfl) (.there (.there (.there (.there .here)))) rfl rfl (okc_cons rfl okc_nil) (lenb rfl) norm_ ?_;refine n_t ?_;refine tr_region ?_;refine f_a rfl rfl norm0_ ?_;refine f_a rfl rfl norm0_ ?_;refine tr_val (rk_load1 (.of rfl) (At.lit (.there (.there (.there (.there .here)))) rfl)) rfl ?_;refine tr_store (.of rfl) (.of rfl) (.there (.there (.there (.there (.there .here))))) rfl rfl (okc_cons rfl okc_nil) (lenb rfl) norm_ ?_;refine tr_nil ?_;refine tr_blk_normal ?_)
      apply tr_seqN (n + 1,.slice a' ((gpL es n).length + 1) cap')
      case ht=>exact Take.there (.there (.there (.there .here)))
      case hx=>rfl
      case h2=>
        have e1:(gpL es (n + 1)).length = (gpL es n).length + 1:=by rw [hsucc];simp
        have e2:gpR es (n + 1) = gpR es n++[.int .i64 ((n:Int) - 1),.int .i64 (endV es n),.int .i64 (fr es n)]:=by rw [gpR,hsucc];simp [gpR,triV]
        show Takes _ [blk b3 (.cells #[.slice a' ((gpL es n).length + 1) cap'] 71 (0,0)),blk b4 (.cells #[.int .i64 (to es n)] 3 (0,0)),row 74 3 (.slice a' ((gpL es n).length + 1) cap') (gpL es (n + 1)).length (gpR es (n + 1))] _
        rw [e1,e2]
        exact .cons (.there .here) (.cons .here (.cons .here .nil))
    · have hc2:¬ (0 < n ∧ endV es n < fr es n):=by
        change ¬ 0 < (n:Int) ∨ ¬ endV es n < fr es n at hcd
        omega
      rw [if_neg hc2,List.append_nil] at hsucc
      apply tr_seqN (n + 1,v)
      case ht=>exact Take.there .here
      case hx=>rfl
      case h2=>
        have e2:gpR es (n + 1) = gpR es n:=by rw [gpR,hsucc];rfl
        show Takes _ [blk b3 (.cells #[v] 71 (0,0)),blk b4 (.cells #[.int .i64 (to es n)] 3 (0,0)),row 74 3 v (gpL es (n + 1)).length (gpR es (n + 1))] _
        rw [hsucc,e2]
        exact .cons (.there (.there .here)) (.cons .here (.cons (.there .here) .nil))
end Go.Proofs.A1
namespace Go.Proofs.A1
open Go Go.SL
theorem alook_aset {k k':ByteArray} {v:Value}:∀ {l:List (ByteArray × Value)},alook k' (aset k v l) = if k' = k then some v else alook k' l
  | []=>by simp [aset,alook]
  | (x, u) :: r => by
    simp only [aset]
    split
    · rename_i e;subst e;simp only [alook];split <;> rfl
    · rename_i e
      simp only [alook,alook_aset (l:=r)]
      by_cases e1:k' = x
      · subst e1;simp [Ne.symm e]
      · simp [e1]
def knw (es:List En) (k:Nat) (s:ByteArray):Bool:=(List.range k).any fun i=>decide ((nth es i).nm = s)
theorem knw_succ (es:List En) (k:Nat) (s:ByteArray):knw es (k + 1) s = (knw es k s || decide ((nth es k).nm = s)):=by
  simp [knw,List.range_succ]
theorem dup_eq (es:List En) (k:Nat):dup es k = knw es k (nth es k).nm:=rfl
theorem e1_eq (es:List En) (k:Nat):firstF [entF (nth es k),whenF (dup es k) 9,whenF (decide ((k:Int) = 0) && (decide ((nth es k).kd = sFol) && (decide ((nth es k).tm = 0) && true))) 22] = e1At es k:=by
  unfold e1At
  by_cases h:entF (nth es k) = 0
  · have ho:=entF_ok.1 h
    have:(decide ((k:Int) = 0) && (decide ((nth es k).kd = sFol) && (decide ((nth es k).tm = 0) && true))) = (decide (k = 0) && decide ((nth es k).kd = sFol)):=by
      by_cases hk:(nth es k).kd = sFol
      · have:=ho.fol hk
        simp [hk,this]
      · simp [hk]
    rw [this]
  · simp [firstF,h]
theorem firstF_0 (x:Int):firstF [0,x] = x:=by
  by_cases h:x = 0
  · subst h;rfl
  · simp [firstF,h]
theorem plR_tab (es:List En):∀ n,plR es n = tab n (plL es)
  | 0=>rfl
  | n + 1=>by rw [plR,plR_tab es n,tab_eq_map,tab_eq_map,List.range_succ];simp
theorem plR_length (es:List En) (n:Nat):(plR es n).length = n * 8:=by rw [plR_tab];exact tab_length fun _ _=>rfl
theorem plR_cells {es:List En} {n i:Nat} (cur:List Value) (h:i < n):cellsAt (plR es n++cur) (i * 8) 8 = plL es i:=by
  have h1:=plR_length es n
  rw [cellsAt_eq,List.drop_append_of_le_length (by omega),List.take_append_of_le_length (by simp;omega),← cellsAt_eq,plR_tab]
  exact tab_cells (fun _ _=>rfl) h
theorem plR_at {es:List En} {n i j:Nat} (cur:List Value) (h:i < n) (hj:j < 8):(plR es n++cur)[i * 8 + j]? = (plL es i)[j]?:=by
  have h1:=plR_length es n
  rw [List.getElem?_append_left (by omega),plR_tab]
  exact tab_get (fun _ _=>rfl) h hj
theorem chk_c {sv:Value} {es:List En} {w:World} (h1:Rd w sv 6 (ensL es)) (hG:Glob w):GivesV Tryz.prog 38 [.agg #[sv]] w (.int .i64 (chkF es)):=by
  have h1':=h1
  obtain ⟨a,cap,b,o,rfl,hcap,hmax,ha,hc⟩:=h1
  rw [ensL_length] at *
  unfold maxLen at hmax
  refine givesV_of_tr Tryz.func38 rfl rfl ?_
  (refine s_r ?_;refine tr_new (rk_box (.of rfl) rfl) rfl (fun _ _=>?_);refine tr_new (rk_alloc rfl) rfl (fun _ _=>?_);refine n_t ?_;refine tr_seq ?_;refine s_r ?_;refine f_a rfl rfl norm0_ ?_;refine tr_val (rk_load1 (.of rfl) (At.lit (.there .here) rfl)) rfl ?_;refine tr_val (rk_len_slice (.of rfl)) rfl ?_;refine tr_val (rk_gtr (.of rfl) (.of rfl)) rfl ?_;refine n_t ?_;refine c_d rfl (fun hcd=>?_) (fun hcd=>?_);refine s_r ?_;refine tr_store (.of rfl) (.of rfl) .here rfl rfl (okc_cons rfl okc_nil) (lenb rfl) norm_ ?_;refine n_t ?_;refine r_t ?_;refine tr_retE rfl (ends1cV rfl inferInstance rfl (At.lit .here rfl)) ?_;rotate_left;refine s_t ?_;refine s_r ?_;rotate_right)
  · rw [chkF,if_pos (by omega)]
  have hfew:es.length ≤ 24:=by omega
  rename_i b1 hb1 b2 hb2
  refine tr_makeMapS rfl ?_
  intro bm hbm
  (refine a_s rfl rfl ?_;refine n_t ?_;refine tr_seq ?_;refine s_r ?_;refine f_a rfl rfl norm0_ ?_;refine tr_val (rk_load1 (.of rfl) (At.lit (.there (.there .here)) rfl)) rfl ?_;refine tr_val (rk_len_slice (.of rfl)) rfl ?_;refine m_v rfl rfl ?_;refine n_t ?_;refine tr_block ?_)
  refine tr_for (ι:=Nat × List (ByteArray × Value)) (fun x=>x.1 ≤ es.length ∧ (∀ i,i < x.1 → e1At es i = 0) ∧ ∀ s,(alook s x.2).getD (.bool false) = .bool (knw es x.1 s))
    (fun x=>[(20,.int .i64 x.1),(19,.int .i64 es.length),(18,.slice a es.length cap),(3,.map (some bm)),(1,.pointer (some ⟨b1,0,none⟩)),(2,.pointer (some ⟨b2,0,none⟩))])
    (fun x=>[mp (fun s:ByteArray=>Value.string s) bm x.2,blk b1 (.cells #[.slice a es.length cap] 40 (0,0)),blk b2 (.cells #[.int .i64 0] 53 (0,0))]) (fun x=>es.length - x.1) ?_ ?_
  · apply tr_start (0,[]) ⟨Nat.zero_le _,fun i h=>by omega,fun s=>rfl⟩
    case hs1=>exact .cons rfl (.cons rfl (.cons rfl (.cons rfl (.cons rfl (.cons rfl .nil)))))
    case ht=>(try simp only [List.take_zero,List.map_nil,List.nil_append]);exact .cons .here (.cons (.there .here) (.cons .here .nil))
  rintro ⟨k,l⟩ ⟨hk,hf,hm⟩
  dsimp only at hk hf hm ⊢
  by_cases hlt:k < es.length
  · have ha':=ha (ensL_ne hlt)
    have hcell:=(hc k _ (ensL_get hlt)).2
    have hmk:=hm (nth es k).nm
    rw [← dup_eq] at hmk
    have heq:=e1_eq es k
    have hec:∀ w',Keeps [] w w' → GivesV Tryz.prog 79 [.agg (nth es k).cells.toArray] w' (.int .i64 (entF (nth es k))):=fun w' hk'=>entC_c _ _ (hG.keeps hk')
    unfold En.cells at hcell hec
    (refine s_r ?_;refine tr_val (rk_lss (.of rfl) (.of rfl)) rfl ?_;refine n_t ?_;refine tr_seq ?_;refine c_d rfl (fun hcd=>?_) (fun _=>by omega);refine s_t ?_;refine tr_seq ?_;refine tr_block ?_;refine s_r ?_;refine m_v rfl rfl ?_;refine tr_val (rk_indexAddr (.of rfl) (.of rfl) ha' (by omega) hcd norm1_) rfl ?_;refine tr_val (rk_loadN (.of rfl) (Ats.base hcell rfl) rfl) rfl ?_;refine tr_new (rk_alloc rfl) rfl (fun _ _=>?_);refine a_s rfl rfl ?_;refine tr_store (.of rfl) (.of rfl) .here rfl rfl (okc_cons rfl (okc_cons rfl (okc_cons rfl (okc_cons rfl (okc_cons rfl (okc_cons rfl okc_nil)))))) (lenb rfl) norm_ ?_;refine n_t ?_;refine tr_seq ?_;refine tr_seq ?_)
    with_reducible refine tr_draw 15 (by kernel_rfl) ?_
    (refine any_val (rk_loadB (.of rfl) .here norm_ (by rfl)) rfl ?_;refine any_call (rk_call (.of rfl) (.cons (.of rfl) .nil) inferInstance normc_) rfl (fun w' hm'=>(hec w' (Mem.keeps hm'))) ?_;refine a_m rfl rfl ?_;refine a_f rfl rfl norm0_ ?_;refine any_val (rk_load1 (.of rfl) (At.lit .here rfl)) rfl ?_;refine any_val (rk_lookup keyS (.of rfl) (.of rfl) (Looks.mp (.there .here))) rfl ?_)
    rw [hmk]
    (refine any_call (rk_call (.of rfl) (.cons (.of rfl) (.cons (.of rfl) .nil)) inferInstance normc_) rfl (fun w' hm'=>(when9_c _ 9 w')) ?_;refine a_m rfl rfl ?_;refine any_val (rk_eql (.of rfl) (.of rfl)) rfl ?_;refine a_m rfl rfl ?_;refine any_vG1 rfl rfl inferInstance (fun hg hgp=>(rk_fieldAddr (.of rfl) norm0_)) rfl ?_;refine any_vG1 rfl rfl inferInstance (fun hg hgp=>(rk_loadB (.ofg hg rfl) .here norm_ (by rfl))) rfl ?_;refine any_callG1 rfl rfl (fun hg=>(rk_call (.of rfl) (.cons (.ofg hg rfl) .nil) inferInstance normc_)) rfl (fun hg w' hm'=>(follows_c _ _ w' (Glob.keeps hG (Mem.keeps hm')))) ?_;refine any_val (rk_pick_and (.of rfl) rfl) rfl ?_;refine any_call (rk_call (.of rfl) (.cons (.of rfl) (.cons (.of rfl) .nil)) inferInstance normc_) rfl (fun w' hm'=>(when9_c _ 22 w')) ?_)
    with_reducible refine any_end ?_
    (refine tr_new (rk_sliceLit (.cons (.of rfl) (.cons (.of rfl) (.cons (.of rfl) .nil))) rfl rfl rfl rfl) rfl (fun _ _=>?_);refine tr_callV (rk_call (.of rfl) (.cons (.of rfl) .nil) inferInstance normc_) rfl (fun w' hm'=>(first_pB9 (Mem.rdBlk hm' .here rfl rfl) (IntL.cons (IntL.cons (IntL.cons IntL.nil))))) ?_;refine a_s rfl rfl ?_;refine n_r ?_;refine m_v rfl rfl ?_;refine tr_val (rk_neq (.of rfl) (.of rfl)) rfl ?_;refine n_t ?_;refine c_d rfl (fun hcd=>?_) (fun hcd=>?_);refine s_r ?_;refine m_v rfl rfl ?_;refine tr_store (.of rfl) (.of rfl) (.there (.there (.there (.there .here)))) rfl rfl (okc_cons rfl okc_nil) (lenb rfl) norm_ ?_;refine n_t ?_;refine r_t ?_;refine tr_blk_ret ?_;refine tr_then_ret ?_;refine tr_then_ret ?_;refine tr_blk_ret ?_;refine tr_then_ret ?_;refine tr_retE rfl (ends1cV rfl inferInstance rfl (At.lit .here rfl)) ?_;rotate_left;refine s_t ?_;refine tr_region ?_;refine m_v rfl rfl ?_;refine f_a rfl rfl norm0_ ?_;refine tr_val (rk_load1 (.of rfl) (At.lit (.there .here) rfl)) rfl ?_;rotate_right)
    · have hne:e1At es k ≠ 0:=by rw [← heq];exact hcd
      rw [chkF,if_neg (by omega),errE_bad hf hlt hne]
      have:firstF [e1At es k,errE (e2At es) es.length] = e1At es k:=by simp [firstF,hne]
      rw [this,← heq]
    · rename_i hcd
      have hz:e1At es k = 0:=by rw [← heq];exact Decidable.not_not.1 hcd
      refine tr_mapUpdate keyS (.of rfl) (.of rfl) (.of rfl) (.there (.there .here)) ?_
      (refine tr_nil ?_;refine tr_blk_normal ?_;refine tr_then ?_;refine tr_region ?_;refine tr_val (rk_add (.of rfl) (.of rfl) (ini (by omega))) rfl ?_;refine m_v rfl rfl ?_;refine n_t ?_)
      have hm2:∀ s,(alook s (aset (nth es k).nm (.bool true) l)).getD (.bool false) = .bool (knw es (k + 1) s):=by
        intro s
        rw [alook_aset,knw_succ]
        by_cases e:s = (nth es k).nm
        · simp [e]
        · have e':¬ (nth es k).nm = s:=fun h=>e h.symm
          rw [if_neg e,hm];simp [e']
      apply tr_next (k + 1,aset (nth es k).nm (.bool true) l) ⟨by show k + 1 ≤ es.length;omega,fun i hi=>by
        by_cases e:i = k
        · rw [e];exact hz
        · exact hf i (by omega),hm2⟩ (by show es.length - (k + 1) < es.length - k;omega)
      case hs1=>exact .cons rfl (.cons rfl (.cons rfl (.cons rfl (.cons rfl (.cons rfl .nil)))))
      case ht=>exact .cons .here (.cons (.there (.there .here)) (.cons (.there (.there .here)) .nil))
  · obtain rfl:k = es.length:=by omega
    have hok:∀ k,k < es.length → EnOk (nth es k):=fun k hk=>(e1_ok (hf k hk)).1
    have hE:chkF es = errE (e2At es) es.length:=by
      rw [chkF,if_neg (by omega),errE_ok.2 hf,firstF_0]
    rw [hE]
    (refine s_r ?_;refine tr_val (rk_lss (.of rfl) (.of rfl)) rfl ?_;refine n_t ?_;refine tr_seq ?_;refine c_d rfl (fun _=>by omega) (fun hcd=>?_);refine x_t ?_;refine tr_then_exit ?_;refine tr_blk_exit ?_;refine tr_then ?_;refine s_r ?_;refine tr_new (rk_alloc rfl) rfl (fun _ _=>?_);refine n_t ?_;refine tr_seq ?_;refine s_r ?_;refine tr_val (rk_loadB (.of rfl) (.there (.there .here)) norm_ (by rfl)) rfl ?_)
    rename_i b7 hb7
    with_reducible apply tr_call
    case hr=>exact rk_call (.of rfl) (.cons (.of rfl) .nil) inferInstance normc_
    case hd=>rfl
    case ht=>exact Takes.nil
    case hc=>
      intro w1 fp hm1 _ hs1
      obtain rfl:fp = []:=hs1
      exact entries_c _ _ rfl
    intro x1 _
    dsimp only [List.cons_append,List.nil_append]
    (refine n_t ?_;refine tr_block ?_)
    refine tr_rowNil 122 8 ?_
    refine tr_rangeSeq (ps:=[51,52]) (f:=99) (first:=[]) (cap:=[.pointer (some ⟨x1,0,none⟩)]) (ι:=Nat × Value) (κ:=Int) (rst:=[mp (fun s:ByteArray=>Value.string s) bm l,blk b1 (.cells #[.slice a es.length cap] 40 (0,0))]) ?hg
      [blk x1 (.cells #[.slice a es.length cap] 40 (0,0))] (plcs es) ?hit (fun k x=>x.1 = k ∧ ∀ i,i < k → e2At es i = 0)
      (fun x=>[blk b2 (.cells #[.int .i64 0] 53 (0,0)),blk b7 (.cells #[x.2] 123 (0,0)),row 122 8 x.2 x.1 (plR es x.1)])
      (fun y=>errE (e2At es) es.length = y) (fun y=>[blk b2 (.cells #[.int .i64 y] 53 (0,0))]) (fun _=>.ret) (0,.slice none 0 0) ⟨rfl,fun i h=>by omega⟩ ?ht ?hlen ?hps ?round ?kn ?kj
    case hg=>exact Is.of rfl
    case hit=>intro w' hm';exact iter_c h1' hok hfew hG (fun h=>by cases h) (Out.nil _ _)
    case ht=>
      show Takes _ [blk b2 (.cells #[.int .i64 0] 53 (0,0)),blk b7 (.cells #[.slice none 0 0] 123 (0,0)),row 122 8 (.slice none 0 0) 0 [],_] _
      exact .cons (.there (.there (.there (.there (.there .here))))) (.cons (.there (.there .here)) (.cons .here (.cons .here .nil)))
    case hlen=>intro vs hvs;obtain ⟨x,_,rfl⟩:=List.mem_map.1 hvs;rfl
    case hps=>intro t ht;simp only [List.mem_cons,List.not_mem_nil,or_false] at ht;rcases ht with rfl | rfl <;> exact Nat.le_of_ble_eq_true rfl
    case kj=>
      intro y D hy
      rw [hy]
      dsimp only [List.cons_append,List.nil_append]
      (refine tr_ret ?_;refine tr_blk_ret ?_;refine tr_then_ret ?_)
      first | with_reducible apply tr_retM | with_reducible apply tr_endM
      case he=>exact ends1cV rfl inferInstance rfl (At.lit .here rfl)
      case hR=>exact fun w' hm'=>⟨rfl,hm'.keeps⟩
    case kn=>
      rintro ⟨n,v⟩ D ⟨hq,hz⟩
      dsimp only [List.cons_append,List.nil_append] at hq hz ⊢
      rw [plcs_length] at hq hz
      subst hq
      rw [errE_ok.2 hz]
      (refine tr_blk_normal ?_;refine tr_then ?_;refine s_r ?_;refine tr_store (.of rfl) (.of rfl) .here rfl rfl (okc_cons rfl okc_nil) (lenb rfl) norm_ ?_;refine n_t ?_;refine tr_ret ?_)
      first | with_reducible apply tr_retM | with_reducible apply tr_endM
      case he=>exact ends1cV rfl inferInstance rfl (At.lit .here rfl)
      case hR=>exact fun w' hm'=>⟨rfl,hm'.keeps⟩
    case round=>
      rintro l0 rc W fp k ⟨n,v⟩ vs hsz hk hq hB hF
      obtain ⟨hq,hz⟩:=hq
      dsimp only at hq hz
      subst hq
      have hlt:n < es.length:=by have:=(List.getElem?_eq_some_iff.1 hk).1;rwa [plcs_length] at this
      rw [plcs_get hlt,Option.some.injEq] at hk
      subst hk
      have ho:=hok n hlt
      have hfr:=fr_in hok hlt
      have hone':=one_pl es n
      have h15:badAt es n = true → errE (e2At es) es.length = 15:=fun h=>by
        have:e2At es n = 15:=by simp [e2At,h,whenF,firstF]
        rw [errE_bad hz hlt (by rw [this];decide),this]
      have h4:badAt es n = false → 10000000 < to es n → errE (e2At es) es.length = 4:=fun h h'=>by
        have:e2At es n = 4:=by simp [e2At,h,h',whenF,firstF]
        rw [errE_bad hz hlt (by rw [this];decide),this]
      have h0:badAt es n = false → ¬ 10000000 < to es n → ∀ i,i < n + 1 → e2At es i = 0:=fun h h' i hi=>by
        by_cases e:i = n
        · rw [e];simp [e2At,h,h',whenF,firstF]
        · exact hz i (by omega)
      by_cases hn0:0 < n
      · refine tr_rowOpen (by exact Take.there (.there (.there .here))) hn0 fun g cap' cur e hcap' hmx' hsz' hl'=>?_
        subst e
        have c1:cellsAt (plR es n++cur) (((n:Int) - 1).toNat * 8) 8 = plL es (n - 1):=by
          rw [show ((n:Int) - 1).toNat = n - 1 by omega];exact plR_cells cur (by omega)
        have c2:(plR es n++cur)[(max 0 ((n:Int) - 2)).toNat * 8 + 6 + 1]? = some (.int .i64 (to es (n - 2))):=by
          rw [show (max 0 ((n:Int) - 2)).toNat = n - 2 by omega];exact plR_at cur (i:=n - 2) (j:=7) (by omega) (by omega)
        have hbe:badAt es n = ((decide (fr es n < to es (n - 1) - (nth es (n - 1)).ov) || decide (fr es n ≤ fr es (n - 1))) || (decide (1 < (n:Int)) && decide (fr es n < to es (n - 2))) || decide (to es n ≤ to es (n - 1))):=by
          unfold badAt
          rw [decide_eq_true hn0,Bool.true_and,show decide (1 < n) = decide (1 < (n:Int)) from decide_eq_decide.2 (by omega)]
        have hb1:=jn_in hok n (by omega)
        have hfp:=fr_in hok (k:=n - 1) (by omega)
        have hop:=hok (n - 1) (by omega)
        have hbd:InI (to es (n - 1) - (nth es (n - 1)).ov):=by
          have:=hop.ln;have:=hop.ov
          unfold InI to;omega
        unfold plL
        unfold plL at hone' c1
        dsimp only [List.zip_cons_cons,List.zip_nil_right,putAll,List.cons_append,List.nil_append]
        (refine s_r ?_;refine a_s rfl rfl ?_;refine n_t ?_;refine tr_region ?_;refine tr_new (rk_alloc rfl) rfl (fun _ _=>?_);refine tr_store (.of rfl) (.of rfl) .here rfl rfl (okc_cons rfl (okc_cons rfl (okc_cons rfl (okc_cons rfl (okc_cons rfl (okc_cons rfl (okc_cons rfl (okc_cons rfl okc_nil)))))))) (lenb rfl) norm_ ?_;refine n_t ?_)
        with_reducible apply tr_begin
        case ht=>exact Take.there (.there .here)
        (refine tr_block ?_;refine tr_seq ?_;refine s_r ?_;refine m_v rfl rfl ?_;refine tr_val (rk_gtr (.of rfl) (.of rfl)) rfl ?_;refine n_t ?_;refine c_d rfl (fun hcd=>?_) (fun _=>by omega);refine s_r ?_;refine tr_val (rk_load1 (.of rfl) (At.lit (.there (.there (.there (.there .here)))) rfl)) rfl ?_;refine m_v rfl rfl ?_;refine tr_val (rk_sub (.of rfl) (.of rfl) (ini (by omega))) rfl ?_;refine tr_val (rk_indexAddr (.of rfl) (.of rfl) rfl (by omega) (by omega) norm1_) rfl ?_;refine tr_val (rk_loadB (.of rfl) (.there (.there .here)) c1 rfl) rfl ?_;refine tr_new (rk_alloc rfl) rfl (fun _ _=>?_);refine tr_store (.of rfl) (.of rfl) .here rfl rfl (okc_cons rfl (okc_cons rfl (okc_cons rfl (okc_cons rfl (okc_cons rfl (okc_cons rfl (okc_cons rfl (okc_cons rfl okc_nil)))))))) (lenb rfl) norm_ ?_;refine n_t ?_;refine tr_seq ?_)
        with_reducible refine tr_draw 17 (by kernel_rfl) ?_
        (refine a_m rfl rfl ?_;refine any_val (rk_gtr (.of rfl) (.of rfl)) rfl ?_;refine a_m rfl rfl ?_;refine any_vG1 rfl rfl inferInstance (fun hg hgp=>(rk_fieldAddr (.of rfl) norm0_)) rfl ?_;refine any_vG1 rfl rfl inferInstance (fun hg hgp=>(rk_fieldAddr (.ofg hg rfl) norm0_)) rfl ?_;refine any_vG1 rfl rfl inferInstance (fun hg hgp=>(rk_load1 (.ofg hg rfl) (At.lit (.there (.there .here)) rfl))) rfl ?_;refine any_vG1 rfl rfl inferInstance (fun hg hgp=>(rk_load1 (.of rfl) (At.lit (.there (.there (.there (.there (.there .here))))) rfl))) rfl ?_;refine any_vG1 rfl rfl inferInstance (fun hg hgp=>(rk_move (.of rfl))) rfl ?_;refine any_vG1 rfl rfl inferInstance (fun hg hgp=>(rk_sub (.ofg hg rfl) (.of rfl) (ini (by omega)))) rfl ?_;refine any_vG1 rfl rfl inferInstance (fun hg hgp=>(rk_max2 (.of rfl) (.ofg hg rfl))) rfl ?_;refine any_vG1 rfl rfl inferInstance (fun hg hgp=>(rk_indexAddr (.ofg hg rfl) (.ofg hg rfl) rfl (by omega) (by omega) norm1_)) rfl ?_;refine any_vG1 rfl rfl inferInstance (fun hg hgp=>(rk_fieldAddr (.ofg hg rfl) norm0_)) rfl ?_;refine any_vG1 rfl rfl inferInstance (fun hg hgp=>(rk_fieldAddr (.ofg hg rfl) norm0_)) rfl ?_;refine any_vG1 rfl rfl inferInstance (fun hg hgp=>(rk_load1 (.ofg hg rfl) (At.blkL (.there (.there (.there .here))) c2))) rfl ?_;refine any_vG1 rfl rfl inferInstance (fun hg hgp=>(rk_lss (.ofg hg rfl) (.ofg hg rfl))) rfl ?_;refine any_val (rk_pick_and (.of rfl) rfl) rfl ?_;refine any_val (rk_assign (.of rfl)) rfl ?_)
        with_reducible refine any_end ?_
        (refine n_r ?_;refine f_a rfl rfl norm0_ ?_;refine f_a rfl rfl norm0_ ?_;refine tr_val (rk_load1 (.of rfl) (At.lit (.there (.there .here)) rfl)) rfl ?_;refine f_a rfl rfl norm0_ ?_;refine f_a rfl rfl norm0_ ?_;refine tr_val (rk_load1 (.of rfl) (At.lit .here rfl)) rfl ?_;refine f_a rfl rfl norm0_ ?_;refine f_a rfl rfl norm0_ ?_;refine tr_val (rk_load1 (.of rfl) (At.lit .here rfl)) rfl ?_;refine tr_val (rk_sub (.of rfl) (.of rfl) hbd) rfl ?_;refine tr_val (rk_lss (.of rfl) (.of rfl)) rfl ?_;refine m_v rfl rfl ?_;refine tr_vG1 rfl rfl inferInstance (fun hg hgp=>(rk_fieldAddr (.of rfl) norm0_)) rfl ?_;refine tr_vG1 rfl rfl inferInstance (fun hg hgp=>(rk_fieldAddr (.ofg hg rfl) norm0_)) rfl ?_;refine tr_vG1 rfl rfl inferInstance (fun hg hgp=>(rk_load1 (.ofg hg rfl) (At.lit (.there (.there .here)) rfl))) rfl ?_;refine tr_vG1 rfl rfl inferInstance (fun hg hgp=>(rk_fieldAddr (.of rfl) norm0_)) rfl ?_;refine tr_vG1 rfl rfl inferInstance (fun hg hgp=>(rk_fieldAddr (.ofg hg rfl) norm0_)) rfl ?_;refine tr_vG1 rfl rfl inferInstance (fun hg hgp=>(rk_load1 (.ofg hg rfl) (At.lit .here rfl))) rfl ?_;refine tr_vG1 rfl rfl inferInstance (fun hg hgp=>(rk_leq (.ofg hg rfl) (.ofg hg rfl))) rfl ?_;refine tr_val (rk_pick_or (.of rfl) rfl) rfl ?_;refine m_v rfl rfl ?_;refine v_g rfl rfl rfl rfl ?_;refine tr_val (rk_pick_or (.of rfl) rfl) rfl ?_;refine m_v rfl rfl ?_;refine tr_vG1 rfl rfl inferInstance (fun hg hgp=>(rk_fieldAddr (.of rfl) norm0_)) rfl ?_;refine tr_vG1 rfl rfl inferInstance (fun hg hgp=>(rk_fieldAddr (.ofg hg rfl) norm0_)) rfl ?_;refine tr_vG1 rfl rfl inferInstance (fun hg hgp=>(rk_load1 (.ofg hg rfl) (At.lit (.there (.there .here)) rfl))) rfl ?_;refine tr_vG1 rfl rfl inferInstance (fun hg hgp=>(rk_fieldAddr (.of rfl) norm0_)) rfl ?_;refine tr_vG1 rfl rfl inferInstance (fun hg hgp=>(rk_fieldAddr (.ofg hg rfl) norm0_)) rfl ?_;refine tr_vG1 rfl rfl inferInstance (fun hg hgp=>(rk_load1 (.ofg hg rfl) (At.lit .here rfl))) rfl ?_;refine tr_vG1 rfl rfl inferInstance (fun hg hgp=>(rk_leq (.ofg hg rfl) (.ofg hg rfl))) rfl ?_;refine tr_val (rk_pick_or (.of rfl) rfl) rfl ?_;refine n_t ?_;refine c_b rfl (fun hcd=>?_) (fun hcd=>?_);refine s_r ?_;refine tr_store (.of rfl) (.of rfl) (.there (.there (.there (.there .here)))) rfl rfl (okc_cons rfl okc_nil) (lenb rfl) norm_ ?_;refine n_t ?_;refine r_t ?_;refine tr_blk_ret ?_;rotate_left;refine s_t ?_;refine tr_seq ?_;refine s_r ?_;refine f_a rfl rfl norm0_ ?_;refine f_a rfl rfl norm0_ ?_;refine tr_val (rk_load1 (.of rfl) (At.lit (.there (.there .here)) rfl)) rfl ?_;refine tr_val (rk_gtr (.of rfl) (.of rfl)) rfl ?_;refine n_t ?_;refine c_d rfl (fun hcd=>?_) (fun hcd=>?_);refine s_r ?_;refine tr_store (.of rfl) (.of rfl) (.there (.there (.there (.there .here)))) rfl rfl (okc_cons rfl okc_nil) (lenb rfl) norm_ ?_;refine n_t ?_;refine r_t ?_;refine tr_blk_ret ?_;rotate_left;refine s_t ?_;refine tr_region ?_;refine tr_val (rk_load1 (.of rfl) (At.lit (.there (.there (.there (.there (.there .here))))) rfl)) rfl ?_;refine tr_val (rk_loadB (.of rfl) (.there (.there .here)) norm_ (by rfl)) rfl ?_;refine tr_new (rk_sliceLitN (.cons (.of rfl) .nil) rfl rfl normp_ normp_ norm_) rfl (fun _ _=>?_);rotate_right;rotate_right)
        · apply tr_seqR 15 rfl
          case ht=>exact Take.there (.there .here)
          case hy=>
            refine h15 ?_
            rw [hbe];simp only [Bool.or_eq_true,Bool.and_eq_true,decide_eq_true_eq];assumption
          case h2=>exact .cons .here .nil
        · have hbf:badAt es n = false:=by rw [hbe];simp only [Bool.or_eq_false_iff,Bool.and_eq_false_iff,decide_eq_false_iff_not];assumption
          apply tr_seqR 4 rfl
          case ht=>exact Take.there (.there .here)
          case hy=>exact h4 hbf hcd
          case h2=>exact .cons .here .nil
        · have hbf:badAt es n = false:=by rw [hbe];simp only [Bool.or_eq_false_iff,Bool.and_eq_false_iff,decide_eq_false_iff_not];assumption
          refine tr_rowShut (by exact Take.there (.there (.there (.there .here)))) hcap' hmx' hsz' hl' ?_
          refine tr_appendB (.of rfl) (.of rfl) .here (.there .here) norm_ (by rfl) (okc_cons rfl (okc_cons rfl (okc_cons rfl (okc_cons rfl (okc_cons rfl (okc_cons rfl (okc_cons rfl (okc_cons rfl okc_nil)))))))) (by rfl) (by rfl) (by rfl) lenx_ (by rfl) ?_
          intro v'
          refine tr_rowSl (by exact .here) fun a' cap2 e=>?_
          subst e
          (refine tr_store (.of rfl) (.of rfl) (.there (.there (.there (.there (.there (.there .here)))))) rfl rfl (okc_cons rfl okc_nil) (lenb rfl) norm_ ?_;refine tr_nil ?_;refine tr_blk_normal ?_)
          apply tr_seqN (n + 1,.slice a' (n + 1) cap2)
          case ht=>exact Take.there (.there (.there (.there .here)))
          case hx=>exact ⟨rfl,h0 hbf hcd⟩
          case h2=>
            show Takes _ [blk b2 (.cells #[.int .i64 0] 53 (0,0)),blk b7 (.cells #[.slice a' (n + 1) cap2] 123 (0,0)),row 122 8 (.slice a' (n + 1) cap2) (n + 1) (plR es n++plL es n)] _
            unfold plL
            exact .cons (.there (.there (.there (.there (.there .here))))) (.cons .here (.cons .here .nil))
      · obtain rfl:n = 0:=by omega
        have hbad:badAt es 0 = false:=rfl
        unfold plL
        unfold plL at hone'
        dsimp only [List.zip_cons_cons,List.zip_nil_right,putAll,List.cons_append,List.nil_append]
        (refine s_r ?_;refine a_s rfl rfl ?_;refine n_t ?_;refine tr_region ?_;refine tr_new (rk_alloc rfl) rfl (fun _ _=>?_);refine tr_store (.of rfl) (.of rfl) .here rfl rfl (okc_cons rfl (okc_cons rfl (okc_cons rfl (okc_cons rfl (okc_cons rfl (okc_cons rfl (okc_cons rfl (okc_cons rfl okc_nil)))))))) (lenb rfl) norm_ ?_;refine n_t ?_)
        with_reducible apply tr_begin
        case ht=>exact Take.there .here
        (refine tr_block ?_;refine tr_seq ?_;refine s_r ?_;refine m_v rfl rfl ?_;refine tr_val (rk_gtr (.of rfl) (.of rfl)) rfl ?_;refine n_t ?_;refine c_d rfl (fun _=>by omega) (fun hcd=>?_);refine s_t ?_;refine tr_seq ?_;refine s_r ?_;refine f_a rfl rfl norm0_ ?_;refine f_a rfl rfl norm0_ ?_;refine tr_val (rk_load1 (.of rfl) (At.lit (.there .here) rfl)) rfl ?_;refine tr_val (rk_gtr (.of rfl) (.of rfl)) rfl ?_;refine n_t ?_;refine c_d rfl (fun hcd=>?_) (fun hcd=>?_);refine s_r ?_;refine tr_store (.of rfl) (.of rfl) (.there (.there .here)) rfl rfl (okc_cons rfl okc_nil) (lenb rfl) norm_ ?_;refine n_t ?_;refine r_t ?_;refine tr_blk_ret ?_;rotate_left;refine s_t ?_;refine tr_region ?_;refine tr_val (rk_load1 (.of rfl) (At.lit (.there (.there (.there .here))) rfl)) rfl ?_;refine tr_val (rk_loadB (.of rfl) (.there .here) norm_ (by rfl)) rfl ?_;refine tr_new (rk_sliceLitN (.cons (.of rfl) .nil) rfl rfl normp_ normp_ norm_) rfl (fun _ _=>?_);rotate_right)
        · apply tr_seqR 4 rfl
          case ht=>exact Take.there .here
          case hy=>exact h4 hbad hcd
          case h2=>exact .cons .here .nil
        · refine tr_appendB (.of rfl) (.of rfl) (.there (.there (.there (.there (.there .here))))) .here norm_ (by rfl) (okc_cons rfl (okc_cons rfl (okc_cons rfl (okc_cons rfl (okc_cons rfl (okc_cons rfl (okc_cons rfl (okc_cons rfl okc_nil)))))))) (by rfl) (by rfl) (by rfl) lenx_ (by rfl) ?_
          intro v'
          refine tr_rowSl (by exact .here) fun a' cap' e=>?_
          subst e
          (refine tr_store (.of rfl) (.of rfl) (.there (.there (.there (.there (.there .here))))) rfl rfl (okc_cons rfl okc_nil) (lenb rfl) norm_ ?_;refine tr_nil ?_;refine tr_blk_normal ?_)
          apply tr_seqN (0 + 1,.slice a' (0 + 1) cap')
          case ht=>exact Take.there (.there (.there .here))
          case hx=>exact ⟨rfl,h0 hbad hcd⟩
          case h2=>
            show Takes _ [blk b2 (.cells #[.int .i64 0] 53 (0,0)),blk b7 (.cells #[.slice a' (0 + 1) cap'] 123 (0,0)),row 122 8 (.slice a' (0 + 1) cap') (0 + 1) (plR es 0++plL es 0)] _
            unfold plL
            exact .cons (.there (.there (.there (.there .here)))) (.cons .here (.cons .here .nil))
end Go.Proofs.A1
namespace Go.Proofs.A1
open Go Go.SL
def plRows (es:List En):List (List Value):=(List.range es.length).map (plL es)
theorem plRows_length (es:List En):(plRows es).length = es.length:=by simp [plRows]
theorem plRows_get {es:List En} {k:Nat} (h:k < es.length):(plRows es)[k]? = some (plL es k):=by simp [plRows,h]
theorem plRows_ne {es:List En} {k:Nat} (h:k < es.length):plRows es ≠ []:=by intro e;have:=congrArg List.length e;rw [plRows_length] at this;simp at this;subst this;simp at h
theorem plRows_flat (es:List En):plR es es.length = (plRows es).flatten:=by rw [plR_tab,tab_eq_map];rfl
theorem plRows_sz (es:List En):∀ r ∈ plRows es,r.length = 8:=by
  intro r hr
  obtain ⟨k,_,rfl⟩:=List.mem_map.1 hr
  rfl
theorem rdPl {c:Cx} {hs hs':List Asn} {w:World} {es:List En} {v:Value} (hm:Mem c hs w) (ht:Take hs (row 122 8 v es.length (plR es es.length)) hs'):Rd w v 8 (plRows es):=
  hm.rdRow ht (plRows_flat es) (plRows_sz es) (plRows_length es)
def duoV (p:Int × Int):List Value:=[.int .i64 p.1,.int .i64 p.2]
def spL (es:List En) (k:Nat):List (Int × Int):=(List.range k).map fun i=>(fr es i,to es i)
theorem spL_succ (es:List En) (k:Nat):spL es (k + 1) = spL es k++[(fr es k,to es k)]:=by simp [spL,List.range_succ]
theorem spL_length (es:List En) (k:Nat):(spL es k).length = k:=by simp [spL]
theorem spanOf_c (es:List En) (k:Nat) (w:World):GivesV Tryz.prog 46 [.agg (plL es k).toArray] w (.agg #[.int .i64 (fr es k),.int .i64 (to es k)]):=by
  unfold plL
  refine givesV_of_tr Tryz.func46 rfl rfl ?_
  (refine s_r ?_;refine tr_new (rk_box (.of rfl) rfl) rfl (fun _ _=>?_);refine tr_new (rk_alloc rfl) rfl (fun _ _=>?_);refine n_r ?_;refine f_a rfl rfl norm0_ ?_;refine tr_val (rk_loadB (.of rfl) (.there .here) norm_ (by rfl)) rfl ?_;refine tr_store (.of rfl) (.of rfl) .here rfl rfl (okc_cons rfl (okc_cons rfl okc_nil)) (lenb rfl) norm_ ?_;refine n_t ?_;refine tr_ret ?_;refine tr_retE rfl (ends1cB rfl inferInstance rfl .here norm_ (by rfl)) ?_)
  rfl
theorem mapSp_c {lv:Value} {es:List En} {w:World} (h:Rd w lv 8 (plRows es)) (hfew:es.length ≤ 24) :
    Gives Tryz.prog 44 [lv,.func (.func 46) #[] #[]] w [] (fun _:Value=>True) id (fun v=>[row 45 2 v es.length ((spL es es.length).flatMap duoV)]):=by
  obtain ⟨a,cp,b,o,rfl,hcap,hmax,ha,hc⟩:=h
  rw [plRows_length] at *
  unfold maxLen at hmax
  refine gives_of_tr Tryz.func44 rfl rfl ?_
  (refine s_r ?_;refine a_s rfl rfl ?_;refine n_r ?_;refine a_s rfl rfl ?_;refine n_t ?_;refine tr_seq ?_;refine s_r ?_;refine m_v rfl rfl ?_;refine tr_val (rk_len_slice (.of rfl)) rfl ?_;refine m_v rfl rfl ?_;refine n_t ?_;refine tr_block ?_)
  refine tr_rowNil 45 2 ?_
  refine tr_for (ι:=Nat × Value) (fun x=>x.1 ≤ es.length) (fun x=>[(10,.int .i64 x.1),(9,.int .i64 es.length),(8,.slice a es.length cp),(5,x.2),(1,.func (.func 46) #[] #[])]) (fun x=>[row 45 2 x.2 x.1 ((spL es x.1).flatMap duoV)]) (fun x=>es.length - x.1) ?_ ?_
  · apply tr_start (0,.slice none 0 0) (Nat.zero_le _)
    case hs1=>exact .cons rfl (.cons rfl (.cons rfl (.cons rfl (.cons rfl .nil))))
    case ht=>
      show Takes _ [row 45 2 (.slice none 0 0) 0 []] _
      exact .cons .here .nil
  rintro ⟨k,v⟩ hk
  dsimp only at hk ⊢
  by_cases hlt:k < es.length
  · have ha':=ha (plRows_ne hlt)
    have hcell:=(hc k _ (plRows_get hlt)).2
    have hcl:∀ w,GivesV Tryz.prog 46 [.agg (plL es k).toArray] w (.agg #[.int .i64 (fr es k),.int .i64 (to es k)]):=fun w=>spanOf_c es k w
    unfold plL at hcell hcl
    (refine s_r ?_;refine tr_val (rk_lss (.of rfl) (.of rfl)) rfl ?_;refine n_t ?_;refine tr_seq ?_;refine c_d rfl (fun hcd=>?_) (fun _=>by omega);refine s_t ?_;refine tr_seq ?_;refine tr_block ?_;refine s_r ?_;refine tr_val (rk_indexAddr (.of rfl) (.of rfl) ha' (by omega) hcd norm1_) rfl ?_;refine tr_val (rk_loadN (.of rfl) (Ats.base hcell rfl) rfl) rfl ?_;refine tr_new (rk_alloc rfl) rfl (fun _ _=>?_);refine tr_store (.of rfl) (.of rfl) .here rfl rfl (okc_cons rfl (okc_cons rfl (okc_cons rfl (okc_cons rfl (okc_cons rfl (okc_cons rfl (okc_cons rfl (okc_cons rfl okc_nil)))))))) (lenb rfl) norm_ ?_;refine n_t ?_;refine tr_region ?_;refine m_v rfl rfl ?_;refine m_v rfl rfl ?_;refine tr_val (rk_loadB (.of rfl) .here norm_ (by rfl)) rfl ?_;refine tr_callV (rk_call (.of rfl) (.cons (.of rfl) .nil) inferInstance normc_) rfl (fun w' hm'=>(hcl w')) ?_;refine tr_new (rk_sliceLitN (.cons (.of rfl) .nil) rfl rfl normp_ normp_ norm_) rfl (fun _ _=>?_))
    refine tr_appendB (.of rfl) (.of rfl) (.there (.there .here)) .here norm_ (by rfl) (okc_cons rfl (okc_cons rfl okc_nil)) (by rfl) (by rfl) (by rfl) lenx_ (by rfl) ?_
    intro v'
    (refine a_s rfl rfl ?_;refine tr_nil ?_;refine tr_blk_normal ?_;refine tr_then ?_;refine tr_region ?_;refine tr_val (rk_add (.of rfl) (.of rfl) (ini (by omega))) rfl ?_;refine m_v rfl rfl ?_;refine n_t ?_)
    apply tr_next (k + 1,v') (by show k + 1 ≤ es.length;omega) (by show es.length - (k + 1) < es.length - k;omega)
    case hs1=>exact .cons rfl (.cons rfl (.cons rfl (.cons rfl (.cons rfl .nil))))
    case ht=>
      show Takes _ [row 45 2 v' (k + 1) ((spL es (k + 1)).flatMap duoV)] _
      rw [spL_succ,List.flatMap_append]
      show Takes _ [row 45 2 v' (k + 1) ((spL es k).flatMap duoV++[.int .i64 (fr es k),.int .i64 (to es k)])] _
      exact .cons .here .nil
  · obtain rfl:k = es.length:=by omega
    (refine s_r ?_;refine tr_val (rk_lss (.of rfl) (.of rfl)) rfl ?_;refine n_t ?_;refine tr_seq ?_;refine c_d rfl (fun _=>by omega) (fun hcd=>?_);refine x_t ?_;refine tr_then_exit ?_;refine tr_blk_exit ?_;refine tr_then ?_;refine s_r ?_;refine m_v rfl rfl ?_;refine a_s rfl rfl ?_;refine n_t ?_;refine tr_ret ?_)
    first | with_reducible apply tr_retM | with_reducible apply tr_endM
    case he=>exact ends1 rfl rfl
    case hR=>
      intro w' hm'
      exact gives_end v trivial (by exact .cons .here .nil) hm' rfl
def tmL (es:List En):List (Int × Int):=if chkF es = 0 then spL es es.length else []
def gpsL (es:List En):List (Int × Int × Int):=if chkF es = 0 then gpL es es.length else []
theorem times_c {sv:Value} {es:List En} {w:World} (h1:Rd w sv 6 (ensL es)) (hG:Glob w) :
    Gives Tryz.prog 15 [.agg #[sv]] w [] (fun _:Value=>True) (fun v=>.tuple #[v,.int .i64 (chkF es)]) (fun v=>[row 45 2 v (tmL es).length ((tmL es).flatMap duoV)]):=by
  have hone:=Rd.one h1
  refine gives_of_tr Tryz.func15 rfl rfl ?_
  (refine s_r ?_;refine tr_new (rk_box (.of rfl) rfl) rfl (fun _ _=>?_);refine a_s rfl rfl ?_;refine a_s rfl rfl ?_;refine n_t ?_;refine tr_seq ?_;refine s_r ?_;refine tr_val (rk_loadB (.of rfl) .here norm_ (by rfl)) rfl ?_;refine tr_callV (rk_call (.of rfl) (.cons (.of rfl) .nil) inferInstance normc_) rfl (fun w' hm'=>(chk_c (Rd.keeps h1 (Mem.keeps hm')) (Glob.keeps hG (Mem.keeps hm')))) ?_;refine a_s rfl rfl ?_;refine n_r ?_;refine m_v rfl rfl ?_;refine tr_val (rk_neq (.of rfl) (.of rfl)) rfl ?_;refine n_t ?_;refine c_d rfl (fun hcd=>?_) (fun hcd=>?_);refine s_r ?_;refine m_v rfl rfl ?_;refine a_s rfl rfl ?_;refine a_s rfl rfl ?_;refine n_t ?_;refine r_t ?_;rotate_left;refine s_t ?_;refine s_r ?_;refine tr_val (rk_loadB (.of rfl) .here norm_ (by rfl)) rfl ?_;rotate_right)
  · rw [tmL,if_neg hcd]
    refine tr_rowNil 45 2 ?_
    first | with_reducible apply tr_retM | with_reducible apply tr_endM
    case he=>exact ends2 rfl rfl rfl
    case hR=>
      intro w' hm'
      exact gives_end (.slice none 0 0) trivial (show Takes _ [row 45 2 (.slice none 0 0) 0 []] _ by exact .cons .here .nil) hm' rfl
  have hz:chkF es = 0:=Decidable.not_not.1 hcd
  have hs:=Sound.of hz
  rw [tmL,if_pos hz,hz,spL_length]
  with_reducible apply tr_call
  case hr=>exact rk_call (.of rfl) (.cons (.of rfl) .nil) inferInstance normc_
  case hd=>rfl
  case ht=>exact Takes.nil
  case hc=>
    intro w1 fp hm1 _ hs1
    obtain rfl:fp = []:=hs1
    exact spans_c (h1.keeps hm1.keeps) hs.all.ok hs.all.few (hG.keeps hm1.keeps)
  intro v _
  dsimp only [id_eq,List.cons_append,List.nil_append]
  with_reducible apply tr_call
  case hr=>exact rk_call (.of rfl) (.cons (.of rfl) (.cons (.of rfl) .nil)) inferInstance normc_
  case hd=>rfl
  case ht=>exact Takes.nil
  case hc=>
    intro w1 fp hm1 _ hs1
    obtain rfl:fp = []:=hs1
    exact mapSp_c (rdPl hm1 (by exact .here)) hs.all.few
  intro v2 _
  dsimp only [id_eq,List.cons_append,List.nil_append]
  (refine a_s rfl rfl ?_;refine a_s rfl rfl ?_;refine n_t ?_;refine tr_ret ?_)
  first | with_reducible apply tr_retM | with_reducible apply tr_endM
  case he=>exact ends2 rfl rfl rfl
  case hR=>
    intro w' hm'
    exact gives_end v2 trivial (by exact .cons .here .nil) hm' rfl
theorem gapsX_c {sv:Value} {es:List En} {w:World} (h1:Rd w sv 6 (ensL es)) (hG:Glob w) :
    Gives Tryz.prog 16 [.agg #[sv]] w [] (fun _:Value=>True) (fun v=>.tuple #[v,.int .i64 (chkF es)]) (fun v=>[row 74 3 v (gpsL es).length ((gpsL es).flatMap triV)]):=by
  have hone:=Rd.one h1
  refine gives_of_tr Tryz.func16 rfl rfl ?_
  (refine s_r ?_;refine tr_new (rk_box (.of rfl) rfl) rfl (fun _ _=>?_);refine a_s rfl rfl ?_;refine a_s rfl rfl ?_;refine n_t ?_;refine tr_seq ?_;refine s_r ?_;refine tr_val (rk_loadB (.of rfl) .here norm_ (by rfl)) rfl ?_;refine tr_callV (rk_call (.of rfl) (.cons (.of rfl) .nil) inferInstance normc_) rfl (fun w' hm'=>(chk_c (Rd.keeps h1 (Mem.keeps hm')) (Glob.keeps hG (Mem.keeps hm')))) ?_;refine a_s rfl rfl ?_;refine n_r ?_;refine m_v rfl rfl ?_;refine tr_val (rk_neq (.of rfl) (.of rfl)) rfl ?_;refine n_t ?_;refine c_d rfl (fun hcd=>?_) (fun hcd=>?_);refine s_r ?_;refine m_v rfl rfl ?_;refine a_s rfl rfl ?_;refine a_s rfl rfl ?_;refine n_t ?_;refine r_t ?_;rotate_left;refine s_t ?_;refine s_r ?_;refine tr_val (rk_loadB (.of rfl) .here norm_ (by rfl)) rfl ?_;rotate_right)
  · rw [gpsL,if_neg hcd]
    refine tr_rowNil 74 3 ?_
    first | with_reducible apply tr_retM | with_reducible apply tr_endM
    case he=>exact ends2 rfl rfl rfl
    case hR=>
      intro w' hm'
      exact gives_end (.slice none 0 0) trivial (show Takes _ [row 74 3 (.slice none 0 0) 0 []] _ by exact .cons .here .nil) hm' rfl
  have hz:chkF es = 0:=Decidable.not_not.1 hcd
  have hs:=Sound.of hz
  rw [gpsL,if_pos hz,hz]
  with_reducible apply tr_call
  case hr=>exact rk_call (.of rfl) (.cons (.of rfl) .nil) inferInstance normc_
  case hd=>rfl
  case ht=>exact Takes.nil
  case hc=>
    intro w1 fp hm1 _ hs1
    obtain rfl:fp = []:=hs1
    exact gaps_c (h1.keeps hm1.keeps) hs.all.ok hs.all.few (hG.keeps hm1.keeps)
  intro v _
  dsimp only [id_eq,List.cons_append,List.nil_append]
  (refine a_s rfl rfl ?_;refine a_s rfl rfl ?_;refine n_t ?_;refine tr_ret ?_)
  first | with_reducible apply tr_retM | with_reducible apply tr_endM
  case he=>exact ends2 rfl rfl rfl
  case hR=>
    intro w' hm'
    exact gives_end v trivial (show Takes _ [row 74 3 v (gpL es es.length).length (gpR es es.length)] _ by exact .cons .here .nil) hm' rfl
end Go.Proofs.A1
