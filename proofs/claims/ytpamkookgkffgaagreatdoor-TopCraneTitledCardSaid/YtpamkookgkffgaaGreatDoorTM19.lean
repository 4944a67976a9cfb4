/- Parts of the proof: ES45 ESW ES73p. -/
import Derived.Test.YtpamkookgkffgaaGreatDoorTM18
import Derived.Test.YtpamkookgkffgaaGreatDoorTM06
set_option linter.unusedSectionVars false
set_option linter.unusedVariables false
set_option linter.unusedSimpArgs false
namespace Go.Proofs.A1
open Go Go.SL
theorem flat_cellsAt {sz i:Nat} {xs:List (List Value)} {r cur:List Value} (hx:∀ r ∈ xs,r.length = sz) (h:xs[i]? = some r):cellsAt (xs.flatten++cur) (i * sz) sz = r:=by
  have hi:=(List.getElem?_eq_some_iff.1 h).1
  have hl:=flat_len hx
  have hrl:=hx r (List.mem_of_getElem? h)
  have hm:(i + 1) * sz ≤ xs.length * sz:=Nat.mul_le_mul_right _ hi
  rw [Nat.succ_mul] at hm
  rw [cellsAt_eq,List.drop_append_of_le_length (by omega),List.take_append_of_le_length (by rw [List.length_drop];omega)]
  apply List.ext_getElem?
  intro j
  rw [List.getElem?_take]
  split
  · rename_i hj
    rw [List.getElem?_drop]
    exact (flatten_get xs i hx h (List.getElem?_eq_getElem (by omega))).trans (List.getElem?_eq_getElem (by omega)).symm
  · rw [List.getElem?_eq_none (by omega)]
def trisL (l:List (Int × Int × Int)):List (List Value):=l.map triV
theorem trisL_flat (l:List (Int × Int × Int)):l.flatMap triV = (trisL l).flatten:=by rw [trisL,List.flatMap_def]
theorem trisL_sz (l:List (Int × Int × Int)):∀ r ∈ trisL l,r.length = 3:=by
  intro r hr
  obtain ⟨x,_,rfl⟩:=List.mem_map.1 hr
  rfl
theorem gpL_in {es:List En} (hs:Sound es):∀ n,n ≤ es.length → ∀ g ∈ gpL es n,0 ≤ g.1 ∧ g.1 + 1 < es.length ∧ 0 ≤ g.2.1 ∧ g.2.1 < g.2.2 ∧ g.2.2 ≤ 10000000
  | 0,_,g,hg=>by cases hg
  | n + 1, hn, g, hg => by
    rw [gpL_succ] at hg
    rcases List.mem_append.1 hg with h | h
    · exact gpL_in hs n (by omega) g h
    · split at h
      · rename_i hc
        simp only [List.mem_singleton] at h
        subst h
        obtain ⟨m,rfl⟩:∃ m,n = m + 1:=⟨n - 1,by omega⟩
        have h1:=hs.fr_nn (k:=m) (by omega)
        have h2:=hs.fr_nn (k:=m + 1) (by omega)
        have h3:=hc.2
        have e:endV es (m + 1) = to es m:=rfl
        rw [e] at h3 ⊢
        dsimp only
        omega
      · cases h
def plOne (b:Br) (f:Int) (o:List Nat) (i:Nat):En:=⟨(nthS9 b.sp (nthN o i)).nm,(nthS9 b.sp (nthN o i)).nm,if i = 0 then sFix else sFol,if i = 0 then f else 0,(nthS9 b.sp (nthN o i)).ln,0⟩
def plEn (b:Br) (f:Int) (o:List Nat) (k:Nat):List En:=(List.range k).map (plOne b f o)
theorem plEn_succ (b:Br) (f:Int) (o:List Nat) (k:Nat):plEn b f o (k + 1) = plEn b f o k++[plOne b f o k]:=by simp [plEn,List.range_succ]
theorem plEn_length (b:Br) (f:Int) (o:List Nat) (k:Nat):(plEn b f o k).length = k:=by simp [plEn]
def plGap (es:List En) (k:Nat):Int × Int × Int:=(gpL es es.length).getD k (0,0,0)
def pl1 (es:List En) (b:Br) (gap:Int):Int:=firstF [whenF (decide (gap < 0) || decide (gap ≥ ((gpL es es.length).length:Int))) 10,brE b]
def pl2 (b:Br) (ol:List Int) (g:Int × Int × Int):Int:=firstF [orderE b ol,whenF (decide (b.n ≠ g.2.2 - g.2.1)) 2]
def plEs (es:List En) (b:Br) (ol:List Int) (g:Int × Int × Int):List En:=chg es (g.1.toNat + 1) (g.1.toNat + 1) (plEn b g.2.1 (cfO ol) (cfO ol).length)
def plE (es:List En) (gap:Int) (b:Br) (ol:List Int):Int:=
  if chkF es ≠ 0 then chkF es else if pl1 es b gap ≠ 0 then pl1 es b gap else if pl2 b ol (plGap es gap.toNat) ≠ 0 then pl2 b ol (plGap es gap.toNat) else chkF (plEs es b ol (plGap es gap.toNat))
def plL' (es:List En) (gap:Int) (b:Br) (ol:List Int):List En:=if plE es gap b ol = 0 then plEs es b ol (plGap es gap.toNat) else []
set_option maxHeartbeats 2000000 in
theorem placed_c {sv pv cv xv ov:Value} {es:List En} {b:Br} {gap:Int} {ol:List Int} {w:World} (h1:Rd w sv 6 (ensL es)) (h2:Rd w pv 4 (spsL b.sp)) (h3:Rd w cv 1 (ints b.cm)) (h4:Rd w xv 2 (prsL b.ex)) (h5:Rd w ov 1 (ints ol)) (hG:Glob w) :
    Gives Tryz.prog 14 [.agg #[sv],.int .i64 gap,.agg #[.int .i64 b.n,pv,cv,xv],ov] w [] (fun _:Value=>True) (fun v=>.tuple #[.agg #[v],.int .i64 (plE es gap b ol)]) (fun v=>[row 67 6 v (plL' es gap b ol).length (ensL (plL' es gap b ol)).flatten]):=by
  have h1':=h1
  have h2':=h2
  have h5':=h5
  have hone3:=Rd.one h3
  have hone4:=Rd.one h4
  obtain ⟨g0,g1,_⟩:=hG
  have hG:Glob w:=⟨g0,g1,by assumption⟩
  obtain ⟨a,cap,bs,os,rfl,hcap,hmax,ha,hc⟩:=h1'
  obtain ⟨a2,cap2,bs2,os2,rfl,hcap2,hmax2,ha2,hc2⟩:=h2'
  obtain ⟨a5,cap5,bs5,os5,rfl,hcap5,hmax5,ha5,hc5⟩:=h5'
  rw [ensL_length] at *
  rw [spsL_length] at *
  rw [ints_length] at *
  unfold maxLen at hmax hmax2 hmax5
  refine gives_of_tr Tryz.func14 rfl rfl ?_
  (refine s_r ?_;refine tr_new (rk_box (.of rfl) rfl) rfl (fun _ _=>?_);refine tr_new (rk_box (.of rfl) rfl) rfl (fun _ _=>?_);refine tr_new (rk_alloc rfl) rfl (fun _ _=>?_);refine a_s rfl rfl ?_;refine n_t ?_;refine tr_seq ?_;refine s_r ?_;refine tr_val (rk_loadB (.of rfl) (.there (.there .here)) norm_ (by rfl)) rfl ?_;refine tr_callV (rk_call (.of rfl) (.cons (.of rfl) .nil) inferInstance normc_) rfl (fun w' hm'=>(chk_c (Rd.keeps h1 (Mem.keeps hm')) (Glob.keeps hG (Mem.keeps hm')))) ?_;refine a_s rfl rfl ?_;refine n_r ?_;refine m_v rfl rfl ?_;refine tr_val (rk_neq (.of rfl) (.of rfl)) rfl ?_;refine n_t ?_;refine c_d rfl (fun hcd=>?_) (fun hcd=>?_);refine s_r ?_;refine tr_val (rk_buildL .nil norm_) rfl ?_;refine m_v rfl rfl ?_;refine tr_store (.of rfl) (.of rfl) .here rfl rfl (okc_cons rfl okc_nil) (lenb rfl) norm_ ?_;refine a_s rfl rfl ?_;refine n_t ?_;refine r_t ?_;rotate_left;refine s_t ?_;refine s_r ?_;refine tr_val (rk_loadB (.of rfl) (.there (.there .here)) norm_ (by rfl)) rfl ?_;rotate_right)
  · have hE:plE es gap b ol = chkF es:=by rw [plE,if_pos hcd]
    have hL:plL' es gap b ol = []:=by rw [plL',if_neg (by rw [hE];exact hcd)]
    rw [hE,hL]
    refine tr_rowNil 67 6 ?_
    first | with_reducible apply tr_retM | with_reducible apply tr_endM
    case he=>exact endsCT rfl inferInstance rfl (.there .here) norm_ (by rfl) (by rfl)
    case hR=>
      intro w' hm'
      exact gives_end (.slice none 0 0) trivial (show Takes _ [row 67 6 (.slice none 0 0) 0 []] _ by exact .cons .here .nil) hm' rfl
  rename_i b4 hb4 b6 hb6 b8 hb8
  have hz:chkF es = 0:=Decidable.not_not.1 hcd
  have hs:=Sound.of hz
  have hfew:=hs.all.few
  with_reducible apply tr_call
  case hr=>exact rk_call (.of rfl) (.cons (.of rfl) .nil) inferInstance normc_
  case hd=>rfl
  case ht=>exact Takes.nil
  case hc=>
    intro w1 fp hm1 _ hs1
    obtain rfl:fp = []:=hs1
    exact gaps_c (h1.keeps hm1.keeps) hs.all.ok hs.all.few (hG.keeps hm1.keeps)
  intro vg _
  dsimp only [id_eq,List.cons_append,List.nil_append]
  refine tr_rowSl (E:=74) (sz:=3) (by exact .here) fun ag capg e=>?_
  subst e
  (refine a_s rfl rfl ?_;refine n_t ?_;refine tr_seq ?_;refine tr_seq ?_)
  with_reducible refine tr_draw 11 (by kernel_rfl) ?_
  (refine a_m rfl rfl ?_;refine any_val (rk_lss (.of rfl) (.of rfl)) rfl ?_;refine a_m rfl rfl ?_;refine any_vG1 rfl rfl inferInstance (fun hg hgp=>(rk_move (.of rfl))) rfl ?_;refine any_vG1 rfl rfl inferInstance (fun hg hgp=>(rk_move (.of rfl))) rfl ?_;refine any_vG1 rfl rfl inferInstance (fun hg hgp=>(rk_len_slice (.ofg hg rfl))) rfl ?_;refine any_vG1 rfl rfl inferInstance (fun hg hgp=>(rk_geq (.ofg hg rfl) (.ofg hg rfl))) rfl ?_;refine any_val (rk_pick_or (.of rfl) rfl) rfl ?_;refine any_call (rk_call (.of rfl) (.cons (.of rfl) (.cons (.of rfl) .nil)) inferInstance normc_) rfl (fun w' hm'=>(when9_c _ 10 w')) ?_;refine any_val (rk_loadB (.of rfl) (.there (.there .here)) norm_ (by rfl)) rfl ?_;refine any_call (rk_call (.of rfl) (.cons (.of rfl) .nil) inferInstance normc_) rfl (fun w' hm'=>(brk_c (Rd.keeps h2 (Mem.keeps hm')) (Rd.keeps h3 (Mem.keeps hm')) (Rd.keeps h4 (Mem.keeps hm')))) ?_)
  with_reducible refine any_end ?_
  (refine tr_new (rk_sliceLit (.cons (.of rfl) (.cons (.of rfl) .nil)) rfl rfl rfl rfl) rfl (fun _ _=>?_);refine tr_callV (rk_call (.of rfl) (.cons (.of rfl) .nil) inferInstance normc_) rfl (fun w' hm'=>(first_pB9 (Mem.rdBlk hm' .here rfl rfl) (IntL.cons (IntL.cons IntL.nil)))) ?_;refine a_s rfl rfl ?_;refine n_r ?_;refine m_v rfl rfl ?_;refine tr_val (rk_neq (.of rfl) (.of rfl)) rfl ?_;refine n_t ?_;refine c_d rfl (fun hcd=>?_) (fun hcd=>?_);refine s_r ?_;refine tr_val (rk_buildL .nil norm_) rfl ?_;refine m_v rfl rfl ?_;refine tr_store (.of rfl) (.of rfl) (.there (.there .here)) rfl rfl (okc_cons rfl okc_nil) (lenb rfl) norm_ ?_;refine a_s rfl rfl ?_;refine n_t ?_;refine r_t ?_;rotate_left;refine s_t ?_;refine s_r ?_;refine m_v rfl rfl ?_;refine m_v rfl rfl ?_;rotate_right)
  · have hne:pl1 es b gap ≠ 0:=hcd
    have hE:plE es gap b ol = pl1 es b gap:=by rw [plE,if_neg (by rw [hz];decide),if_pos hne]
    have hL:plL' es gap b ol = []:=by rw [plL',if_neg (by rw [hE];exact hne)]
    rw [hE,hL]
    refine tr_rowNil 67 6 ?_
    first | with_reducible apply tr_retM | with_reducible apply tr_endM
    case he=>exact endsCT rfl inferInstance rfl (.there .here) norm_ (by rfl) (by rfl)
    case hR=>
      intro w' hm'
      exact gives_end (.slice none 0 0) trivial (show Takes _ [row 67 6 (.slice none 0 0) 0 []] _ by exact .cons .here .nil) hm' rfl
  have hz1:pl1 es b gap = 0:=Decidable.not_not.1 hcd
  have hz1':=hz1
  unfold pl1 at hz1'
  rw [firstF_zero] at hz1'
  simp only [List.mem_cons,List.not_mem_nil,or_false,forall_eq_or_imp,forall_eq] at hz1'
  rw [whenF_zero (by decide)] at hz1'
  have hok:=BrOk.of hz1'.2
  have hgb:0 ≤ gap ∧ gap < ((gpL es es.length).length:Int):=by
    have:=hz1'.1
    simp only [Bool.or_eq_false_iff,decide_eq_false_iff_not] at this
    omega
  obtain ⟨k0,rfl⟩:∃ k:Nat,gap = k:=⟨gap.toNat,by omega⟩
  have hk:k0 < (gpL es es.length).length:=by omega
  have hgk:(gpL es es.length)[k0]? = some (plGap es k0):=by simp [plGap,hk]
  have hgin:=gpL_in hs es.length (Nat.le_refl _) _ (List.mem_of_getElem? hgk)
  generalize hgv:plGap es k0 = gv at hgk hgin
  obtain ⟨ga,gf,gt⟩:=gv
  dsimp only at hgin
  have hE1:plE es k0 b ol = if pl2 b ol (ga,gf,gt) ≠ 0 then pl2 b ol (ga,gf,gt) else chkF (plEs es b ol (ga,gf,gt)):=by
    rw [plE,if_neg (by rw [hz];decide),if_neg (by rw [hz1];decide),Int.toNat_natCast,hgv]
  have hL1:plL' es k0 b ol = if plE es k0 b ol = 0 then plEs es b ol (ga,gf,gt) else []:=by rw [plL',Int.toNat_natCast,hgv]
  refine tr_rowOpen (E:=74) (sz:=3) (by exact Take.there .here) (by omega) fun gg capg' cur e hcapg hmxg hszg hlg=>?_
  cases e
  have hcg:cellsAt (gpR es es.length++cur) (k0 * 3) 3 = [.int .i64 ga,.int .i64 gf,.int .i64 gt]:=by
    have:gpR es es.length = (trisL (gpL es es.length)).flatten:=trisL_flat _
    rw [this]
    exact flat_cellsAt (trisL_sz _) (by simp [trisL,hgk,triV])
  (refine tr_val (rk_indexAddr (.of rfl) (.of rfl) rfl (by omega) (by omega) norm1_) rfl ?_;refine tr_val (rk_loadB (.of rfl) .here hcg rfl) rfl ?_;refine tr_new (rk_alloc rfl) rfl (fun _ _=>?_);refine tr_store (.of rfl) (.of rfl) .here rfl rfl (okc_cons rfl (okc_cons rfl (okc_cons rfl okc_nil))) (lenb rfl) norm_ ?_;refine n_t ?_;refine tr_seq ?_;refine tr_seq ?_)
  rename_i b13 hb13
  with_reducible refine tr_draw 14 (by kernel_rfl) ?_
  (refine any_val (rk_loadB (.of rfl) (.there (.there (.there (.there .here)))) norm_ (by rfl)) rfl ?_;refine a_m rfl rfl ?_;refine any_call (rk_call (.of rfl) (.cons (.of rfl) (.cons (.of rfl) .nil)) inferInstance normc_) rfl (fun w' hm'=>(order_c (Rd.keeps h2 (Mem.keeps hm')) (Rd.keeps h3 (Mem.keeps hm')) (Rd.keeps h4 (Mem.keeps hm')) (Rd.keeps h5 (Mem.keeps hm')) hok)) ?_;refine a_f rfl rfl norm0_ ?_;refine any_val (rk_load1 (.of rfl) (At.lit (.there (.there (.there (.there .here)))) rfl)) rfl ?_;refine a_f rfl rfl norm0_ ?_;refine a_f rfl rfl norm0_ ?_;refine any_val (rk_load1 (.of rfl) (At.lit .here rfl)) rfl ?_;refine a_f rfl rfl norm0_ ?_;refine a_f rfl rfl norm0_ ?_;refine any_val (rk_load1 (.of rfl) (At.lit .here rfl)) rfl ?_;refine any_val (rk_sub (.of rfl) (.of rfl) (ini (by omega))) rfl ?_;refine any_val (rk_neq (.of rfl) (.of rfl)) rfl ?_;refine any_call (rk_call (.of rfl) (.cons (.of rfl) (.cons (.of rfl) .nil)) inferInstance normc_) rfl (fun w' hm'=>(when9_c _ 2 w')) ?_)
  with_reducible refine any_end ?_
  (refine tr_new (rk_sliceLit (.cons (.of rfl) (.cons (.of rfl) .nil)) rfl rfl rfl rfl) rfl (fun _ _=>?_);refine tr_callV (rk_call (.of rfl) (.cons (.of rfl) .nil) inferInstance normc_) rfl (fun w' hm'=>(first_pB9 (Mem.rdBlk hm' .here rfl rfl) (IntL.cons (IntL.cons IntL.nil)))) ?_;refine a_s rfl rfl ?_;refine n_r ?_;refine m_v rfl rfl ?_;refine tr_val (rk_neq (.of rfl) (.of rfl)) rfl ?_;refine n_t ?_;refine c_d rfl (fun hcd=>?_) (fun hcd=>?_);refine s_r ?_;refine tr_val (rk_buildL .nil norm_) rfl ?_;refine m_v rfl rfl ?_;refine tr_store (.of rfl) (.of rfl) (.there (.there (.there (.there .here)))) rfl rfl (okc_cons rfl okc_nil) (lenb rfl) norm_ ?_;refine a_s rfl rfl ?_;refine n_t ?_;refine r_t ?_;rotate_left;refine s_t ?_;refine s_r ?_;refine a_s rfl rfl ?_;refine n_t ?_;refine tr_seq ?_;refine s_r ?_;refine m_v rfl rfl ?_;refine tr_val (rk_len_slice (.of rfl)) rfl ?_;refine m_v rfl rfl ?_;refine n_t ?_;refine tr_block ?_;rotate_right)
  · have hne:pl2 b ol (ga,gf,gt) ≠ 0:=hcd
    rw [if_pos hne] at hE1
    rw [hE1,if_neg hne] at hL1
    rw [hE1,hL1]
    refine tr_rowNil 67 6 ?_
    first | with_reducible apply tr_retM | with_reducible apply tr_endM
    case he=>exact endsCT rfl inferInstance rfl (.there .here) norm_ (by rfl) (by rfl)
    case hR=>
      intro w' hm'
      exact gives_end (.slice none 0 0) trivial (show Takes _ [row 67 6 (.slice none 0 0) 0 []] _ by exact .cons .here .nil) hm' rfl
  have hz2:pl2 b ol (ga,gf,gt) = 0:=Decidable.not_not.1 hcd
  rw [if_neg (by rw [hz2];decide)] at hE1
  have hz2':=hz2
  unfold pl2 at hz2'
  rw [firstF_zero] at hz2'
  simp only [List.mem_cons,List.not_mem_nil,or_false,forall_eq_or_imp,forall_eq] at hz2'
  obtain ⟨hl8,hin,_⟩:=orderE_ok hz2'.1
  have hnn:∀ i ∈ ol,0 ≤ i ∧ i < b.sp.length:=by
    intro i hi
    obtain ⟨j,hj,rfl⟩:=List.getElem_of_mem hi
    have:=hin j hj
    omega
  have hlo:(cfO ol).length = ol.length:=by rw [cfO,List.length_map]
  have hlt:∀ i ∈ cfO ol,i < b.sp.length:=fun i hi=>by
    obtain ⟨j,hj,rfl⟩:=List.mem_map.1 hi
    have:=hnn j hj
    omega
  have hrd:Rd w (.slice a5 ol.length cap5) 1 (natsL (cfO ol)):=by
    rw [cfO,natsL_ints,toNat_back fun i hi=>(hnn i hi).1];exact h5
  obtain ⟨a5',cap5',bs6,os6,e5,_,_,ha6,hc6⟩:=hrd
  have ha5e:a5' = a5:=by simp only [Value.slice.injEq] at e5;exact e5.1.symm
  subst ha5e
  obtain ⟨n,rfl⟩:∃ n:Nat,ga = n:=⟨ga.toNat,by omega⟩
  have hPs:plEs es b ol ((n:Int),gf,gt) = chg es (n + 1) (n + 1) (plEn b gf (cfO ol) ol.length):=by rw [plEs,hlo];simp only [Int.toNat_natCast]
  rw [hPs] at hE1 hL1
  refine tr_rowNil 67 6 ?_
  refine tr_for (ι:=Nat × Value) (fun x=>x.1 ≤ ol.length) (fun x=>[(72,.int .i64 x.1),(71,.int .i64 ol.length),(3,.slice a5' ol.length cap5),(15,x.2),(6,.pointer (some ⟨b6,0,none⟩)),(13,.pointer (some ⟨b13,0,none⟩)),(4,.pointer (some ⟨b4,0,none⟩)),(8,.pointer (some ⟨b8,0,none⟩))])
    (fun x=>[row 67 6 x.2 x.1 (ensL (plEn b gf (cfO ol) x.1)).flatten,blk b13 (.cells #[.int .i64 (n:Int),.int .i64 gf,.int .i64 gt] 74 (0,0)),blk b6 (.cells #[.int .i64 b.n,.slice a2 b.sp.length cap2,cv,xv] 58 (0,0)),blk b4 (.cells #[.slice a es.length cap] 40 (0,0)),blk b8 (.cells #[.slice none 0 0] 40 (0,0))]) (fun x=>ol.length - x.1) ?_ ?_
  · apply tr_start (0,.slice none 0 0) (Nat.zero_le _)
    case hs1=>exact .cons rfl (.cons rfl (.cons rfl (.cons rfl (.cons rfl (.cons rfl (.cons rfl (.cons rfl .nil)))))))
    case ht=>
      show Takes _ [row 67 6 (.slice none 0 0) 0 [],_,_,_,_] _
      exact .cons .here (.cons (.there .here) (.cons (.there (.there (.there (.there .here)))) (.cons (.there (.there (.there (.there .here)))) (.cons (.there (.there (.there .here))) .nil))))
  rintro ⟨k,v⟩ hk
  dsimp only at hk ⊢
  by_cases hlt2:k < ol.length
  · have hko:k < (cfO ol).length:=by omega
    have ha6':=ha6 (natsL_ne hko)
    have c5:w.cell? ⟨bs6,os6 + k * 1,none⟩ = some (.int .i64 (nthN (cfO ol) k)):=(hc6 k _ (natsL_get hko)).2 0 _ rfl
    have hi:=hlt _ (nthN_mem hko)
    have ha2':=ha2 (spsL_ne hi)
    have hcell:=(hc2 (nthN (cfO ol) k) _ (spsL_get hi)).2
    have hsu:(ensL (plEn b gf (cfO ol) (k + 1))).flatten = (ensL (plEn b gf (cfO ol) k)).flatten++(plOne b gf (cfO ol) k).cells:=by
      rw [plEn_succ,ensL_app,List.flatten_append];simp [ensL]
    unfold Sp.cells at hcell
    unfold plOne at hsu
    by_cases hk0:k = 0
    · rw [if_pos hk0,if_pos hk0] at hsu
      (refine s_r ?_;refine tr_val (rk_lss (.of rfl) (.of rfl)) rfl ?_;refine n_t ?_;refine tr_seq ?_;refine c_d rfl (fun hcd=>?_) (fun _=>by omega);refine s_t ?_;refine tr_seq ?_;refine tr_block ?_;refine s_r ?_;refine m_v rfl rfl ?_;refine a_s rfl rfl ?_;refine n_t ?_;refine tr_seq ?_)
      with_reducible refine tr_drawO 9 (by kernel_rfl) ?_
      (refine ao_val (rk_fieldAddr (.of rfl) norm0_) rfl ?_;refine ao_val (rk_load1 (.of rfl) (At.lit (.there (.there .here)) rfl)) rfl ?_;refine ao_val (rk_move (.of rfl)) rfl ?_;refine ao_val (rk_move (.of rfl)) rfl ?_;refine ao_val (rk_indexAddr (.of rfl) (.of rfl) ha6' (by omega) hcd norm1_) rfl ?_;refine ao_val (rk_load1 (.of rfl) (At.base c5 rfl)) rfl ?_;refine ao_val (rk_indexAddr (.of rfl) (.of rfl) ha2' (by omega) (by omega) norm1_) rfl ?_;refine ao_val (rk_loadN (.of rfl) (Ats.base hcell rfl) rfl) rfl ?_;refine ao_new (rk_alloc rfl) rfl rfl ?_)
      with_reducible refine ao_end1 rfl fun bq hbq=>?_
      (refine tr_store (.of rfl) (.of rfl) .here rfl rfl (okc_cons rfl (okc_cons rfl (okc_cons rfl (okc_cons rfl okc_nil)))) (lenb rfl) norm_ ?_;refine n_r ?_;refine tr_val (rk_indexAddrA (.of rfl) (.of rfl) (by omega) (by omega) norm1_) rfl ?_;refine tr_val (rk_load1 (.of rfl) (At.base g1 rfl)) rfl ?_;refine tr_val (rk_buildL (.cons (.of rfl) (.cons (.of rfl) .nil)) norm_) rfl ?_;refine tr_new (rk_alloc rfl) rfl (fun _ _=>?_);refine tr_store (.of rfl) (.of rfl) .here rfl rfl (okc_cons rfl (okc_cons rfl okc_nil)) (lenb rfl) norm_ ?_;refine n_t ?_;refine tr_seq ?_;refine s_r ?_;refine m_v rfl rfl ?_;refine tr_val (rk_eql (.of rfl) (.of rfl)) rfl ?_;refine n_t ?_;refine c_d rfl (fun hcd=>?_) (fun _=>by omega);refine tr_region ?_;refine tr_val (rk_indexAddrA (.of rfl) (.of rfl) (by omega) (by omega) norm1_) rfl ?_;refine tr_val (rk_load1 (.of rfl) (At.base g0 rfl)) rfl ?_;refine f_a rfl rfl norm0_ ?_;refine f_a rfl rfl norm0_ ?_;refine tr_val (rk_load1 (.of rfl) (At.lit (.there (.there (.there .here))) rfl)) rfl ?_;refine tr_val (rk_buildL (.cons (.of rfl) (.cons (.of rfl) .nil)) norm_) rfl ?_;refine tr_store (.of rfl) (.of rfl) .here rfl rfl (okc_cons rfl (okc_cons rfl okc_nil)) (lenb rfl) norm_ ?_;refine n_t ?_;refine tr_region ?_;refine m_v rfl rfl ?_;refine f_a rfl rfl norm0_ ?_;refine tr_val (rk_load1 (.of rfl) (At.lit (.there .here) rfl)) rfl ?_;refine f_a rfl rfl norm0_ ?_;refine tr_val (rk_load1 (.of rfl) (At.lit (.there .here) rfl)) rfl ?_;refine tr_val (rk_loadB (.of rfl) .here norm_ (by rfl)) rfl ?_;refine f_a rfl rfl norm0_ ?_;refine tr_val (rk_load1 (.of rfl) (At.lit (.there .here) rfl)) rfl ?_;refine tr_val (rk_buildL (.cons (.of rfl) (.cons (.of rfl) (.cons (.of rfl) (.cons (.of rfl) .nil)))) norm_) rfl ?_;refine tr_new (rk_sliceLitN (.cons (.of rfl) .nil) rfl rfl normp_ normp_ norm_) rfl (fun _ _=>?_))
      refine tr_appendB (.of rfl) (.of rfl) (.there (.there (.there .here))) .here norm_ (by rfl) (okc_cons rfl (okc_cons rfl (okc_cons rfl (okc_cons rfl (okc_cons rfl (okc_cons rfl okc_nil)))))) (by rfl) (by rfl) (by rfl) lenx_ (by rfl) ?_
      intro v'
      (refine a_s rfl rfl ?_;refine tr_nil ?_;refine tr_blk_normal ?_;refine tr_then ?_;refine tr_region ?_;refine tr_val (rk_add (.of rfl) (.of rfl) (ini (by omega))) rfl ?_;refine m_v rfl rfl ?_;refine n_t ?_)
      apply tr_next (k + 1,v') (show k + 1 ≤ ol.length by omega) (show ol.length - (k + 1) < ol.length - k by omega)
      case hs1=>exact .cons rfl (.cons rfl (.cons rfl (.cons rfl (.cons rfl (.cons rfl (.cons rfl (.cons rfl .nil)))))))
      case ht=>
        show Takes _ [row 67 6 v' (k + 1) (ensL (plEn b gf (cfO ol) (k + 1))).flatten,_,_,_,_] _
        rw [hsu]
        unfold En.cells
        exact .cons .here (.cons (.there (.there (.there .here))) (.cons (.there (.there (.there .here))) (.cons (.there (.there (.there .here))) (.cons (.there (.there (.there .here))) .nil))))
    · rw [if_neg hk0,if_neg hk0] at hsu
      (refine s_r ?_;refine tr_val (rk_lss (.of rfl) (.of rfl)) rfl ?_;refine n_t ?_;refine tr_seq ?_;refine c_d rfl (fun hcd=>?_) (fun _=>by omega);refine s_t ?_;refine tr_seq ?_;refine tr_block ?_;refine s_r ?_;refine m_v rfl rfl ?_;refine a_s rfl rfl ?_;refine n_t ?_;refine tr_seq ?_)
      with_reducible refine tr_drawO 9 (by kernel_rfl) ?_
      (refine ao_val (rk_fieldAddr (.of rfl) norm0_) rfl ?_;refine ao_val (rk_load1 (.of rfl) (At.lit (.there (.there .here)) rfl)) rfl ?_;refine ao_val (rk_move (.of rfl)) rfl ?_;refine ao_val (rk_move (.of rfl)) rfl ?_;refine ao_val (rk_indexAddr (.of rfl) (.of rfl) ha6' (by omega) hcd norm1_) rfl ?_;refine ao_val (rk_load1 (.of rfl) (At.base c5 rfl)) rfl ?_;refine ao_val (rk_indexAddr (.of rfl) (.of rfl) ha2' (by omega) (by omega) norm1_) rfl ?_;refine ao_val (rk_loadN (.of rfl) (Ats.base hcell rfl) rfl) rfl ?_;refine ao_new (rk_alloc rfl) rfl rfl ?_)
      with_reducible refine ao_end1 rfl fun bq hbq=>?_
      (refine tr_store (.of rfl) (.of rfl) .here rfl rfl (okc_cons rfl (okc_cons rfl (okc_cons rfl (okc_cons rfl okc_nil)))) (lenb rfl) norm_ ?_;refine n_r ?_;refine tr_val (rk_indexAddrA (.of rfl) (.of rfl) (by omega) (by omega) norm1_) rfl ?_;refine tr_val (rk_load1 (.of rfl) (At.base g1 rfl)) rfl ?_;refine tr_val (rk_buildL (.cons (.of rfl) (.cons (.of rfl) .nil)) norm_) rfl ?_;refine tr_new (rk_alloc rfl) rfl (fun _ _=>?_);refine tr_store (.of rfl) (.of rfl) .here rfl rfl (okc_cons rfl (okc_cons rfl okc_nil)) (lenb rfl) norm_ ?_;refine n_t ?_;refine tr_seq ?_;refine s_r ?_;refine m_v rfl rfl ?_;refine tr_val (rk_eql (.of rfl) (.of rfl)) rfl ?_;refine n_t ?_;refine c_d rfl (fun _=>by omega) (fun hcd=>?_);refine s_t ?_;refine tr_region ?_;refine m_v rfl rfl ?_;refine f_a rfl rfl norm0_ ?_;refine tr_val (rk_load1 (.of rfl) (At.lit (.there .here) rfl)) rfl ?_;refine f_a rfl rfl norm0_ ?_;refine tr_val (rk_load1 (.of rfl) (At.lit (.there .here) rfl)) rfl ?_;refine tr_val (rk_loadB (.of rfl) .here norm_ (by rfl)) rfl ?_;refine f_a rfl rfl norm0_ ?_;refine tr_val (rk_load1 (.of rfl) (At.lit (.there .here) rfl)) rfl ?_;refine tr_val (rk_buildL (.cons (.of rfl) (.cons (.of rfl) (.cons (.of rfl) (.cons (.of rfl) .nil)))) norm_) rfl ?_;refine tr_new (rk_sliceLitN (.cons (.of rfl) .nil) rfl rfl normp_ normp_ norm_) rfl (fun _ _=>?_))
      refine tr_appendB (.of rfl) (.of rfl) (.there (.there (.there .here))) .here norm_ (by rfl) (okc_cons rfl (okc_cons rfl (okc_cons rfl (okc_cons rfl (okc_cons rfl (okc_cons rfl okc_nil)))))) (by rfl) (by rfl) (by rfl) lenx_ (by rfl) ?_
      intro v'
      (refine a_s rfl rfl ?_;refine tr_nil ?_;refine tr_blk_normal ?_;refine tr_then ?_;refine tr_region ?_;refine tr_val (rk_add (.of rfl) (.of rfl) (ini (by omega))) rfl ?_;refine m_v rfl rfl ?_;refine n_t ?_)
      apply tr_next (k + 1,v') (show k + 1 ≤ ol.length by omega) (show ol.length - (k + 1) < ol.length - k by omega)
      case hs1=>exact .cons rfl (.cons rfl (.cons rfl (.cons rfl (.cons rfl (.cons rfl (.cons rfl (.cons rfl .nil)))))))
      case ht=>
        show Takes _ [row 67 6 v' (k + 1) (ensL (plEn b gf (cfO ol) (k + 1))).flatten,_,_,_,_] _
        rw [hsu]
        unfold En.cells
        exact .cons .here (.cons (.there (.there (.there .here))) (.cons (.there (.there (.there .here))) (.cons (.there (.there (.there .here))) (.cons (.there (.there (.there .here))) .nil))))
  · obtain rfl:k = ol.length:=by omega
    (refine s_r ?_;refine tr_val (rk_lss (.of rfl) (.of rfl)) rfl ?_;refine n_t ?_;refine tr_seq ?_;refine c_d rfl (fun _=>by omega) (fun hcd=>?_);refine x_t ?_;refine tr_then_exit ?_;refine tr_blk_exit ?_;refine tr_then ?_;refine s_r ?_;refine tr_val (rk_loadB (.of rfl) (.there (.there (.there .here))) norm_ (by rfl)) rfl ?_;refine f_a rfl rfl norm0_ ?_;refine tr_val (rk_load1 (.of rfl) (At.lit (.there .here) rfl)) rfl ?_;refine tr_val (rk_add (.of rfl) (.of rfl) (ini (by omega))) rfl ?_;refine f_a rfl rfl norm0_ ?_;refine tr_val (rk_load1 (.of rfl) (At.lit (.there .here) rfl)) rfl ?_;refine tr_val (rk_add (.of rfl) (.of rfl) (ini (by omega))) rfl ?_;refine m_v rfl rfl ?_)
    rw [show (n:Int) + 1 = ((n + 1:Nat):Int) by omega]
    with_reducible apply tr_call
    case hr=>exact rk_call (.of rfl) (.cons (.of rfl) (.cons (.of rfl) (.cons (.of rfl) (.cons (.of rfl) .nil)))) inferInstance normc_
    case hd=>rfl
    case ht=>exact Takes.nil
    case hc=>
      intro w1 fp hm1 _ hs1
      obtain rfl:fp = []:=hs1
      exact changed_c (l:=plEn b gf (cfO ol) ol.length) (h1.keeps hm1.keeps) (rdEnF hm1 (by exact .here) (plEn_length _ _ _ _)) (by omega) (by omega) (by rw [plEn_length];omega)
    intro vc _
    dsimp only [id_eq,List.cons_append,List.nil_append]
    refine tr_rowSl (E:=67) (sz:=6) (by exact .here) fun a' cap' e=>?_
    subst e
    (refine tr_new (rk_alloc rfl) rfl (fun _ _=>?_);refine tr_store (.of rfl) (.of rfl) .here rfl rfl (okc_cons rfl okc_nil) (lenb rfl) norm_ ?_;refine n_t ?_;refine tr_seq ?_;refine s_r ?_;refine tr_val (rk_loadB (.of rfl) .here norm_ (by rfl)) rfl ?_)
    with_reducible apply tr_callV
    case hr=>exact rk_call (.of rfl) (.cons (.of rfl) .nil) inferInstance normc_
    case hd=>rfl
    case hc=>
      intro w' hm'
      exact chk_c (rdEnF hm' (by exact Take.there .here) rfl) (hG.keeps hm'.keeps)
    rw [← hE1]
    (refine a_s rfl rfl ?_;refine n_r ?_;refine m_v rfl rfl ?_;refine tr_val (rk_neq (.of rfl) (.of rfl)) rfl ?_;refine n_t ?_;refine c_d rfl (fun hcd=>?_) (fun hcd=>?_);refine s_r ?_;refine tr_val (rk_buildL .nil norm_) rfl ?_;refine m_v rfl rfl ?_;refine tr_store (.of rfl) (.of rfl) (.there (.there (.there (.there (.there (.there .here)))))) rfl rfl (okc_cons rfl okc_nil) (lenb rfl) norm_ ?_;refine a_s rfl rfl ?_;refine n_t ?_;refine r_t ?_;rotate_left;refine s_t ?_;refine s_r ?_;refine tr_val (rk_loadB (.of rfl) .here norm_ (by rfl)) rfl ?_;refine tr_store (.of rfl) (.of rfl) (.there (.there (.there (.there (.there (.there .here)))))) rfl rfl (okc_cons rfl okc_nil) (lenb rfl) norm_ ?_;refine a_s rfl rfl ?_;refine n_t ?_;refine tr_ret ?_;rotate_right)
    · rw [if_neg hcd] at hL1
      rw [hL1]
      refine tr_rowNil 67 6 ?_
      first | with_reducible apply tr_retM | with_reducible apply tr_endM
      case he=>exact endsCT rfl inferInstance rfl (.there .here) norm_ (by rfl) (by rfl)
      case hR=>
        intro w' hm'
        exact gives_end (.slice none 0 0) trivial (show Takes _ [row 67 6 (.slice none 0 0) 0 []] _ by exact .cons .here .nil) hm' rfl
    · have h0:plE es k0 b ol = 0:=Decidable.not_not.1 hcd
      rw [if_pos h0] at hL1
      rw [h0,hL1]
      first | with_reducible apply tr_retM | with_reducible apply tr_endM
      case he=>exact endsCT rfl inferInstance rfl .here norm_ (by rfl) (by rfl)
      case hR=>
        intro w' hm'
        exact gives_end (.slice a' (chg es (n + 1) (n + 1) (plEn b gf (cfO ol) ol.length)).length cap') trivial (by exact .cons (.there (.there .here)) .nil) hm' rfl
end Go.Proofs.A1
namespace Go.Proofs.A1
open Go Go.SL
theorem firstF_hit {α:Type} {f:α → Int}:∀ {l:List α} {k:Nat} (h:k < l.length),(∀ i (hi:i < k),f (l[i]'(Nat.lt_trans hi h)) = 0) → f l[k] ≠ 0 → firstF (l.map f) = f l[k]
  | x :: r, 0, h, _, hne => by
    have hne':f x ≠ 0:=hne
    simp only [List.map_cons,firstF]
    rw [if_pos hne'];rfl
  | x :: r, k + 1, h, hz, hne => by
    have h0:=hz 0 (Nat.succ_pos k)
    have h0':f x = 0:=h0
    have h1:=firstF_hit (f:=f) (l:=r) (k:=k) (Nat.lt_of_succ_lt_succ h) (fun i hi=>hz (i + 1) (Nat.succ_lt_succ hi)) hne
    simp only [List.map_cons,firstF]
    rw [if_neg (by rw [h0'];decide),h1];rfl
theorem firstF_nil' {α:Type} {f:α → Int} {l:List α} (h:∀ x ∈ l,f x = 0):firstF (l.map f) = 0:=firstF_zero.2 fun e he=>by
  obtain ⟨x,hx,rfl⟩:=List.mem_map.1 he
  exact h x hx
end Go.Proofs.A1
namespace Go.Proofs.A1
open Go Go.SL
theorem Sound.shF_at {es:List En} (h:Sound es) (f:Int):(shF es f).map (fun x=>x.1) = (A1.onL es f es.length).map fun (i:Nat)=>(i:Int):=by
  unfold shF
  rcases h.onL f es.length (Nat.le_refl _) with e | ⟨i,h1,h2,e⟩ | ⟨i,h1,h2,h3,e⟩ <;> rw [e] <;> rfl
theorem shF_off {es:List En} {f:Int} (h:∀ k,k < es.length → onB es f k = false):shF es f = []:=by
  have:onL es f es.length = []:=by
    unfold onL
    rw [List.filter_eq_nil_iff]
    intro k hk
    rw [h k (List.mem_range.1 hk)];decide
  unfold shF;rw [this]
theorem airE_in {es:List En} (h:chkF es = 0) {f:Int} (h0:0 ≤ f) (h1:f ≤ 10000000):airE es f = 0:=by
  unfold airE
  rw [h,firstF_zero]
  intro e he
  simp only [List.mem_cons,List.not_mem_nil,or_false] at he
  rcases he with rfl | rfl
  · rfl
  · exact withinF_zero.2 ⟨h0,h1⟩
end Go.Proofs.A1
