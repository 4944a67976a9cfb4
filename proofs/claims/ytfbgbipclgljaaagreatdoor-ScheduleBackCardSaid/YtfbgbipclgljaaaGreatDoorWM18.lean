/- Parts of the proof: S45 S46p TryzShelf S47. -/
import Derived.Test.YtfbgbipclgljaaaGreatDoorWM17
import Derived.Test.YtfbgbipclgljaaaGreatDoorWM06
import Derived.Shelf.Strings.OnBuilder
import Derived.Shelf.LaysM
import Derived.Shelf.Strconv.Itoa3
import Derived.Ground.NamesProg
import Derived.Test.YtfbgbipclgljaaaGreatDoorProg
import Derived.Lib.ItoaLen
import Derived.Lib.AppendIntMem
set_option linter.unusedSectionVars false
set_option linter.unusedVariables false
set_option linter.unusedSimpArgs false
namespace Go.Proofs.A1
open Go Go.SL
theorem flat_cellsAt {sz i:Nat} {xs:List (List Value)} {r cur:List Value} (hx:∀ r ∈ xs,r.length = sz) (h:xs[i]? = some r):cellsAt (xs.flatten++cur) (i * sz) sz = r:=by
  have hi:=(List.getElem?_eq_some_iff.1 h).1
  have hl:=flat_len hx
  have hrl:=hx r (List.mem_of_getElem? h)
  have hm:(i + 1) * sz ≤ xs.length * sz:=Nat.mul_le_mul_right _ hi
  rw [Nat.succ_mul] at hm
  rw [cellsAt_eq,List.drop_append_of_le_length (by omega),List.take_append_of_le_length (by rw [List.length_drop];omega)]
  apply List.ext_getElem?
  intro j
  rw [List.getElem?_take]
  split
  · rename_i hj
    rw [List.getElem?_drop]
    exact (flatten_get xs i hx h (List.getElem?_eq_getElem (by omega))).trans (List.getElem?_eq_getElem (by omega)).symm
  · rw [List.getElem?_eq_none (by omega)]
def trisL (l:List (Int × Int × Int)):List (List Value):=l.map triV
theorem trisL_flat (l:List (Int × Int × Int)):l.flatMap triV = (trisL l).flatten:=by rw [trisL,List.flatMap_def]
theorem trisL_sz (l:List (Int × Int × Int)):∀ r ∈ trisL l,r.length = 3:=by
  intro r hr
  obtain ⟨x,_,rfl⟩:=List.mem_map.1 hr
  rfl
theorem gpL_in {es:List En} (hs:Sound es):∀ n,n ≤ es.length → ∀ g ∈ gpL es n,0 ≤ g.1 ∧ g.1 + 1 < es.length ∧ 0 ≤ g.2.1 ∧ g.2.1 < g.2.2 ∧ g.2.2 ≤ 10000000
  | 0,_,g,hg=>by cases hg
  | n + 1, hn, g, hg => by
    rw [gpL_succ] at hg
    rcases List.mem_append.1 hg with h | h
    · exact gpL_in hs n (by omega) g h
    · split at h
      · rename_i hc
        simp only [List.mem_singleton] at h
        subst h
        obtain ⟨m,rfl⟩:∃ m,n = m + 1:=⟨n - 1,by omega⟩
        have h1:=hs.fr_nn (k:=m) (by omega)
        have h2:=hs.fr_nn (k:=m + 1) (by omega)
        have h3:=hc.2
        have e:endV es (m + 1) = to es m:=rfl
        rw [e] at h3 ⊢
        dsimp only
        omega
      · cases h
def plOne (b:Br) (f:Int) (o:List Nat) (i:Nat):En:=⟨(nthS b.sp (nthN o i)).nm,(nthS b.sp (nthN o i)).nm,if i = 0 then sFix else sFol,if i = 0 then f else 0,(nthS b.sp (nthN o i)).ln,0⟩
def plEn (b:Br) (f:Int) (o:List Nat) (k:Nat):List En:=(List.range k).map (plOne b f o)
theorem plEn_succ (b:Br) (f:Int) (o:List Nat) (k:Nat):plEn b f o (k + 1) = plEn b f o k++[plOne b f o k]:=by simp [plEn,List.range_succ]
theorem plEn_length (b:Br) (f:Int) (o:List Nat) (k:Nat):(plEn b f o k).length = k:=by simp [plEn]
def plGap (es:List En) (k:Nat):Int × Int × Int:=(gpL es es.length).getD k (0,0,0)
def pl1 (es:List En) (b:Br) (gap:Int):Int:=firstF [whenF (decide (gap < 0) || decide (gap ≥ ((gpL es es.length).length:Int))) 10,brE b]
def pl2 (b:Br) (ol:List Int) (g:Int × Int × Int):Int:=firstF [orderE b ol,whenF (decide (b.n ≠ g.2.2 - g.2.1)) 2]
def plEs (es:List En) (b:Br) (ol:List Int) (g:Int × Int × Int):List En:=chg es (g.1.toNat + 1) (g.1.toNat + 1) (plEn b g.2.1 (cfO ol) (cfO ol).length)
def plE (es:List En) (gap:Int) (b:Br) (ol:List Int):Int:=
  if chkF es ≠ 0 then chkF es else if pl1 es b gap ≠ 0 then pl1 es b gap else if pl2 b ol (plGap es gap.toNat) ≠ 0 then pl2 b ol (plGap es gap.toNat) else chkF (plEs es b ol (plGap es gap.toNat))
def plL' (es:List En) (gap:Int) (b:Br) (ol:List Int):List En:=if plE es gap b ol = 0 then plEs es b ol (plGap es gap.toNat) else []
set_option maxHeartbeats 2000000 in
theorem placed_c {sv pv cv xv ov:Value} {es:List En} {b:Br} {gap:Int} {ol:List Int} {w:World} (h1:Rd w sv 6 (ensL es)) (h2:Rd w pv 4 (spsL b.sp)) (h3:Rd w cv 1 (ints b.cm)) (h4:Rd w xv 2 (prsL b.ex)) (h5:Rd w ov 1 (ints ol)) (hG:Glob w) :
    Gives Tryz.prog 52 [.agg #[sv],.int .i64 gap,.agg #[.int .i64 b.n,pv,cv,xv],ov] w [] (fun _:Value=>True) (fun v=>.tuple #[.agg #[v],.int .i64 (plE es gap b ol)]) (fun v=>[row 138 6 v (plL' es gap b ol).length (ensL (plL' es gap b ol)).flatten]):=by
  have h1':=h1
  have h2':=h2
  have h5':=h5
  have hone3:=Rd.one h3
  have hone4:=Rd.one h4
  obtain ⟨g0,g1,_⟩:=hG
  have hG:Glob w:=⟨g0,g1,by assumption⟩
  obtain ⟨a,cap,bs,os,rfl,hcap,hmax,ha,hc⟩:=h1'
  obtain ⟨a2,cap2,bs2,os2,rfl,hcap2,hmax2,ha2,hc2⟩:=h2'
  obtain ⟨a5,cap5,bs5,os5,rfl,hcap5,hmax5,ha5,hc5⟩:=h5'
  rw [ensL_length] at *
  rw [spsL_length] at *
  rw [ints_length] at *
  unfold maxLen at hmax hmax2 hmax5
  refine gives_of_tr Tryz.func52 rfl rfl ?_
  (refine s_r ?_;refine tr_new (rk_box (.of rfl) rfl) rfl (fun _ _=>?_);refine tr_new (rk_box (.of rfl) rfl) rfl (fun _ _=>?_);refine tr_new (rk_alloc rfl) rfl (fun _ _=>?_);refine a_s rfl rfl ?_;refine n_t ?_;refine tr_seq ?_;refine s_r ?_;refine tr_val (rk_loadB (.of rfl) (.there (.there .here)) norm_ (by rfl)) rfl ?_;refine tr_callV (rk_call (.of rfl) (.cons (.of rfl) .nil) inferInstance normc_) rfl (fun w' hm'=>(chk_c (Rd.keeps h1 (Mem.keeps hm')) (Glob.keeps hG (Mem.keeps hm')))) ?_;refine a_s rfl rfl ?_;refine n_r ?_;refine m_v rfl rfl ?_;refine tr_val (rk_neq (.of rfl) (.of rfl)) rfl ?_;refine n_t ?_;refine c_d rfl (fun hcd=>?_) (fun hcd=>?_);refine s_r ?_;refine tr_val (rk_buildL .nil norm_) rfl ?_;refine m_v rfl rfl ?_;refine tr_store (.of rfl) (.of rfl) .here rfl rfl (okc_cons rfl okc_nil) (lenb rfl) norm_ ?_;refine a_s rfl rfl ?_;refine n_t ?_;refine r_t ?_;rotate_left;refine s_t ?_;refine s_r ?_;refine tr_val (rk_loadB (.of rfl) (.there (.there .here)) norm_ (by rfl)) rfl ?_;rotate_right)
  · have hE:plE es gap b ol = chkF es:=by rw [plE,if_pos hcd]
    have hL:plL' es gap b ol = []:=by rw [plL',if_neg (by rw [hE];exact hcd)]
    rw [hE,hL]
    refine tr_rowNil 138 6 ?_
    first | with_reducible apply tr_retM | with_reducible apply tr_endM
    case he=>exact endsCT rfl inferInstance rfl (.there .here) norm_ (by rfl) (by rfl)
    case hR=>
      intro w' hm'
      exact gives_end (.slice none 0 0) trivial (show Takes _ [row 138 6 (.slice none 0 0) 0 []] _ by exact .cons .here .nil) hm' rfl
  rename_i b4 hb4 b6 hb6 b8 hb8
  have hz:chkF es = 0:=Decidable.not_not.1 hcd
  have hs:=Sound.of hz
  have hfew:=hs.all.few
  with_reducible apply tr_call
  case hr=>exact rk_call (.of rfl) (.cons (.of rfl) .nil) inferInstance normc_
  case hd=>rfl
  case ht=>exact Takes.nil
  case hc=>
    intro w1 fp hm1 _ hs1
    obtain rfl:fp = []:=hs1
    exact gaps_c (h1.keeps hm1.keeps) hs.all.ok hs.all.few (hG.keeps hm1.keeps)
  intro vg _
  dsimp only [id_eq,List.cons_append,List.nil_append]
  refine tr_rowSl (E:=120) (sz:=3) (by exact .here) fun ag capg e=>?_
  subst e
  (refine a_s rfl rfl ?_;refine n_t ?_;refine tr_seq ?_;refine tr_seq ?_)
  with_reducible refine tr_draw 11 (by kernel_rfl) ?_
  (refine a_m rfl rfl ?_;refine any_val (rk_lss (.of rfl) (.of rfl)) rfl ?_;refine a_m rfl rfl ?_;refine any_vG1 rfl rfl inferInstance (fun hg hgp=>(rk_move (.of rfl))) rfl ?_;refine any_vG1 rfl rfl inferInstance (fun hg hgp=>(rk_move (.of rfl))) rfl ?_;refine any_vG1 rfl rfl inferInstance (fun hg hgp=>(rk_len_slice (.ofg hg rfl))) rfl ?_;refine any_vG1 rfl rfl inferInstance (fun hg hgp=>(rk_geq (.ofg hg rfl) (.ofg hg rfl))) rfl ?_;refine any_val (rk_pick_or (.of rfl) rfl) rfl ?_;refine any_call (rk_call (.of rfl) (.cons (.of rfl) (.cons (.of rfl) .nil)) inferInstance normc_) rfl (fun w' hm'=>(when_c _ 10 w')) ?_;refine any_val (rk_loadB (.of rfl) (.there (.there .here)) norm_ (by rfl)) rfl ?_;refine any_call (rk_call (.of rfl) (.cons (.of rfl) .nil) inferInstance normc_) rfl (fun w' hm'=>(brk_c (Rd.keeps h2 (Mem.keeps hm')) (Rd.keeps h3 (Mem.keeps hm')) (Rd.keeps h4 (Mem.keeps hm')))) ?_)
  with_reducible refine any_end ?_
  (refine tr_new (rk_sliceLit (.cons (.of rfl) (.cons (.of rfl) .nil)) rfl rfl rfl rfl) rfl (fun _ _=>?_);refine tr_callV (rk_call (.of rfl) (.cons (.of rfl) .nil) inferInstance normc_) rfl (fun w' hm'=>(first_pB (Mem.rdBlk hm' .here rfl rfl) (IntL.cons (IntL.cons IntL.nil)))) ?_;refine a_s rfl rfl ?_;refine n_r ?_;refine m_v rfl rfl ?_;refine tr_val (rk_neq (.of rfl) (.of rfl)) rfl ?_;refine n_t ?_;refine c_d rfl (fun hcd=>?_) (fun hcd=>?_);refine s_r ?_;refine tr_val (rk_buildL .nil norm_) rfl ?_;refine m_v rfl rfl ?_;refine tr_store (.of rfl) (.of rfl) (.there (.there .here)) rfl rfl (okc_cons rfl okc_nil) (lenb rfl) norm_ ?_;refine a_s rfl rfl ?_;refine n_t ?_;refine r_t ?_;rotate_left;refine s_t ?_;refine s_r ?_;refine m_v rfl rfl ?_;refine m_v rfl rfl ?_;rotate_right)
  · have hne:pl1 es b gap ≠ 0:=hcd
    have hE:plE es gap b ol = pl1 es b gap:=by rw [plE,if_neg (by rw [hz];decide),if_pos hne]
    have hL:plL' es gap b ol = []:=by rw [plL',if_neg (by rw [hE];exact hne)]
    rw [hE,hL]
    refine tr_rowNil 138 6 ?_
    first | with_reducible apply tr_retM | with_reducible apply tr_endM
    case he=>exact endsCT rfl inferInstance rfl (.there .here) norm_ (by rfl) (by rfl)
    case hR=>
      intro w' hm'
      exact gives_end (.slice none 0 0) trivial (show Takes _ [row 138 6 (.slice none 0 0) 0 []] _ by exact .cons .here .nil) hm' rfl
  have hz1:pl1 es b gap = 0:=Decidable.not_not.1 hcd
  have hz1':=hz1
  unfold pl1 at hz1'
  rw [firstF_zero] at hz1'
  simp only [List.mem_cons,List.not_mem_nil,or_false,forall_eq_or_imp,forall_eq] at hz1'
  rw [whenF_zero (by decide)] at hz1'
  have hok:=BrOk.of hz1'.2
  have hgb:0 ≤ gap ∧ gap < ((gpL es es.length).length:Int):=by
    have:=hz1'.1
    simp only [Bool.or_eq_false_iff,decide_eq_false_iff_not] at this
    omega
  obtain ⟨k0,rfl⟩:∃ k:Nat,gap = k:=⟨gap.toNat,by omega⟩
  have hk:k0 < (gpL es es.length).length:=by omega
  have hgk:(gpL es es.length)[k0]? = some (plGap es k0):=by simp [plGap,hk]
  have hgin:=gpL_in hs es.length (Nat.le_refl _) _ (List.mem_of_getElem? hgk)
  generalize hgv:plGap es k0 = gv at hgk hgin
  obtain ⟨ga,gf,gt⟩:=gv
  dsimp only at hgin
  have hE1:plE es k0 b ol = if pl2 b ol (ga,gf,gt) ≠ 0 then pl2 b ol (ga,gf,gt) else chkF (plEs es b ol (ga,gf,gt)):=by
    rw [plE,if_neg (by rw [hz];decide),if_neg (by rw [hz1];decide),Int.toNat_natCast,hgv]
  have hL1:plL' es k0 b ol = if plE es k0 b ol = 0 then plEs es b ol (ga,gf,gt) else []:=by rw [plL',Int.toNat_natCast,hgv]
  refine tr_rowOpen (E:=120) (sz:=3) (by exact Take.there .here) (by omega) fun gg capg' cur e hcapg hmxg hszg hlg=>?_
  cases e
  have hcg:cellsAt (gpR es es.length++cur) (k0 * 3) 3 = [.int .i64 ga,.int .i64 gf,.int .i64 gt]:=by
    have:gpR es es.length = (trisL (gpL es es.length)).flatten:=trisL_flat _
    rw [this]
    exact flat_cellsAt (trisL_sz _) (by simp [trisL,hgk,triV])
  (refine tr_val (rk_indexAddr (.of rfl) (.of rfl) rfl (by omega) (by omega) norm1_) rfl ?_;refine tr_val (rk_loadB (.of rfl) .here hcg rfl) rfl ?_;refine tr_new (rk_alloc rfl) rfl (fun _ _=>?_);refine tr_store (.of rfl) (.of rfl) .here rfl rfl (okc_cons rfl (okc_cons rfl (okc_cons rfl okc_nil))) (lenb rfl) norm_ ?_;refine n_t ?_;refine tr_seq ?_;refine tr_seq ?_)
  rename_i b13 hb13
  with_reducible refine tr_draw 14 (by kernel_rfl) ?_
  (refine any_val (rk_loadB (.of rfl) (.there (.there (.there (.there .here)))) norm_ (by rfl)) rfl ?_;refine a_m rfl rfl ?_;refine any_call (rk_call (.of rfl) (.cons (.of rfl) (.cons (.of rfl) .nil)) inferInstance normc_) rfl (fun w' hm'=>(order_c (Rd.keeps h2 (Mem.keeps hm')) (Rd.keeps h3 (Mem.keeps hm')) (Rd.keeps h4 (Mem.keeps hm')) (Rd.keeps h5 (Mem.keeps hm')) hok)) ?_;refine a_f rfl rfl norm0_ ?_;refine any_val (rk_load1 (.of rfl) (At.lit (.there (.there (.there (.there .here)))) rfl)) rfl ?_;refine a_f rfl rfl norm0_ ?_;refine a_f rfl rfl norm0_ ?_;refine any_val (rk_load1 (.of rfl) (At.lit .here rfl)) rfl ?_;refine a_f rfl rfl norm0_ ?_;refine a_f rfl rfl norm0_ ?_;refine any_val (rk_load1 (.of rfl) (At.lit .here rfl)) rfl ?_;refine any_val (rk_sub (.of rfl) (.of rfl) (ini (by omega))) rfl ?_;refine any_val (rk_neq (.of rfl) (.of rfl)) rfl ?_;refine any_call (rk_call (.of rfl) (.cons (.of rfl) (.cons (.of rfl) .nil)) inferInstance normc_) rfl (fun w' hm'=>(when_c _ 2 w')) ?_)
  with_reducible refine any_end ?_
  (refine tr_new (rk_sliceLit (.cons (.of rfl) (.cons (.of rfl) .nil)) rfl rfl rfl rfl) rfl (fun _ _=>?_);refine tr_callV (rk_call (.of rfl) (.cons (.of rfl) .nil) inferInstance normc_) rfl (fun w' hm'=>(first_pB (Mem.rdBlk hm' .here rfl rfl) (IntL.cons (IntL.cons IntL.nil)))) ?_;refine a_s rfl rfl ?_;refine n_r ?_;refine m_v rfl rfl ?_;refine tr_val (rk_neq (.of rfl) (.of rfl)) rfl ?_;refine n_t ?_;refine c_d rfl (fun hcd=>?_) (fun hcd=>?_);refine s_r ?_;refine tr_val (rk_buildL .nil norm_) rfl ?_;refine m_v rfl rfl ?_;refine tr_store (.of rfl) (.of rfl) (.there (.there (.there (.there .here)))) rfl rfl (okc_cons rfl okc_nil) (lenb rfl) norm_ ?_;refine a_s rfl rfl ?_;refine n_t ?_;refine r_t ?_;rotate_left;refine s_t ?_;refine s_r ?_;refine a_s rfl rfl ?_;refine n_t ?_;refine tr_seq ?_;refine s_r ?_;refine m_v rfl rfl ?_;refine tr_val (rk_len_slice (.of rfl)) rfl ?_;refine m_v rfl rfl ?_;refine n_t ?_;refine tr_block ?_;rotate_right)
  · have hne:pl2 b ol (ga,gf,gt) ≠ 0:=hcd
    rw [if_pos hne] at hE1
    rw [hE1,if_neg hne] at hL1
    rw [hE1,hL1]
    refine tr_rowNil 138 6 ?_
    first | with_reducible apply tr_retM | with_reducible apply tr_endM
    case he=>exact endsCT rfl inferInstance rfl (.there .here) norm_ (by rfl) (by rfl)
    case hR=>
      intro w' hm'
      exact gives_end (.slice none 0 0) trivial (show Takes _ [row 138 6 (.slice none 0 0) 0 []] _ by exact .cons .here .nil) hm' rfl
  have hz2:pl2 b ol (ga,gf,gt) = 0:=Decidable.not_not.1 hcd
  rw [if_neg (by rw [hz2];decide)] at hE1
  have hz2':=hz2
  unfold pl2 at hz2'
  rw [firstF_zero] at hz2'
  simp only [List.mem_cons,List.not_mem_nil,or_false,forall_eq_or_imp,forall_eq] at hz2'
  obtain ⟨hl8,hin,_⟩:=orderE_ok hz2'.1
  have hnn:∀ i ∈ ol,0 ≤ i ∧ i < b.sp.length:=by
    intro i hi
    obtain ⟨j,hj,rfl⟩:=List.getElem_of_mem hi
    have:=hin j hj
    omega
  have hlo:(cfO ol).length = ol.length:=by rw [cfO,List.length_map]
  have hlt:∀ i ∈ cfO ol,i < b.sp.length:=fun i hi=>by
    obtain ⟨j,hj,rfl⟩:=List.mem_map.1 hi
    have:=hnn j hj
    omega
  have hrd:Rd w (.slice a5 ol.length cap5) 1 (natsL (cfO ol)):=by
    rw [cfO,natsL_ints,toNat_back fun i hi=>(hnn i hi).1];exact h5
  obtain ⟨a5',cap5',bs6,os6,e5,_,_,ha6,hc6⟩:=hrd
  have ha5e:a5' = a5:=by simp only [Value.slice.injEq] at e5;exact e5.1.symm
  subst ha5e
  obtain ⟨n,rfl⟩:∃ n:Nat,ga = n:=⟨ga.toNat,by omega⟩
  have hPs:plEs es b ol ((n:Int),gf,gt) = chg es (n + 1) (n + 1) (plEn b gf (cfO ol) ol.length):=by rw [plEs,hlo];simp only [Int.toNat_natCast]
  rw [hPs] at hE1 hL1
  refine tr_rowNil 138 6 ?_
  refine tr_for (ι:=Nat × Value) (fun x=>x.1 ≤ ol.length) (fun x=>[(72,.int .i64 x.1),(71,.int .i64 ol.length),(3,.slice a5' ol.length cap5),(15,x.2),(6,.pointer (some ⟨b6,0,none⟩)),(13,.pointer (some ⟨b13,0,none⟩)),(4,.pointer (some ⟨b4,0,none⟩)),(8,.pointer (some ⟨b8,0,none⟩))])
    (fun x=>[row 138 6 x.2 x.1 (ensL (plEn b gf (cfO ol) x.1)).flatten,blk b13 (.cells #[.int .i64 (n:Int),.int .i64 gf,.int .i64 gt] 120 (0,0)),blk b6 (.cells #[.int .i64 b.n,.slice a2 b.sp.length cap2,cv,xv] 91 (0,0)),blk b4 (.cells #[.slice a es.length cap] 33 (0,0)),blk b8 (.cells #[.slice none 0 0] 33 (0,0))]) (fun x=>ol.length - x.1) ?_ ?_
  · apply tr_start (0,.slice none 0 0) (Nat.zero_le _)
    case hs1=>exact .cons rfl (.cons rfl (.cons rfl (.cons rfl (.cons rfl (.cons rfl (.cons rfl (.cons rfl .nil)))))))
    case ht=>
      show Takes _ [row 138 6 (.slice none 0 0) 0 [],_,_,_,_] _
      exact .cons .here (.cons (.there .here) (.cons (.there (.there (.there (.there .here)))) (.cons (.there (.there (.there (.there .here)))) (.cons (.there (.there (.there .here))) .nil))))
  rintro ⟨k,v⟩ hk
  dsimp only at hk ⊢
  by_cases hlt2:k < ol.length
  · have hko:k < (cfO ol).length:=by omega
    have ha6':=ha6 (natsL_ne hko)
    have c5:w.cell? ⟨bs6,os6 + k * 1,none⟩ = some (.int .i64 (nthN (cfO ol) k)):=(hc6 k _ (natsL_get hko)).2 0 _ rfl
    have hi:=hlt _ (nthN_mem hko)
    have ha2':=ha2 (spsL_ne hi)
    have hcell:=(hc2 (nthN (cfO ol) k) _ (spsL_get hi)).2
    have hsu:(ensL (plEn b gf (cfO ol) (k + 1))).flatten = (ensL (plEn b gf (cfO ol) k)).flatten++(plOne b gf (cfO ol) k).cells:=by
      rw [plEn_succ,ensL_app,List.flatten_append];simp [ensL]
    unfold Sp.cells at hcell
    unfold plOne at hsu
    by_cases hk0:k = 0
    · rw [if_pos hk0,if_pos hk0] at hsu
      (refine s_r ?_;refine tr_val (rk_lss (.of rfl) (.of rfl)) rfl ?_;refine n_t ?_;refine tr_seq ?_;refine c_d rfl (fun hcd=>?_) (fun _=>by omega);refine s_t ?_;refine tr_seq ?_;refine tr_block ?_;refine s_r ?_;refine m_v rfl rfl ?_;refine a_s rfl rfl ?_;refine n_t ?_;refine tr_seq ?_)
      with_reducible refine tr_drawO 9 (by kernel_rfl) ?_
      (refine ao_val (rk_fieldAddr (.of rfl) norm0_) rfl ?_;refine ao_val (rk_load1 (.of rfl) (At.lit (.there (.there .here)) rfl)) rfl ?_;refine ao_val (rk_move (.of rfl)) rfl ?_;refine ao_val (rk_move (.of rfl)) rfl ?_;refine ao_val (rk_indexAddr (.of rfl) (.of rfl) ha6' (by omega) hcd norm1_) rfl ?_;refine ao_val (rk_load1 (.of rfl) (At.base c5 rfl)) rfl ?_;refine ao_val (rk_indexAddr (.of rfl) (.of rfl) ha2' (by omega) (by omega) norm1_) rfl ?_;refine ao_val (rk_loadN (.of rfl) (Ats.base hcell rfl) rfl) rfl ?_;refine ao_new (rk_alloc rfl) rfl rfl ?_)
      with_reducible refine ao_end1 rfl fun bq hbq=>?_
      (refine tr_store (.of rfl) (.of rfl) .here rfl rfl (okc_cons rfl (okc_cons rfl (okc_cons rfl (okc_cons rfl okc_nil)))) (lenb rfl) norm_ ?_;refine n_r ?_;refine tr_val (rk_indexAddrA (.of rfl) (.of rfl) (by omega) (by omega) norm1_) rfl ?_;refine tr_val (rk_load1 (.of rfl) (At.base g1 rfl)) rfl ?_;refine tr_val (rk_buildL (.cons (.of rfl) (.cons (.of rfl) .nil)) norm_) rfl ?_;refine tr_new (rk_alloc rfl) rfl (fun _ _=>?_);refine tr_store (.of rfl) (.of rfl) .here rfl rfl (okc_cons rfl (okc_cons rfl okc_nil)) (lenb rfl) norm_ ?_;refine n_t ?_;refine tr_seq ?_;refine s_r ?_;refine m_v rfl rfl ?_;refine tr_val (rk_eql (.of rfl) (.of rfl)) rfl ?_;refine n_t ?_;refine c_d rfl (fun hcd=>?_) (fun _=>by omega);refine tr_region ?_;refine tr_val (rk_indexAddrA (.of rfl) (.of rfl) (by omega) (by omega) norm1_) rfl ?_;refine tr_val (rk_load1 (.of rfl) (At.base g0 rfl)) rfl ?_;refine f_a rfl rfl norm0_ ?_;refine f_a rfl rfl norm0_ ?_;refine tr_val (rk_load1 (.of rfl) (At.lit (.there (.there (.there .here))) rfl)) rfl ?_;refine tr_val (rk_buildL (.cons (.of rfl) (.cons (.of rfl) .nil)) norm_) rfl ?_;refine tr_store (.of rfl) (.of rfl) .here rfl rfl (okc_cons rfl (okc_cons rfl okc_nil)) (lenb rfl) norm_ ?_;refine n_t ?_;refine tr_region ?_;refine m_v rfl rfl ?_;refine f_a rfl rfl norm0_ ?_;refine tr_val (rk_load1 (.of rfl) (At.lit (.there .here) rfl)) rfl ?_;refine f_a rfl rfl norm0_ ?_;refine tr_val (rk_load1 (.of rfl) (At.lit (.there .here) rfl)) rfl ?_;refine tr_val (rk_loadB (.of rfl) .here norm_ (by rfl)) rfl ?_;refine f_a rfl rfl norm0_ ?_;refine tr_val (rk_load1 (.of rfl) (At.lit (.there .here) rfl)) rfl ?_;refine tr_val (rk_buildL (.cons (.of rfl) (.cons (.of rfl) (.cons (.of rfl) (.cons (.of rfl) .nil)))) norm_) rfl ?_;refine tr_new (rk_sliceLitN (.cons (.of rfl) .nil) rfl rfl normp_ normp_ norm_) rfl (fun _ _=>?_))
      refine tr_appendB (.of rfl) (.of rfl) (.there (.there (.there .here))) .here norm_ (by rfl) (okc_cons rfl (okc_cons rfl (okc_cons rfl (okc_cons rfl (okc_cons rfl (okc_cons rfl okc_nil)))))) (by rfl) (by rfl) (by rfl) lenx_ (by rfl) ?_
      intro v'
      (refine a_s rfl rfl ?_;refine tr_nil ?_;refine tr_blk_normal ?_;refine tr_then ?_;refine tr_region ?_;refine tr_val (rk_add (.of rfl) (.of rfl) (ini (by omega))) rfl ?_;refine m_v rfl rfl ?_;refine n_t ?_)
      apply tr_next (k + 1,v') (show k + 1 ≤ ol.length by omega) (show ol.length - (k + 1) < ol.length - k by omega)
      case hs1=>exact .cons rfl (.cons rfl (.cons rfl (.cons rfl (.cons rfl (.cons rfl (.cons rfl (.cons rfl .nil)))))))
      case ht=>
        show Takes _ [row 138 6 v' (k + 1) (ensL (plEn b gf (cfO ol) (k + 1))).flatten,_,_,_,_] _
        rw [hsu]
        unfold En.cells
        exact .cons .here (.cons (.there (.there (.there .here))) (.cons (.there (.there (.there .here))) (.cons (.there (.there (.there .here))) (.cons (.there (.there (.there .here))) .nil))))
    · rw [if_neg hk0,if_neg hk0] at hsu
      (refine s_r ?_;refine tr_val (rk_lss (.of rfl) (.of rfl)) rfl ?_;refine n_t ?_;refine tr_seq ?_;refine c_d rfl (fun hcd=>?_) (fun _=>by omega);refine s_t ?_;refine tr_seq ?_;refine tr_block ?_;refine s_r ?_;refine m_v rfl rfl ?_;refine a_s rfl rfl ?_;refine n_t ?_;refine tr_seq ?_)
      with_reducible refine tr_drawO 9 (by kernel_rfl) ?_
      (refine ao_val (rk_fieldAddr (.of rfl) norm0_) rfl ?_;refine ao_val (rk_load1 (.of rfl) (At.lit (.there (.there .here)) rfl)) rfl ?_;refine ao_val (rk_move (.of rfl)) rfl ?_;refine ao_val (rk_move (.of rfl)) rfl ?_;refine ao_val (rk_indexAddr (.of rfl) (.of rfl) ha6' (by omega) hcd norm1_) rfl ?_;refine ao_val (rk_load1 (.of rfl) (At.base c5 rfl)) rfl ?_;refine ao_val (rk_indexAddr (.of rfl) (.of rfl) ha2' (by omega) (by omega) norm1_) rfl ?_;refine ao_val (rk_loadN (.of rfl) (Ats.base hcell rfl) rfl) rfl ?_;refine ao_new (rk_alloc rfl) rfl rfl ?_)
      with_reducible refine ao_end1 rfl fun bq hbq=>?_
      (refine tr_store (.of rfl) (.of rfl) .here rfl rfl (okc_cons rfl (okc_cons rfl (okc_cons rfl (okc_cons rfl okc_nil)))) (lenb rfl) norm_ ?_;refine n_r ?_;refine tr_val (rk_indexAddrA (.of rfl) (.of rfl) (by omega) (by omega) norm1_) rfl ?_;refine tr_val (rk_load1 (.of rfl) (At.base g1 rfl)) rfl ?_;refine tr_val (rk_buildL (.cons (.of rfl) (.cons (.of rfl) .nil)) norm_) rfl ?_;refine tr_new (rk_alloc rfl) rfl (fun _ _=>?_);refine tr_store (.of rfl) (.of rfl) .here rfl rfl (okc_cons rfl (okc_cons rfl okc_nil)) (lenb rfl) norm_ ?_;refine n_t ?_;refine tr_seq ?_;refine s_r ?_;refine m_v rfl rfl ?_;refine tr_val (rk_eql (.of rfl) (.of rfl)) rfl ?_;refine n_t ?_;refine c_d rfl (fun _=>by omega) (fun hcd=>?_);refine s_t ?_;refine tr_region ?_;refine m_v rfl rfl ?_;refine f_a rfl rfl norm0_ ?_;refine tr_val (rk_load1 (.of rfl) (At.lit (.there .here) rfl)) rfl ?_;refine f_a rfl rfl norm0_ ?_;refine tr_val (rk_load1 (.of rfl) (At.lit (.there .here) rfl)) rfl ?_;refine tr_val (rk_loadB (.of rfl) .here norm_ (by rfl)) rfl ?_;refine f_a rfl rfl norm0_ ?_;refine tr_val (rk_load1 (.of rfl) (At.lit (.there .here) rfl)) rfl ?_;refine tr_val (rk_buildL (.cons (.of rfl) (.cons (.of rfl) (.cons (.of rfl) (.cons (.of rfl) .nil)))) norm_) rfl ?_;refine tr_new (rk_sliceLitN (.cons (.of rfl) .nil) rfl rfl normp_ normp_ norm_) rfl (fun _ _=>?_))
      refine tr_appendB (.of rfl) (.of rfl) (.there (.there (.there .here))) .here norm_ (by rfl) (okc_cons rfl (okc_cons rfl (okc_cons rfl (okc_cons rfl (okc_cons rfl (okc_cons rfl okc_nil)))))) (by rfl) (by rfl) (by rfl) lenx_ (by rfl) ?_
      intro v'
      (refine a_s rfl rfl ?_;refine tr_nil ?_;refine tr_blk_normal ?_;refine tr_then ?_;refine tr_region ?_;refine tr_val (rk_add (.of rfl) (.of rfl) (ini (by omega))) rfl ?_;refine m_v rfl rfl ?_;refine n_t ?_)
      apply tr_next (k + 1,v') (show k + 1 ≤ ol.length by omega) (show ol.length - (k + 1) < ol.length - k by omega)
      case hs1=>exact .cons rfl (.cons rfl (.cons rfl (.cons rfl (.cons rfl (.cons rfl (.cons rfl (.cons rfl .nil)))))))
      case ht=>
        show Takes _ [row 138 6 v' (k + 1) (ensL (plEn b gf (cfO ol) (k + 1))).flatten,_,_,_,_] _
        rw [hsu]
        unfold En.cells
        exact .cons .here (.cons (.there (.there (.there .here))) (.cons (.there (.there (.there .here))) (.cons (.there (.there (.there .here))) (.cons (.there (.there (.there .here))) .nil))))
  · obtain rfl:k = ol.length:=by omega
    (refine s_r ?_;refine tr_val (rk_lss (.of rfl) (.of rfl)) rfl ?_;refine n_t ?_;refine tr_seq ?_;refine c_d rfl (fun _=>by omega) (fun hcd=>?_);refine x_t ?_;refine tr_then_exit ?_;refine tr_blk_exit ?_;refine tr_then ?_;refine s_r ?_;refine tr_val (rk_loadB (.of rfl) (.there (.there (.there .here))) norm_ (by rfl)) rfl ?_;refine f_a rfl rfl norm0_ ?_;refine tr_val (rk_load1 (.of rfl) (At.lit (.there .here) rfl)) rfl ?_;refine tr_val (rk_add (.of rfl) (.of rfl) (ini (by omega))) rfl ?_;refine f_a rfl rfl norm0_ ?_;refine tr_val (rk_load1 (.of rfl) (At.lit (.there .here) rfl)) rfl ?_;refine tr_val (rk_add (.of rfl) (.of rfl) (ini (by omega))) rfl ?_;refine m_v rfl rfl ?_)
    rw [show (n:Int) + 1 = ((n + 1:Nat):Int) by omega]
    with_reducible apply tr_call
    case hr=>exact rk_call (.of rfl) (.cons (.of rfl) (.cons (.of rfl) (.cons (.of rfl) (.cons (.of rfl) .nil)))) inferInstance normc_
    case hd=>rfl
    case ht=>exact Takes.nil
    case hc=>
      intro w1 fp hm1 _ hs1
      obtain rfl:fp = []:=hs1
      exact changed_c (l:=plEn b gf (cfO ol) ol.length) (h1.keeps hm1.keeps) (rdEnF hm1 (by exact .here) (plEn_length _ _ _ _)) (by omega) (by omega) (by rw [plEn_length];omega)
    intro vc _
    dsimp only [id_eq,List.cons_append,List.nil_append]
    refine tr_rowSl (E:=138) (sz:=6) (by exact .here) fun a' cap' e=>?_
    subst e
    (refine tr_new (rk_alloc rfl) rfl (fun _ _=>?_);refine tr_store (.of rfl) (.of rfl) .here rfl rfl (okc_cons rfl okc_nil) (lenb rfl) norm_ ?_;refine n_t ?_;refine tr_seq ?_;refine s_r ?_;refine tr_val (rk_loadB (.of rfl) .here norm_ (by rfl)) rfl ?_)
    with_reducible apply tr_callV
    case hr=>exact rk_call (.of rfl) (.cons (.of rfl) .nil) inferInstance normc_
    case hd=>rfl
    case hc=>
      intro w' hm'
      exact chk_c (rdEnF hm' (by exact Take.there .here) rfl) (hG.keeps hm'.keeps)
    rw [← hE1]
    (refine a_s rfl rfl ?_;refine n_r ?_;refine m_v rfl rfl ?_;refine tr_val (rk_neq (.of rfl) (.of rfl)) rfl ?_;refine n_t ?_;refine c_d rfl (fun hcd=>?_) (fun hcd=>?_);refine s_r ?_;refine tr_val (rk_buildL .nil norm_) rfl ?_;refine m_v rfl rfl ?_;refine tr_store (.of rfl) (.of rfl) (.there (.there (.there (.there (.there (.there .here)))))) rfl rfl (okc_cons rfl okc_nil) (lenb rfl) norm_ ?_;refine a_s rfl rfl ?_;refine n_t ?_;refine r_t ?_;rotate_left;refine s_t ?_;refine s_r ?_;refine tr_val (rk_loadB (.of rfl) .here norm_ (by rfl)) rfl ?_;refine tr_store (.of rfl) (.of rfl) (.there (.there (.there (.there (.there (.there .here)))))) rfl rfl (okc_cons rfl okc_nil) (lenb rfl) norm_ ?_;refine a_s rfl rfl ?_;refine n_t ?_;refine tr_ret ?_;rotate_right)
    · rw [if_neg hcd] at hL1
      rw [hL1]
      refine tr_rowNil 138 6 ?_
      first | with_reducible apply tr_retM | with_reducible apply tr_endM
      case he=>exact endsCT rfl inferInstance rfl (.there .here) norm_ (by rfl) (by rfl)
      case hR=>
        intro w' hm'
        exact gives_end (.slice none 0 0) trivial (show Takes _ [row 138 6 (.slice none 0 0) 0 []] _ by exact .cons .here .nil) hm' rfl
    · have h0:plE es k0 b ol = 0:=Decidable.not_not.1 hcd
      rw [if_pos h0] at hL1
      rw [h0,hL1]
      first | with_reducible apply tr_retM | with_reducible apply tr_endM
      case he=>exact endsCT rfl inferInstance rfl .here norm_ (by rfl) (by rfl)
      case hR=>
        intro w' hm'
        exact gives_end (.slice a' (chg es (n + 1) (n + 1) (plEn b gf (cfO ol) ol.length)).length cap') trivial (by exact .cons (.there (.there .here)) .nil) hm' rfl
end Go.Proofs.A1
namespace Go.Proofs.A1
open Go Go.SL
def ofB:Br:=⟨55,ofL,[2,2],[]⟩
def aw6:List Se:=[⟨1,false,10,20⟩,⟨1,true,-30,20⟩]
def aw7:List Ri:=[⟨⟨#[110,49]⟩,0,150⟩,⟨⟨#[102,49]⟩,150,400⟩,⟨⟨#[108,49]⟩,400,420⟩]
def ad (n:Int):En:=⟨⟨#[97,100]⟩,⟨#[97,49]⟩,sFol,0,n,0⟩
theorem ev_chk:chkF shL = 0:=by kernel_rfl
theorem ev_tm:tmL shL = [(100,150),(145,345),(400,420),(420,450)]:=by kernel_rfl
theorem ev_gps:gpsL shL = [(1,345,400)]:=by kernel_rfl
theorem ev_air1:airE shL 145 = 0 ∧ airL shL 145 = [(0,5,6),(1,1,6)]:=⟨by kernel_rfl,by kernel_rfl⟩
theorem ev_air2:airE shL 150 = 0 ∧ airL shL 150 = [(1,1,1)]:=⟨by kernel_rfl,by kernel_rfl⟩
theorem ev_air3:airE shL 360 = 0 ∧ airL shL 360 = []:=⟨by kernel_rfl,by kernel_rfl⟩
theorem ev_ex:exE shL aw6 = 0 ∧ exL shL aw6 = [(155,175),(315,335)]:=⟨by kernel_rfl,by kernel_rfl⟩
theorem ev_vi:viE shL aw7 = 0 ∧ viL shL aw7 = [1,3]:=⟨by kernel_rfl,by kernel_rfl⟩
theorem ev_rm1:rmE shL 380 1 = 23 ∧ rmL shL 380 1 = []:=⟨by kernel_rfl,by kernel_rfl⟩
theorem ev_rm2:rmE shL 380 2 = 0 ∧ rmL shL 380 2 = [sh0,sh1,sh3]:=⟨by kernel_rfl,by kernel_rfl⟩
theorem ev_tm2:chkF [sh0,sh1,sh3] = 0 ∧ tmL [sh0,sh1,sh3] = [(100,150),(145,345),(410,440)]:=⟨by kernel_rfl,by kernel_rfl⟩
theorem ev_in1:inE shL 300 2 (ad 60) = 15 ∧ inL shL 300 2 (ad 60) = []:=⟨by kernel_rfl,by kernel_rfl⟩
theorem ev_in2:inE shL 300 2 (ad 55) = 0:=by kernel_rfl
theorem ev_in3:inE shL 346 2 (ad 55) = 23 ∧ inL shL 346 2 (ad 55) = []:=⟨by kernel_rfl,by kernel_rfl⟩
theorem ev_br:brE ofB = 0:=by kernel_rfl
theorem ev_fi:fiL ofB = [1,2] ∧ fiV ofB = (76,55):=⟨by kernel_rfl,by kernel_rfl⟩
theorem ev_cf1:cfE ofB [0,3,1] = 0 ∧ cfV ofB [0,3,1] = (75,55):=⟨by kernel_rfl,by kernel_rfl⟩
theorem ev_cf2:cfE ofB [0,1] = 21 ∧ cfV ofB [0,1] = (0,0):=⟨by kernel_rfl,by kernel_rfl⟩
theorem ev_bd1:bdE ofB (6,5) = 0 ∧ bndF ofB (6,5) = 82:=⟨by kernel_rfl,by kernel_rfl⟩
theorem ev_bd2:bdE ofB (3,2) = 0 ∧ bndF ofB (3,2) = 85:=⟨by kernel_rfl,by kernel_rfl⟩
theorem ev_pr:priceF ofB = (6,5):=by kernel_rfl
def awP:List En:=[sh0,sh1,⟨⟨#[98]⟩,⟨#[98]⟩,sFix,345,25,0⟩,⟨⟨#[99]⟩,⟨#[99]⟩,sFol,0,30,0⟩,sh2,sh3]
theorem ev_pl:plE shL 0 ofB [1,2] = 0 ∧ plL' shL 0 ofB [1,2] = awP:=⟨by kernel_rfl,by kernel_rfl⟩
theorem ev_one:chkF [sh0] = 0:=by kernel_rfl
end Go.Proofs.A1
namespace Go.Proofs
open Go.Shelf
def Tryz.lays156_ren:Go.Shelf.Ren:=⟨fun | 156=>155 | 165=>191 | 166=>192 | 169=>193 | 240=>213 | 241=>214 | 276=>228 | 277=>229 | n=>n,fun | 31=>167 | 9=>9 | 3=>3 | 4=>4 | 0=>0 | 20=>20 | 72=>288 | 76=>292 | 70=>285 | 37=>286 | 75=>291 | 127=>311 | 164=>320 | 5=>5 | 80=>251 | n=>n,fun | n=>n⟩
theorem Tryz.lays156:Go.Proofs.Lays.n156 Tryz.prog Tryz.lays156_ren:={
  mixed:=by kernel_rfl
  f156:=Tryz.func155.trans (congrArg some (by kernel_rfl))
  f165:=Tryz.func191.trans (congrArg some (by kernel_rfl))
  f166:=Tryz.func192.trans (congrArg some (by kernel_rfl))
  f169:=Tryz.func193.trans (congrArg some (by kernel_rfl))
  f240:=Tryz.func213.trans (congrArg some (by kernel_rfl))
  f241:=Tryz.func214.trans (congrArg some (by kernel_rfl))
  f276:=Tryz.func228.trans (congrArg some (by kernel_rfl))
  f277:=Tryz.func229.trans (congrArg some (by kernel_rfl))
  t0:=Tryz.underlying0
  a0:=Tryz.isAgg0
  z0:=Tryz.sizeOf0
  v0:=Tryz.zeroValue0
  t3:=Tryz.underlying3
  a3:=Tryz.isAgg3
  z3:=Tryz.sizeOf3
  v3:=Tryz.zeroValue3
  t4:=Tryz.underlying4
  a4:=Tryz.isAgg4
  z4:=Tryz.sizeOf4
  v4:=Tryz.zeroValue4
  t9:=Tryz.underlying9
  a9:=Tryz.isAgg9
  z9:=Tryz.sizeOf9
  v9:=Tryz.zeroValue9
  t20:=Tryz.underlying20
  a20:=Tryz.isAgg20
  z20:=Tryz.sizeOf20
  v20:=Tryz.zeroValue20
  t31:=Tryz.underlying167
  a31:=Tryz.isAgg167
  z31:=Tryz.sizeOf167
  v31:=Tryz.zeroValue167
  t37:=Tryz.underlying286
  a37:=Tryz.isAgg286
  z37:=Tryz.sizeOf286
  v37:=Tryz.zeroValue286
  t70:=Tryz.underlying285
  a70:=Tryz.isAgg285
  z70:=Tryz.sizeOf285
  v70:=Tryz.zeroValue285
  t72:=Tryz.underlying288
  a72:=Tryz.isAgg288
  z72:=Tryz.sizeOf288
  v72:=Tryz.zeroValue288
  t75:=Tryz.underlying291
  a75:=Tryz.isAgg291
  z75:=Tryz.sizeOf291
  v75:=Tryz.zeroValue291
  t76:=Tryz.underlying292
  a76:=Tryz.isAgg292
  z76:=Tryz.sizeOf292
  v76:=Tryz.zeroValue292
  t127:=Tryz.underlying311
  a127:=Tryz.isAgg311
  z127:=Tryz.sizeOf311
  v127:=Tryz.zeroValue311
  t164:=Tryz.underlying320
  a164:=Tryz.isAgg320
  z164:=Tryz.sizeOf320
  v164:=Tryz.zeroValue320 }
theorem Tryz.Builder_Extra_156:Builder.Extra Tryz.prog Tryz.lays156_ren:={
  sizeBuilder:=by kernel_rfl
  liesBuilder:=by kernel_rfl
  t5:=Tryz.underlying5
  a5:=Tryz.isAgg5
  z5:=Tryz.sizeOf5
  v5:=Tryz.zeroValue5
  infoByte:=by kernel_rfl
  cellsByte:=by kernel_rfl
  sizeByte:=by kernel_rfl
  neB5:=by decide }
open Go.RowKit in
theorem Tryz.strings_Join_none (a:Option Addr) (c:Nat) (sep:ByteArray) (w:World) :
    Calls Tryz.prog 155 #[.slice a 0 c,.string sep] w fun e w'=>e = .returned (.string ⟨#[]⟩) ∧ w' = w:=Any.strings_Join_none Tryz.lays156 Tryz.Builder_Extra_156 a c sep w
open Go.RowKit in
theorem Tryz.strings_Join (bk o c:Nat) (xs:List ByteArray) (sep:ByteArray) (w:World) (hcells:∀ (j:Nat) x,xs[j]? = some x → w.cell? ⟨bk,o + j,none⟩ = some (.string x)) (hbk:bk < w.heap.size) (hN:xs.length ≤ 140737488355328) (hcap:xs.length ≤ c) (hlen:(Lib.join (xs.map (·.data.toList)) sep.data.toList).length ≤ 140737488355328) :
    Calls Tryz.prog 155 #[.slice (some ⟨bk,o,none⟩) xs.length c,.string sep] w fun e w'=>e = .returned (.string ⟨(Lib.join (xs.map (·.data.toList)) sep.data.toList).toArray⟩) ∧ Below w.heap.size w w':=Any.strings_Join Tryz.lays156 Tryz.Builder_Extra_156 bk o c xs sep w hcells hbk hN hcap hlen
def Tryz.laysM171_ren:Go.Shelf.Ren:=⟨fun | 171=>195 | 243=>215 | 246=>230 | 283=>247 | 284=>248 | 285=>249 | 286=>250 | 129=>245 | 317=>260 | 318=>261 | 319=>262 | 320=>263 | 337=>269 | 338=>270 | n=>n,fun | 3=>3 | 9=>9 | 2=>2 | 4=>4 | 171=>338 | 0=>0 | 53=>336 | 37=>286 | 5=>5 | 173=>340 | 212=>351 | 51=>334 | 20=>20 | 213=>352 | 46=>317 | 232=>362 | 233=>363 | n=>n,fun | 17=>2 | 18=>5 | 19=>6 | n=>n⟩
theorem Tryz.laysM171:Go.Proofs.LaysM.n171 Tryz.prog Tryz.laysM171_ren:={
  mixed:=by kernel_rfl
  f129:=Tryz.func245.trans (congrArg some (by kernel_rfl))
  f171:=Tryz.func195.trans (congrArg some (by kernel_rfl))
  f243:=Tryz.func215.trans (congrArg some (by kernel_rfl))
  f246:=Tryz.func230.trans (congrArg some (by kernel_rfl))
  f283:=Tryz.func247.trans (congrArg some (by kernel_rfl))
  f284:=Tryz.func248.trans (congrArg some (by kernel_rfl))
  f285:=Tryz.func249.trans (congrArg some (by kernel_rfl))
  f286:=Tryz.func250.trans (congrArg some (by kernel_rfl))
  f317:=Tryz.func260.trans (congrArg some (by kernel_rfl))
  f318:=Tryz.func261.trans (congrArg some (by kernel_rfl))
  f319:=Tryz.func262.trans (congrArg some (by kernel_rfl))
  f320:=Tryz.func263.trans (congrArg some (by kernel_rfl))
  f337:=Tryz.func269.trans (congrArg some (by kernel_rfl))
  f338:=Tryz.func270.trans (congrArg some (by kernel_rfl))
  t0:=Tryz.underlying0
  a0:=Tryz.isAgg0
  z0:=Tryz.sizeOf0
  v0:=Tryz.zeroValue0
  t2:=Tryz.underlying2
  a2:=Tryz.isAgg2
  z2:=Tryz.sizeOf2
  v2:=Tryz.zeroValue2
  t3:=Tryz.underlying3
  a3:=Tryz.isAgg3
  z3:=Tryz.sizeOf3
  v3:=Tryz.zeroValue3
  t4:=Tryz.underlying4
  a4:=Tryz.isAgg4
  z4:=Tryz.sizeOf4
  v4:=Tryz.zeroValue4
  t5:=Tryz.underlying5
  a5:=Tryz.isAgg5
  z5:=Tryz.sizeOf5
  v5:=Tryz.zeroValue5
  t9:=Tryz.underlying9
  a9:=Tryz.isAgg9
  z9:=Tryz.sizeOf9
  v9:=Tryz.zeroValue9
  t20:=Tryz.underlying20
  a20:=Tryz.isAgg20
  z20:=Tryz.sizeOf20
  v20:=Tryz.zeroValue20
  t37:=Tryz.underlying286
  a37:=Tryz.isAgg286
  z37:=Tryz.sizeOf286
  v37:=Tryz.zeroValue286
  t46:=Tryz.underlying317
  a46:=Tryz.isAgg317
  z46:=Tryz.sizeOf317
  v46:=Tryz.zeroValue317
  t51:=Tryz.underlying334
  a51:=Tryz.isAgg334
  z51:=Tryz.sizeOf334
  v51:=Tryz.zeroValue334
  t53:=Tryz.underlying336
  a53:=Tryz.isAgg336
  z53:=Tryz.sizeOf336
  v53:=Tryz.zeroValue336
  t171:=Tryz.underlying338
  a171:=Tryz.isAgg338
  z171:=Tryz.sizeOf338
  v171:=Tryz.zeroValue338
  t173:=Tryz.underlying340
  a173:=Tryz.isAgg340
  z173:=Tryz.sizeOf340
  v173:=Tryz.zeroValue340
  t212:=Tryz.underlying351
  a212:=Tryz.isAgg351
  z212:=Tryz.sizeOf351
  v212:=Tryz.zeroValue351
  t213:=Tryz.underlying352
  a213:=Tryz.isAgg352
  z213:=Tryz.sizeOf352
  t232:=Tryz.underlying362
  a232:=Tryz.isAgg362
  z232:=Tryz.sizeOf362
  v232:=Tryz.zeroValue362
  t233:=Tryz.underlying363
  a233:=Tryz.isAgg363
  z233:=Tryz.sizeOf363
  v233:=Tryz.zeroValue363
  g17:=by kernel_rfl
  g18:=by kernel_rfl
  g19:=by kernel_rfl
  i0:=by kernel_rfl
  i2:=by kernel_rfl
  i3:=by kernel_rfl
  i4:=by kernel_rfl
  i5:=by kernel_rfl
  i9:=by kernel_rfl
  i20:=by kernel_rfl
  i37:=by kernel_rfl
  i46:=by kernel_rfl
  i51:=by kernel_rfl
  i53:=by kernel_rfl
  i171:=by kernel_rfl
  i173:=by kernel_rfl
  i212:=by kernel_rfl
  i232:=by kernel_rfl
  i233:=by kernel_rfl
  m17:=by kernel_rfl
  m18:=by kernel_rfl
  m19:=by kernel_rfl }
open Go.RowKit Go.Sort Go.Lib in
theorem Tryz.strconv_Itoa (n:Int) (h0:-9223372036854775808 ≤ n) (h1:n ≤ 9223372036854775807) (w:World) (htab:Lib.TabIs Tryz.prog w "internal/strconv.uint64pow10" .u64 Lib.pow10Tab) :
    Calls Tryz.prog 195 #[.int .i64 n] w fun e w'=>e = .returned (.string ⟨(Lib.itoa n).toArray⟩) ∧ ∃ k os,w' = grow (w.drewN k) os:=Any.strconv_Itoa Tryz.laysM171 n h0 h1 w htab
end Go.Proofs
namespace Go.Proofs.A1
open Go Go.SL
def itoaB (n:Int):ByteArray:=⟨(Lib.itoa n).toArray⟩
def strB (l:List ByteArray):List (List Value):=l.map fun s=>[Value.string s]
theorem strB_length (l:List ByteArray):(strB l).length = l.length:=by simp [strB]
theorem strB_one (l:List ByteArray):∀ r ∈ strB l,∀ u ∈ r,u.oneCell' = true:=by
  intro r hr
  obtain ⟨x,_,rfl⟩:=List.mem_map.1 hr
  exact okc_cons rfl okc_nil
theorem strB_sz (l:List ByteArray):∀ r ∈ strB l,r.length = 1:=by
  intro r hr
  obtain ⟨x,_,rfl⟩:=List.mem_map.1 hr
  rfl
theorem strB_flat (l:List ByteArray):l.map Value.string = (strB l).flatten:=by
  induction l with
  | nil=>rfl
  | cons x l ih=>simp only [strB,List.map_cons,List.flatten_cons] at ih ⊢;rw [← ih];rfl
theorem rdStrR {c:Cx} {hs hs':List Asn} {w:World} {E:TypeId} {l:List ByteArray} {n:Nat} {v:Value} {xs:List Value} (hm:Mem c hs w) (ht:Take hs (row E 1 v n xs) hs') (hx:xs = l.map Value.string) (hn:l.length = n):Rd w v 1 (strB l):=
  hm.rdRow ht (hx.trans (strB_flat l)) (strB_sz l) (by rw [strB_length,hn])
def Tab10 (w:World):Prop:=Lib.TabIs Tryz.prog w "internal/strconv.uint64pow10" .u64 Lib.pow10Tab
theorem Tab10.keeps {w w':World} (h:Tab10 w) (hk:Keeps [] w w'):Tab10 w':=Lib.tabBelow_of_tabIs h w' hk.below
theorem keeps_grow (w:World) (k:Nat) (os:Array Obj):Keeps [] w (Sort.grow (w.drewN k) os):=
  ⟨rfl,rfl,rfl,by rw [Sort.size_grow];exact Nat.le_add_right _ _,fun b hb _=>Sort.heap_grow_old (w.drewN k) os hb⟩
theorem itoa_c (n:Int) (h0:-9223372036854775808 ≤ n) (h1:n ≤ 9223372036854775807) (w:World) (hT:Tab10 w):GivesV Tryz.prog 195 [.int .i64 n] w (.string (itoaB n)):=
  Calls.mono (Tryz.strconv_Itoa n h0 h1 w hT) fun e w' ⟨he,k,os,hw⟩=>⟨he,by rw [hw];exact keeps_grow w k os⟩
def joinB (l:List ByteArray) (sep:ByteArray):ByteArray:=⟨(Lib.join (l.map (·.data.toList)) sep.data.toList).toArray⟩
theorem join_c {lv:Value} {l:List ByteArray} (sep:ByteArray) {w:World} (h:Rd w lv 1 (strB l)) (hl:l.length ≤ 1000) (hlen:(Lib.join (l.map (·.data.toList)) sep.data.toList).length ≤ 140737488355328) :
    GivesV Tryz.prog 155 [lv,.string sep] w (.string (joinB l sep)):=by
  obtain ⟨a,cap,b,o,rfl,hcap,hmax,ha,hc⟩:=h
  rw [strB_length] at *
  cases l with
  | nil=>exact Calls.mono (Tryz.strings_Join_none a cap sep w) fun e w' ⟨he,hw⟩=>⟨he,by rw [hw];exact .refl _ _⟩
  | cons x r =>
    have:=ha (by simp [strB])
    subst this
    have hcell:∀ (j:Nat) y,(x :: r)[j]? = some y → w.cell? ⟨b,o + j,none⟩ = some (.string y):=fun j y hj=>by
      have:=(hc j [.string y] (by unfold strB;rw [List.getElem?_map,hj];rfl)).2 0 _ rfl
      simpa using this
    refine Calls.mono (Tryz.strings_Join b o cap (x :: r) sep w hcell ?_ (by omega) hcap hlen) fun e w' ⟨he,hw⟩=>⟨he,Keeps.of_below hw⟩
    exact World.block_lt_of_cell? w _ (hcell 0 x rfl)
theorem mapIt_c {lv:Value} {l:List Int} {w:World} (h:Rd w lv 1 (ints l)) (hi:∀ x ∈ l,-9223372036854775808 ≤ x ∧ x ≤ 9223372036854775807) (hn:l.length ≤ 1000) (hT:Tab10 w) :
    Gives Tryz.prog 194 [lv,.func (.func 195) #[] #[]] w [] (fun _:Value=>True) id (fun v=>[row 9 1 v l.length ((l.map itoaB).map Value.string)]):=by
  obtain ⟨a,cp,b,o,rfl,hcap,hmax,ha,hc⟩:=h
  rw [ints_length] at *
  unfold maxLen at hmax
  refine gives_of_tr Tryz.func194 rfl rfl ?_
  (refine s_r ?_;refine a_s rfl rfl ?_;refine n_r ?_;refine a_s rfl rfl ?_;refine n_t ?_;refine tr_seq ?_;refine s_r ?_;refine m_v rfl rfl ?_;refine tr_val (rk_len_slice (.of rfl)) rfl ?_;refine m_v rfl rfl ?_;refine n_t ?_;refine tr_block ?_)
  refine tr_rowNil 9 1 ?_
  refine tr_for (ι:=Nat × Value) (fun x=>x.1 ≤ l.length) (fun x=>[(10,.int .i64 x.1),(9,.int .i64 l.length),(8,.slice a l.length cp),(5,x.2),(1,.func (.func 195) #[] #[])]) (fun x=>[row 9 1 x.2 x.1 (((l.take x.1).map itoaB).map Value.string)]) (fun x=>l.length - x.1) ?_ ?_
  · apply tr_start (0,.slice none 0 0) (Nat.zero_le _)
    case hs1=>exact .cons rfl (.cons rfl (.cons rfl (.cons rfl (.cons rfl .nil))))
    case ht=>
      show Takes _ [row 9 1 (.slice none 0 0) 0 []] _
      exact .cons .here .nil
  rintro ⟨k,v⟩ hk
  dsimp only at hk ⊢
  by_cases hlt:k < l.length
  · have ha':=ha (ints_ne hlt)
    have c0:w.cell? ⟨b,o + k * 1,none⟩ = some (.int .i64 l[k]):=(hc k _ (ints_get hlt)).2 0 _ rfl
    have hi0:=(hi _ (List.getElem_mem hlt)).1
    have hi1:=(hi _ (List.getElem_mem hlt)).2
    have hs:((l.take (k + 1)).map itoaB).map Value.string = ((l.take k).map itoaB).map Value.string++[.string (itoaB l[k])]:=by
      rw [List.take_add_one,List.getElem?_eq_getElem hlt,List.map_append,List.map_append];rfl
    (refine s_r ?_;refine tr_val (rk_lss (.of rfl) (.of rfl)) rfl ?_;refine n_t ?_;refine tr_seq ?_;refine c_d rfl (fun hcd=>?_) (fun _=>by omega);refine s_t ?_;refine tr_seq ?_;refine tr_block ?_;refine s_r ?_;refine tr_val (rk_indexAddr (.of rfl) (.of rfl) ha' (by omega) hcd norm1_) rfl ?_;refine tr_val (rk_load1 (.of rfl) (At.base c0 rfl)) rfl ?_;refine a_s rfl rfl ?_;refine n_t ?_;refine tr_region ?_;refine m_v rfl rfl ?_;refine m_v rfl rfl ?_;refine m_v rfl rfl ?_)
    refine tr_callV (rk_call (.of rfl) (.cons (.of rfl) .nil) inferInstance normc_) rfl (fun w' hm'=>(itoa_c _ hi0 hi1 w' (Tab10.keeps hT (Mem.keeps hm')))) ?_
    refine tr_new (rk_sliceLit (.cons (.of rfl) .nil) rfl rfl rfl rfl) rfl (fun _ _=>?_)
    refine tr_appendB (.of rfl) (.of rfl) (.there .here) .here norm_ (by rfl) (okc_cons rfl okc_nil) (by rfl) (by rfl) (by rfl) lenx_ (by rfl) ?_
    intro v'
    (refine a_s rfl rfl ?_;refine tr_nil ?_;refine tr_blk_normal ?_;refine tr_then ?_;refine tr_region ?_;refine tr_val (rk_add (.of rfl) (.of rfl) (ini (by omega))) rfl ?_;refine m_v rfl rfl ?_;refine n_t ?_)
    apply tr_next (k + 1,v') (show k + 1 ≤ l.length by omega) (show l.length - (k + 1) < l.length - k by omega)
    case hs1=>exact .cons rfl (.cons rfl (.cons rfl (.cons rfl (.cons rfl .nil))))
    case ht=>
      show Takes _ [row 9 1 v' (k + 1) (((l.take (k + 1)).map itoaB).map Value.string)] _
      rw [hs]
      exact .cons .here .nil
  · obtain rfl:k = l.length:=by omega
    rw [List.take_length]
    (refine s_r ?_;refine tr_val (rk_lss (.of rfl) (.of rfl)) rfl ?_;refine n_t ?_;refine tr_seq ?_;refine c_d rfl (fun _=>by omega) (fun hcd=>?_);refine x_t ?_;refine tr_then_exit ?_;refine tr_blk_exit ?_;refine tr_then ?_;refine s_r ?_;refine m_v rfl rfl ?_;refine a_s rfl rfl ?_;refine n_t ?_;refine tr_ret ?_)
    first | with_reducible apply tr_retM | with_reducible apply tr_endM
    case he=>exact ends1 rfl rfl
    case hR=>
      intro w' hm'
      exact gives_end v trivial (by exact .cons .here .nil) hm' rfl
def lineW (e:En):List ByteArray:=[⟨#[101,110,116,114,121]⟩,e.nm,e.mt,e.kd,itoaB e.tm,itoaB e.ln,itoaB e.ov]
def lineF (e:En):ByteArray:=joinB (lineW e) ⟨#[32]⟩++⟨#[10]⟩
structure LineOk (e:En):Prop where
  nm:e.nm.size ≤ 1000
  mt:e.mt.size ≤ 1000
  kd:e.kd.size ≤ 1000
  tm:-9223372036854775808 ≤ e.tm ∧ e.tm ≤ 9223372036854775807
  ln:-9223372036854775808 ≤ e.ln ∧ e.ln ≤ 9223372036854775807
  ov:-9223372036854775808 ≤ e.ov ∧ e.ov ≤ 9223372036854775807
theorem LineOk.of {e:En} (h:EnOk e):LineOk e:=by
  have h1:=h.nm
  have h2:=h.mt
  unfold nameF at h1 h2
  simp only [Bool.and_eq_true,decide_eq_true_eq] at h1 h2
  have h3:=h.tm;have h4:=h.ln;have h5:=h.ov
  refine ⟨by omega,by omega,?_,by omega,by omega,by omega⟩
  rcases h.kd with e | e | e <;> rw [e] <;> decide
theorem join_len (l:List (List UInt8)) (sep:List UInt8) (n:Nat) (h:∀ x ∈ l,x.length ≤ n):(Lib.join l sep).length ≤ l.length * (n + sep.length):=by
  cases l with
  | nil=>simp [Lib.join]
  | cons x r =>
    have key:∀ (r:List (List UInt8)),(∀ y ∈ r,y.length ≤ n) → (Lib.joinTail sep r).length ≤ r.length * (n + sep.length):=by
      intro r
      induction r with
      | nil=>intro _;simp [Lib.joinTail]
      | cons y r ih =>
        intro hy
        have h1:=hy y (by simp)
        have h2:=ih fun z hz=>hy z (by simp [hz])
        simp only [Lib.joinTail,List.map_cons,List.flatten_cons,List.length_append,List.length_cons,Nat.succ_mul] at h2 ⊢
        omega
    rw [Lib.join_cons,List.length_append,List.length_cons,Nat.succ_mul]
    have h1:=h x (by simp)
    have h2:=key r fun z hz=>h z (by simp [hz])
    omega
theorem lineW_len {e:En} (h:LineOk e):(Lib.join ((lineW e).map (·.data.toList)) [32]).length ≤ 7007:=by
  have:=join_len ((lineW e).map (·.data.toList)) [32] 1000 (by
    intro x hx
    have e1:=h.nm;have e2:=h.mt;have e3:=h.kd
    have i1:=Lib.itoa_length_le e.tm h.tm.1 h.tm.2
    have i2:=Lib.itoa_length_le e.ln h.ln.1 h.ln.2
    have i3:=Lib.itoa_length_le e.ov h.ov.1 h.ov.2
    have hsz:∀ s:ByteArray,s.data.toList.length = s.size:=fun s=>Array.length_toList
    simp only [lineW,List.map_cons,List.map_nil,List.mem_cons,List.not_mem_nil,or_false] at hx
    rcases hx with rfl | rfl | rfl | rfl | rfl | rfl | rfl
    · decide
    · rw [hsz];exact e1
    · rw [hsz];exact e2
    · rw [hsz];exact e3
    · show (Lib.itoa e.tm).length ≤ 1000;omega
    · show (Lib.itoa e.ln).length ≤ 1000;omega
    · show (Lib.itoa e.ov).length ≤ 1000;omega)
  simpa [lineW] using this
set_option maxHeartbeats 1000000 in
theorem line_c (e:En) (h:LineOk e) (w:World) (hT:Tab10 w):GivesV Tryz.prog 157 [.agg e.cells.toArray] w (.string (lineF e)):=by
  have hlen:=lineW_len h
  unfold En.cells
  refine givesV_of_tr Tryz.func157 rfl rfl ?_
  (refine s_r ?_;refine tr_new (rk_box (.of rfl) rfl) rfl (fun _ _=>?_);refine a_s rfl rfl ?_;refine n_t ?_;refine tr_seq ?_)
  with_reducible refine tr_draw 17 (by kernel_rfl) ?_
  (refine a_f rfl rfl norm0_ ?_;refine any_val (rk_load1 (.of rfl) (At.lit .here rfl)) rfl ?_;refine a_f rfl rfl norm0_ ?_;refine any_val (rk_load1 (.of rfl) (At.lit .here rfl)) rfl ?_;refine a_f rfl rfl norm0_ ?_;refine a_f rfl rfl norm0_ ?_;refine any_val (rk_load1 (.of rfl) (At.lit .here rfl)) rfl ?_)
  with_reducible apply any_new
  case hr=>exact rk_sliceLit (.cons (.of rfl) (.cons (.of rfl) (.cons (.of rfl) (.cons (.of rfl) .nil)))) rfl rfl rfl rfl
  case hd=>rfl
  case hn=>rfl
  (refine a_f rfl rfl norm0_ ?_;refine a_f rfl rfl norm0_ ?_;refine any_val (rk_load1 (.of rfl) (At.lit .here rfl)) rfl ?_;refine a_f rfl rfl norm0_ ?_;refine any_val (rk_load1 (.of rfl) (At.lit .here rfl)) rfl ?_;refine a_f rfl rfl norm0_ ?_;refine any_val (rk_load1 (.of rfl) (At.lit .here rfl)) rfl ?_)
  with_reducible apply any_new
  case hr=>exact rk_sliceLit (.cons (.of rfl) (.cons (.of rfl) (.cons (.of rfl) .nil))) rfl rfl rfl rfl
  case hd=>rfl
  case hn=>rfl
  refine any_callNR (t:=19) (R:=relRd 1 (strB [itoaB e.tm,itoaB e.ln,itoaB e.ov])) (f:=194) (args:=fun b=>[.slice (some ⟨b,0,none⟩) 3 3,.func (.func 195) #[] #[]]) (by exact List.mem_cons_self) (by decide) (fun b=>?_) rfl rfl (fun b w' hm' hb=>?_) ?_
  · exact rk_call (Is.of rfl) (Iss.cons (Is.of rfl) (Iss.cons (Is.of rfl) Iss.nil)) inferInstance rfl
  · have hrd:Rd w' (.slice (some ⟨b,0,none⟩) 3 3) 1 (ints [e.tm,e.ln,e.ov]):=by
      refine ⟨_,3,b,0,rfl,by simp [ints],by unfold maxLen;omega,fun _=>rfl,fun i r hr=>?_⟩
      match i,hr with
      | 0, hr =>
        cases hr
        exact ⟨rfl,fun j u hu=>by match j,hu with | 0,hu=>(cases hu;rw [cell_of_block hb];rfl)⟩
      | 1, hr =>
        cases hr
        exact ⟨rfl,fun j u hu=>by match j,hu with | 0,hu=>(cases hu;rw [cell_of_block hb];rfl)⟩
      | 2, hr =>
        cases hr
        exact ⟨rfl,fun j u hu=>by match j,hu with | 0,hu=>(cases hu;rw [cell_of_block hb];rfl)⟩
    refine rd_of_gives (E:=9) (n:=3) (mapIt_c hrd (by
      intro x hx
      simp only [List.mem_cons,List.not_mem_nil,or_false] at hx
      rcases hx with rfl | rfl | rfl
      · exact h.tm
      · exact h.ln
      · exact h.ov) (by simp) (hT.keeps hm'.keeps)) (fun x=>?_) (strB_sz _) rfl
    rfl
  refine any_appendRR (size:=1) (x:=11) (y:=20) (n:=4) (olds:=[.string ⟨#[101,110,116,114,121]⟩,.string e.nm,.string e.mt,.string e.kd]) (rows:=strB [itoaB e.tm,itoaB e.ln,itoaB e.ov]) (E:=9) (by exact List.mem_cons_of_mem _ (List.mem_cons_of_mem _ List.mem_cons_self)) (by exact List.mem_cons_self) (by simp [strB]) rfl (strB_one _) rfl rfl (by simp [strB]) rfl fun v'=>?_
  (refine a_s rfl rfl ?_;refine n_r ?_;refine m_v rfl rfl ?_)
  with_reducible apply tr_callV
  case hr=>exact rk_call (.of rfl) (.cons (.of rfl) (.cons (.of rfl) .nil)) inferInstance normc_
  case hd=>rfl
  case hc=>
    intro w' hm'
    exact join_c (l:=lineW e) ⟨#[32]⟩ (rdStrR (n:=4 + (strB [itoaB e.tm,itoaB e.ln,itoaB e.ov]).length) hm' (by exact .here) (by exact rfl) rfl) (by simp [lineW]) (Nat.le_trans hlen (by decide))
  have hj:(joinB (lineW e) ⟨#[32]⟩).size + (ByteArray.size ⟨#[10]⟩) ≤ 9223372036854775807:=by
    have:(joinB (lineW e) ⟨#[32]⟩).size = (Lib.join ((lineW e).map (·.data.toList)) [32]).length:=by
      unfold joinB;exact List.size_toArray
    have h2:ByteArray.size ⟨#[10]⟩ = 1:=rfl
    omega
  (refine tr_val (rk_cat (.of rfl) (.of rfl) hj) rfl ?_;refine a_s rfl rfl ?_;refine n_t ?_;refine tr_ret ?_;refine tr_retE rfl (ends1 rfl rfl) ?_)
  rfl
end Go.Proofs.A1
