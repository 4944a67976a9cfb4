/- Parts of the proof: V7 V8 V9 V10 V11. -/
import Derived.Test.YtfbgbipclgljaaaGreatDoorWM23
import Derived.Test.YtfbgbipclgljaaaGreatDoorWM22
import Derived.Test.YtfbgbipclgljaaaGreatDoorWM06
import Derived.Test.YtfbgbipclgljaaaGreatDoorWM08
import Derived.Test.YtfbgbipclgljaaaGreatDoorWM10
import Derived.Test.YtfbgbipclgljaaaGreatDoorWM17
import Derived.Test.YtfbgbipclgljaaaGreatDoorWM19
import Derived.Test.YtfbgbipclgljaaaGreatDoorWM20
set_option linter.unusedSectionVars false
set_option linter.unusedVariables false
set_option linter.unusedSimpArgs false
namespace Go.Proofs.A1
open Go Go.SL
def endB (l:List UInt8):Bool:=decide (l.getLast? = some 10)
def cutL (l:List UInt8):List UInt8:=if l.getLast? = some 10 then l.dropLast else l
theorem last_of {l:List UInt8} (h:1 ≤ l.length):∃ a x,l = a++[x]:=by
  have hne:l ≠ []:=fun e=>by rw [e] at h;simp at h
  exact ⟨l.dropLast,l.getLast hne,(List.dropLast_concat_getLast hne).symm⟩
theorem ext_last {l:List UInt8} (h:1 ≤ l.length):((bsL l).extract ((l.length:Int) - 1).toNat l.length = ⟨#[10]⟩) ↔ l.getLast? = some 10:=by
  obtain ⟨a,x,rfl⟩:=last_of h
  have e1:toL ((bsL (a++[x])).extract (((a++[x]).length:Int) - 1).toNat (a++[x]).length) = [x]:=by
    rw [toL_extract,toL_bsL,List.take_of_length_le (Nat.le_refl _),show (((a++[x]).length:Int) - 1).toNat = a.length by simp]
    simp
  rw [List.getLast?_concat]
  constructor
  · intro e
    rw [e] at e1
    have:[(10:UInt8)] = [x]:=e1
    simp at this
    rw [this]
  · intro e
    refine toL_inj ?_
    rw [e1,Option.some.inj e]
theorem cut_size (l:List UInt8):(cutL l).length ≤ l.length:=by unfold cutL;split <;> simp
theorem hasSuf_p (l:List UInt8) (hl:l.length ≤ 5001) (w:World):GivesV Tryz.prog 217 [.string (bsL l),.string ⟨#[10]⟩] w (.bool (endB l)):=by
  have hsz:=bsL_size l
  have h10:ByteArray.size ⟨#[10]⟩ = 1:=rfl
  refine givesV_of_tr Tryz.func217 rfl rfl ?_
  (refine s_r ?_;refine a_s rfl rfl ?_;refine n_r ?_;refine m_v rfl rfl ?_;refine tr_val (rk_len_string (.of rfl)) rfl ?_;refine m_v rfl rfl ?_;refine tr_val (rk_len_string (.of rfl)) rfl ?_;refine tr_val (rk_geq (.of rfl) (.of rfl)) rfl ?_;refine m_v rfl rfl ?_;refine v_g rfl rfl rfl rfl ?_;refine v_g rfl rfl rfl rfl ?_;refine tr_vG1 rfl rfl inferInstance (fun hg hgp=>(rk_len_string (.ofg hg rfl))) rfl ?_;refine v_g rfl rfl rfl rfl ?_;refine tr_vG1 rfl rfl inferInstance (fun hg hgp=>(rk_len_string (.ofg hg rfl))) rfl ?_;refine tr_vG1 rfl rfl inferInstance (fun hg hgp=>(rk_sub (.ofg hg rfl) (.ofg hg rfl) (ini (by omega)))) rfl ?_;refine tr_vG1 rfl rfl inferInstance (fun hg hgp=>(rk_sliceS_l (.ofg hg rfl) (.ofg hg rfl) (by omega) (by omega))) rfl ?_;refine v_g rfl rfl rfl rfl ?_;refine tr_vG1 rfl rfl inferInstance (fun hg hgp=>(rk_eqls (.ofg hg rfl) (.ofg hg rfl))) rfl ?_;refine tr_val (rk_pick_and (.of rfl) rfl) rfl ?_;refine a_s rfl rfl ?_;refine n_t ?_;refine tr_ret ?_;refine tr_retE rfl (ends1 rfl rfl) ?_)
  rw [hsz,h10]
  by_cases h:1 ≤ l.length
  · rw [show ((1:Nat):Int) = 1 from rfl,decide_eq_true (show (1:Int) ≤ (l.length:Int) by omega),Bool.true_and]
    unfold endB
    exact congrArg Value.bool (decide_eq_decide.2 (ext_last h))
  · rw [decide_eq_false (by omega),Bool.false_and]
    obtain rfl:l = []:=List.length_eq_zero_iff.1 (by omega)
    rfl
theorem cutI_p (l:List UInt8) (hl:l.length ≤ 5001) (w:World):GivesV Tryz.prog 198 [.string (bsL l),.string ⟨#[10]⟩] w (.tuple #[.string (bsL (cutL l)),.bool (endB l)]):=by
  have hsz:=bsL_size l
  have h10:ByteArray.size ⟨#[10]⟩ = 1:=rfl
  refine givesV_of_tr Tryz.func198 rfl rfl ?_
  (refine s_r ?_;refine a_s rfl rfl ?_;refine a_s rfl rfl ?_;refine n_t ?_;refine tr_seq ?_;refine s_r ?_;refine m_v rfl rfl ?_;refine m_v rfl rfl ?_)
  with_reducible apply tr_callV
  case hr=>exact rk_call (.of rfl) (.cons (.of rfl) (.cons (.of rfl) .nil)) inferInstance normc_
  case hd=>rfl
  case hc=>
    intro w' hm'
    exact hasSuf_p l hl w'
  cases he:endB l with
  | false =>
    have hn:¬ l.getLast? = some 10:=of_decide_eq_false he
    (refine tr_val (rk_not (.of rfl)) rfl ?_;refine n_t ?_;refine tr_cond_t (.of rfl) ?_;refine s_r ?_;refine m_v rfl rfl ?_;refine a_s rfl rfl ?_;refine a_s rfl rfl ?_;refine n_t ?_;refine r_t ?_;refine tr_retE rfl (ends2 rfl rfl rfl) ?_)
    rw [cutL,if_neg hn]
  | true =>
    have hn:l.getLast? = some 10:=of_decide_eq_true he
    have h1:1 ≤ l.length:=by
      cases l with
      | nil=>cases hn
      | cons a r=>simp
    (refine tr_val (rk_not (.of rfl)) rfl ?_;refine n_t ?_;refine tr_cond_f (.of rfl) ?_;refine s_t ?_;refine s_r ?_;refine m_v rfl rfl ?_;refine m_v rfl rfl ?_;refine tr_val (rk_len_string (.of rfl)) rfl ?_;refine m_v rfl rfl ?_;refine tr_val (rk_len_string (.of rfl)) rfl ?_;refine tr_val (rk_sub (.of rfl) (.of rfl) (ini (by omega))) rfl ?_;refine tr_val (rk_sliceS_h (.of rfl) (.of rfl) (by omega) (by omega)) rfl ?_;refine a_s rfl rfl ?_;refine a_s rfl rfl ?_;refine n_t ?_;refine tr_ret ?_;refine tr_retE rfl (ends2 rfl rfl rfl) ?_)
    have hx:(bsL l).extract 0 (((bsL l).size:Int) - ((ByteArray.size ⟨#[10]⟩:Nat):Int)).toNat = bsL (cutL l):=by
      obtain ⟨a,x,rfl⟩:=last_of h1
      refine toL_inj ?_
      rw [toL_extract,toL_bsL,toL_bsL,hsz,h10,show ((((a++[x]).length:Nat):Int) - ((1:Nat):Int)).toNat = a.length by simp,List.drop_zero,cutL,if_pos hn]
      simp
    rw [hx]
theorem cut_p (l:List UInt8) (hl:l.length ≤ 5001) (w:World):GivesV Tryz.prog 159 [.string (bsL l),.string ⟨#[10]⟩] w (.tuple #[.string (bsL (cutL l)),.bool (endB l)]):=by
  refine givesV_of_tr Tryz.func159 rfl rfl ?_
  (refine s_r ?_;refine a_s rfl rfl ?_;refine a_s rfl rfl ?_;refine n_r ?_;refine m_v rfl rfl ?_;refine m_v rfl rfl ?_)
  with_reducible apply tr_callV
  case hr=>exact rk_call (.of rfl) (.cons (.of rfl) (.cons (.of rfl) .nil)) inferInstance normc_
  case hd=>rfl
  case hc=>
    intro w' hm'
    exact cutI_p l hl w'
  (refine tr_val (rk_extract (.of rfl) rfl) rfl ?_;refine tr_val (rk_extract (.of rfl) rfl) rfl ?_;refine a_s rfl rfl ?_;refine a_s rfl rfl ?_;refine n_t ?_;refine tr_ret ?_;refine tr_retE rfl (ends2 rfl rfl rfl) ?_)
  rfl
end Go.Proofs.A1
namespace Go.Proofs.A1
open Go Go.SL
theorem endsCCC {P:Program} {c:Cx} {sl:Slots} {hs:List Asn} {fn:Func} {t1 t2 t3:Tmp} {T1 T2 T3:TypeId} {b1 b2 b3 n2 n3:Nat} {v x y:Value} [Ty P T1 true 1] [Ty P T2 false n2] [Ty P T3 false n3] (h:fn.results = #[.cell t1 T1,.cell t2 T2,.cell t3 T3]) (h1:sget sl t1 = some (.pointer (some ⟨b1,0,none⟩))) (h2:sget sl t2 = some (.pointer (some ⟨b2,0,none⟩))) (h3:sget sl t3 = some (.pointer (some ⟨b3,0,none⟩)))
    (a1:At c hs b1 0 v) (a2:At c hs b2 0 x) (a3:At c hs b3 0 y):Go.SL.Ends P fn c sl hs (.tuple #[.agg #[v],x,y]):=
  endsL (xs:=[.cell t1 T1,.cell t2 T2,.cell t3 T3]) (vs:=[.agg [v].toArray,x,y]) h (RVs.cons (RV.cell h1 (loadsN (vs:=[v]) (Ats.of_get fun j u hj=>by
    match j,hj with
    | 0,hj=>cases hj;exact a1
    | j + 1,hj=>simp at hj) rfl)) (RVs.cons (RV.cell h2 (loads1 a2)) (RVs.cons (RV.cell h3 (loads1 a3)) RVs.nil))) (by simp)
theorem splL_notin (c:UInt8):∀ l,∀ p ∈ splL c l,c ∉ p
  | [],p,hp=>by simp [splL] at hp;subst hp;simp
  | x :: r, p, hp => by
    have ih:=splL_notin c r
    have hr:=splL_cons c r
    rw [splL] at hp
    split at hp
    · rcases List.mem_cons.1 hp with e | h
      · subst e;simp
      · exact ih p h
    · rename_i hx
      rcases List.mem_cons.1 hp with e | h
      · subst e
        have h1:=ih ((splL c r).headD []) (by rw [hr];simp)
        rw [List.mem_cons]
        rintro (e | e)
        · exact hx e.symm
        · exact h1 e
      · exact ih p (List.mem_of_mem_tail h)
theorem MaxL.keepsN {md:List Nat} {w w':World} (h:MaxL w) (hn:1 ∉ md) (hk:Keeps md w w'):MaxL w':=by
  obtain ⟨m,hm⟩:=h
  refine ⟨m,?_⟩
  have hb:=World.block_lt_of_cell? w ⟨1,0,none⟩ hm
  have:=hk.block 1 hb hn
  rw [← hm];simp [World.cell?,this]
theorem MaxL.out {md fp:List Nat} {w0:World} (h:MaxL w0) (hn:1 ∉ md) (hF:∀ b ∈ fp,b ∈ md ∨ w0.heap.size ≤ b):1 ∉ fp:=fun h0=>by
  obtain ⟨m,hm⟩:=h
  have hb:=World.block_lt_of_cell? w0 ⟨1,0,none⟩ hm
  rcases hF 1 h0 with e | e
  · exact hn e
  · exact absurd hb (by simp;omega)
def lastP (l:List UInt8):List UInt8:=(splL 10 l).getLastD []
theorem splL_last (l:List UInt8):(splL 10 l).dropLast++[lastP l] = splL 10 l:=by
  have hne:=splL_ne 10 l
  unfold lastP
  rw [List.getLastD_eq_getLast?,List.getLast?_eq_some_getLast hne]
  exact List.dropLast_concat_getLast hne
theorem nLn_eq (l:List UInt8):nLn l = (splL 10 l).dropLast.length:=by unfold nLn;rw [List.length_dropLast]
theorem linL_eq (l:List UInt8):linL l = (splL 10 l).dropLast.map (·++[10])++if lastP l = [] then [] else [lastP l]:=rfl
theorem lin_at {l:List UInt8} {k:Nat} (h:k < nLn l):(linL l)[k]? = some ((splL 10 l).getD k []++[10]):=by
  rw [nLn_eq] at h
  rw [linL_eq,List.getElem?_append_left (by simpa using h),List.getElem?_map,List.getElem?_eq_getElem h]
  simp only [Option.map_some]
  rw [List.getElem_dropLast,List.getD_eq_getElem?_getD,List.getElem?_eq_getElem (by rw [List.length_dropLast] at h;omega)]
  rfl
theorem lin_end {l:List UInt8} {k:Nat} {x:List UInt8} (h:(linL l)[k]? = some x) (hk:nLn l ≤ k):k = nLn l ∧ x = lastP l ∧ lastP l ≠ []:=by
  rw [nLn_eq] at hk ⊢
  rw [linL_eq,List.getElem?_append_right (by simpa using hk)] at h
  simp only [List.length_map] at h
  split at h
  · simp at h
  · rename_i hne
    have hlt:=(List.getElem?_eq_some_iff.1 h).1
    simp only [List.length_singleton] at hlt
    have e:k - (splL 10 l).dropLast.length = 0:=by omega
    rw [e] at h
    simp only [List.getElem?_cons_zero,Option.some.injEq] at h
    exact ⟨by omega,h.symm,hne⟩
theorem linL_len (l:List UInt8):(linL l).length = nLn l + if lastP l = [] then 0 else 1:=by
  rw [linL_eq,nLn_eq,List.length_append,List.length_map]
  split <;> simp
theorem last_notin (l:List UInt8):(10:UInt8) ∉ lastP l:=splL_notin 10 l _ (by
  rw [← splL_last l];simp)
theorem endB_last {l:List UInt8}:endB (lastP l) = false:=by
  unfold endB
  rw [decide_eq_false_iff_not]
  intro h
  exact last_notin l (List.mem_of_getLast? h)
theorem endB_nl (a:List UInt8):endB (a++[10]) = true ∧ cutL (a++[10]) = a:=by
  constructor
  · unfold endB;rw [List.getLast?_concat];exact decide_eq_true rfl
  · unfold cutL;rw [List.getLast?_concat,if_pos rfl,List.dropLast_concat]
theorem nLn_le (l:List UInt8):nLn l ≤ l.length:=by
  have:=splL_le 10 l
  unfold nLn;omega
theorem tx_bad {l:List UInt8} {k:Nat} (hl:l.length ≤ 4096) (h1:∀ i,i < k → okW (lnW l i) = true) (h2:(k < nLn l ∧ okW (lnW l k) = false) ∨ (k = nLn l ∧ lastP l ≠ [])):txE l = 25 ∧ txI l = k ∧ txL l = []:=by
  have hg:gdN l (nLn l) = k:=by
    rcases h2 with h2 | h2
    · exact gdN_uniq h1 (fun _=>h2.2) (Nat.le_of_lt h2.1)
    · exact gdN_uniq h1 (fun h=>absurd h (by omega)) (by omega)
  have he:txE l = 25:=by
    unfold txE
    rw [if_neg (by omega),hg]
    rcases h2 with h2 | h2
    · rw [if_pos h2.1]
    · rw [if_neg (by omega),if_pos (show (splL 10 l).getLastD [] ≠ [] from h2.2)]
  refine ⟨he,?_,?_⟩
  · unfold txI
    rw [he,if_neg (by omega),hg]
  · unfold txL
    rw [he,if_neg (by decide)]
theorem tx_good {l:List UInt8} (hl:l.length ≤ 4096) (h1:∀ i,i < nLn l → okW (lnW l i) = true) (h2:lastP l = []):txE l = chkF (enL l (nLn l)) ∧ txI l = (if chkF (enL l (nLn l)) = 0 then 0 else (nLn l:Int)) ∧ txL l = if chkF (enL l (nLn l)) = 0 then enL l (nLn l) else []:=by
  have hg:gdN l (nLn l) = nLn l:=gdN_uniq h1 (fun h=>absurd h (Nat.lt_irrefl _)) (Nat.le_refl _)
  have he:txE l = chkF (enL l (nLn l)):=by
    unfold txE
    rw [if_neg (by omega),hg,if_neg (Nat.lt_irrefl _),if_neg (show ¬ (splL 10 l).getLastD [] ≠ [] from fun h=>h h2)]
  refine ⟨he,?_,?_⟩
  · unfold txI
    rw [he,hg]
    by_cases h0:chkF (enL l (nLn l)) = 0
    · rw [if_pos (.inl h0),if_pos h0]
    · rw [if_neg (by omega),if_neg h0]
  · unfold txL
    rw [he]
theorem tx_long {l:List UInt8} (hl:4096 < l.length):txE l = 26 ∧ txI l = 0 ∧ txL l = []:=by
  have he:txE l = 26:=by unfold txE;rw [if_pos hl]
  refine ⟨he,?_,?_⟩
  · unfold txI;rw [if_pos (.inr hl)]
  · unfold txL;rw [he,if_neg (by decide)]
set_option maxHeartbeats 4000000 in
theorem parse_c {s:ByteArray} (hsz:s.size ≤ 4900) {w:World} (hM:MaxL w) (hG:Glob w):Gives Tryz.prog 82 [.string s] w [] (fun _:Value=>True) (fun v=>.tuple #[.agg #[v],.int .i64 (txI (toL s)),.int .i64 (txE (toL s))]) (fun v=>[row 138 6 v (txL (toL s)).length (ensL (txL (toL s))).flatten]):=by
  have hsl:=size_toL s
  refine gives_of_tr Tryz.func82 rfl rfl ?_
  (refine s_r ?_;refine tr_new (rk_alloc rfl) rfl (fun _ _=>?_);refine tr_new (rk_alloc rfl) rfl (fun _ _=>?_);refine tr_new (rk_alloc rfl) rfl (fun _ _=>?_);refine n_t ?_;refine tr_seq ?_;refine s_r ?_;refine m_v rfl rfl ?_;refine tr_val (rk_len_string (.of rfl)) rfl ?_;refine tr_val (rk_gtr (.of rfl) (.of rfl)) rfl ?_;refine n_t ?_;refine c_d rfl (fun hcd=>?_) (fun hcd=>?_);refine s_r ?_;refine tr_val (rk_buildL .nil norm_) rfl ?_;refine tr_store (.of rfl) (.of rfl) (.there (.there .here)) rfl rfl (okc_cons rfl okc_nil) (lenb rfl) norm_ ?_;refine tr_store (.of rfl) (.of rfl) (.there (.there .here)) rfl rfl (okc_cons rfl okc_nil) (lenb rfl) norm_ ?_;refine tr_store (.of rfl) (.of rfl) (.there (.there .here)) rfl rfl (okc_cons rfl okc_nil) (lenb rfl) norm_ ?_;refine n_t ?_;refine r_t ?_;rotate_left;refine s_t ?_;refine s_r ?_;refine tr_new (rk_alloc rfl) rfl (fun _ _=>?_);refine n_t ?_;refine tr_seq ?_;refine s_r ?_;refine m_v rfl rfl ?_;rotate_right)
  · obtain ⟨e1,e2,e3⟩:=tx_long (l:=toL s) (by omega)
    rw [e1,e2,e3]
    refine tr_rowNil 138 6 ?_
    first | with_reducible apply tr_retM | with_reducible apply tr_endM
    case he=>exact endsCCC rfl rfl rfl rfl (At.lit (by exact Take.there (.there (.there .here))) rfl) (At.lit (by exact Take.there (.there .here)) rfl) (At.lit (by exact Take.there .here) rfl)
    case hR=>
      intro w' hm'
      exact gives_end (.slice none 0 0) trivial (show Takes _ [row 138 6 (.slice none 0 0) 0 []] _ by exact .cons .here .nil) hm' rfl
  have hl:(toL s).length ≤ 4096:=by omega
  rename_i b2 hb2 b3 hb3 b4 hb4 b5 hb5
  with_reducible apply tr_call
  case hr=>exact rk_call (.of rfl) (.cons (.of rfl) .nil) inferInstance normc_
  case hd=>rfl
  case ht=>exact Takes.nil
  case hc=>
    intro w1 fp hm1 _ hs1
    obtain rfl:fp = []:=hs1
    exact lines_c s w1
  intro x1 _
  dsimp only [id_eq,List.cons_append,List.nil_append]
  (refine n_t ?_;refine tr_block ?_)
  refine tr_rowNil 138 6 ?_
  refine tr_rangeSeqO (ps:=[18]) (f:=196) (first:=[]) (cap:=[.pointer (some ⟨x1,0,none⟩)]) (ι:=Nat × Value) (κ:=Nat) (rst:=[]) ?hg
    [blk x1 (.cells #[.string s] 9)] [exA (fun _:ByteArray=>True) fun s'=>[blk x1 (.cells #[.string s'] 9)]] (lnV (toL s)) ?hit (fun k x=>x.1 = k ∧ k ≤ nLn (toL s) ∧ ∀ i,i < k → okW (lnW (toL s) i) = true)
    (fun x=>[blk b2 (.cells #[.slice none 0 0] 33),blk b3 (.cells #[.int .i64 0] 3),blk b4 (.cells #[.int .i64 0] 28),blk b5 (.cells #[x.2] 33),row 138 6 (x.2) (x.1) ((ensL (enL (toL s) x.1)).flatten)])
    (fun y=>txE (toL s) = 25 ∧ txI (toL s) = (y:Int) ∧ txL (toL s) = []) (fun y=>[blk b2 (.cells #[.slice none 0 0] 33),blk b3 (.cells #[.int .i64 (y:Int)] 3),blk b4 (.cells #[.int .i64 25] 28)]) (fun _=>.ret) (0,.slice none 0 0) ⟨rfl,Nat.zero_le _,fun i h=>absurd h (Nat.not_lt_zero _)⟩ ?ht ?hlen ?hps ?round ?kn ?kj
  case hg=>exact Is.of rfl
  case hit=>intro w' hm';exact linesI_c (by omega)
  case ht=>
    show Takes _ [blk b2 (.cells #[.slice none 0 0] 33),blk b3 (.cells #[.int .i64 0] 3),blk b4 (.cells #[.int .i64 0] 28),blk b5 (.cells #[.slice none 0 0] 33),row 138 6 (.slice none 0 0) 0 [],_] _
    exact .cons (.there (.there (.there (.there (.there .here))))) (.cons (.there (.there (.there (.there .here)))) (.cons (.there (.there (.there .here))) (.cons (.there (.there .here)) (.cons .here (.cons .here .nil)))))
  case hlen=>intro vs hvs;obtain ⟨x,_,rfl⟩:=List.mem_map.1 hvs;rfl
  case hps=>intro t ht;simp only [List.mem_cons,List.not_mem_nil,or_false] at ht;subst ht;exact Nat.le_of_ble_eq_true rfl
  case kj=>
    rintro y D ⟨y1,y2,y3⟩
    rw [y1,y2,y3]
    dsimp only [List.cons_append,List.nil_append]
    refine tr_rowNil 138 6 ?_
    (refine tr_ret ?_;refine tr_blk_ret ?_;refine tr_then_ret ?_)
    first | with_reducible apply tr_retM | with_reducible apply tr_endM
    case he=>exact endsCCC rfl rfl rfl rfl (At.lit (by exact Take.there .here) rfl) (At.lit (by exact Take.there (.there .here)) rfl) (At.lit (by exact Take.there (.there (.there .here))) rfl)
    case hR=>
      intro w' hm'
      exact gives_end (.slice none 0 0) trivial (show Takes _ [row 138 6 (.slice none 0 0) 0 []] _ by exact .cons .here .nil) hm' rfl
  case kn=>
    rintro ⟨n,v⟩ D ⟨hq,hn,hz⟩
    dsimp only [List.cons_append,List.nil_append] at hq hz hn ⊢
    rw [lnV_length,linL_len] at hq hz hn
    have hlast:lastP (toL s) = []:=Decidable.byContradiction fun h=>by rw [if_neg h] at hn;omega
    rw [if_pos hlast,Nat.add_zero] at hq hz
    obtain ⟨t1,t2,t3⟩:=tx_good hl hz hlast
    have hnl:=nLn_le (toL s)
    rw [t1,t2,t3]
    subst hq
    refine tr_rowSl (E:=138) (sz:=6) (v:=v) (by exact Take.there (.there (.there (.there .here)))) fun va vc e=>?_
    subst e
    (refine tr_blk_normal ?_;refine tr_then ?_;refine tr_seq ?_;refine s_r ?_;refine tr_val (rk_loadB (.of rfl) (.there (.there (.there .here))) norm_ (by rfl)) rfl ?_)
    with_reducible apply tr_callV
    case hr=>exact rk_call (.of rfl) (.cons (.of rfl) .nil) inferInstance normc_
    case hd=>rfl
    case hc=>
      intro w' hm'
      exact chk_c (rdEnF (E:=138) (n:=nLn (toL s)) (v:=.slice va (nLn (toL s)) vc) hm' (by exact Take.there (.there (.there (.there .here)))) (enL_length _ _)) (hG.keeps hm'.keeps)
    generalize hE:chkF (enL (toL s) (nLn (toL s))) = E
    (refine a_s rfl rfl ?_;refine n_r ?_;refine m_v rfl rfl ?_;refine tr_val (rk_neq (.of rfl) (.of rfl)) rfl ?_;refine n_t ?_;refine c_d rfl (fun hcd=>?_) (fun hcd=>?_);refine tr_seq ?_;rotate_left;refine s_t ?_;refine s_r ?_;refine tr_val (rk_loadB (.of rfl) (.there (.there (.there .here))) norm_ (by rfl)) rfl ?_;refine tr_store (.of rfl) (.of rfl) .here rfl rfl (okc_cons rfl okc_nil) (lenb rfl) norm_ ?_;refine tr_store (.of rfl) (.of rfl) (.there .here) rfl rfl (okc_cons rfl okc_nil) (lenb rfl) norm_ ?_;refine tr_store (.of rfl) (.of rfl) (.there (.there .here)) rfl rfl (okc_cons rfl okc_nil) (lenb rfl) norm_ ?_;refine n_t ?_;refine tr_ret ?_;rotate_right)
    · rw [if_neg hcd,if_neg hcd]
      refine tr_left 8 rfl ?_
      (refine left_take 0 rfl kr_ kr_ kr_ (fun w ρ=>rfl) (fun w=>(rk_buildL .nil norm_)) rfl ?_;refine left_take 1 rfl kr_ kr_ kr_ (fun w ρ=>rfl) (fun w=>(rk_fieldAddr (.of rfl) norm0_)) rfl ?_;refine left_take 4 rfl kr_ kr_ kr_ (fun w ρ=>rfl) (fun w=>(rk_move (.of rfl))) rfl ?_)
      refine left_ready (rs:=[2,5]) (by kernel_rfl) (by simp) (List.forall_mem_cons.2 ⟨?_,List.forall_mem_cons.2 ⟨?_,fun _ h=>absurd h List.not_mem_nil⟩⟩)
      · refine next_step rfl ?_
        (refine tr_val (rk_load1 (.of rfl) (At.lit (.there (.there (.there .here))) rfl)) rfl ?_;refine n_t ?_)
        refine left_take 3 rfl kr_ kr_ kr_ (fun w ρ=>rfl) (fun w=>(rk_len_slice (.of rfl))) rfl ?_
        refine left_ready (rs:=[5]) (by kernel_rfl) (by simp) (List.forall_mem_cons.2 ⟨?_,fun _ h=>absurd h List.not_mem_nil⟩)
        refine next_step rfl ?_
        (refine tr_store (.of rfl) (.of rfl) .here rfl rfl (okc_cons rfl okc_nil) (lenb rfl) norm_ ?_;refine n_t ?_)
        refine left_ready (rs:=[6]) (by kernel_rfl) (by simp) (List.forall_mem_cons.2 ⟨?_,fun _ h=>absurd h List.not_mem_nil⟩)
        refine next_step rfl ?_
        (refine tr_store (.of rfl) (.of rfl) (.there .here) rfl rfl (okc_cons rfl okc_nil) (lenb rfl) norm_ ?_;refine n_t ?_)
        refine left_ready (rs:=[7]) (by kernel_rfl) (by simp) (List.forall_mem_cons.2 ⟨?_,fun _ h=>absurd h List.not_mem_nil⟩)
        refine next_step rfl ?_
        (refine tr_store (.of rfl) (.of rfl) (.there (.there .here)) rfl rfl (okc_cons rfl okc_nil) (lenb rfl) norm_ ?_;refine n_t ?_)
        with_reducible refine left_done (by kernel_rfl) ?_
        refine tr_rowNil 138 6 ?_
        (refine tr_then ?_;refine r_t ?_)
        first | with_reducible apply tr_retM | with_reducible apply tr_endM
        case he=>exact endsCCC rfl rfl rfl rfl (At.lit (by exact Take.there (.there (.there .here))) rfl) (At.lit (by exact Take.there (.there .here)) rfl) (At.lit (by exact Take.there .here) rfl)
        case hR=>
          intro w' hm'
          exact gives_end (.slice none 0 0) trivial (show Takes _ [row 138 6 (.slice none 0 0) 0 []] _ by exact .cons .here .nil) hm' rfl
      · refine next_step rfl ?_
        (refine tr_store (.of rfl) (.of rfl) .here rfl rfl (okc_cons rfl okc_nil) (lenb rfl) norm_ ?_;refine n_t ?_)
        refine left_ready (rs:=[2]) (by kernel_rfl) (by simp) (List.forall_mem_cons.2 ⟨?_,fun _ h=>absurd h List.not_mem_nil⟩)
        refine next_step rfl ?_
        (refine tr_val (rk_load1 (.of rfl) (At.lit (.there (.there (.there .here))) rfl)) rfl ?_;refine n_t ?_)
        refine left_take 3 rfl kr_ kr_ kr_ (fun w ρ=>rfl) (fun w=>(rk_len_slice (.of rfl))) rfl ?_
        refine left_ready (rs:=[6]) (by kernel_rfl) (by simp) (List.forall_mem_cons.2 ⟨?_,fun _ h=>absurd h List.not_mem_nil⟩)
        refine next_step rfl ?_
        (refine tr_store (.of rfl) (.of rfl) (.there .here) rfl rfl (okc_cons rfl okc_nil) (lenb rfl) norm_ ?_;refine n_t ?_)
        refine left_ready (rs:=[7]) (by kernel_rfl) (by simp) (List.forall_mem_cons.2 ⟨?_,fun _ h=>absurd h List.not_mem_nil⟩)
        refine next_step rfl ?_
        (refine tr_store (.of rfl) (.of rfl) (.there (.there .here)) rfl rfl (okc_cons rfl okc_nil) (lenb rfl) norm_ ?_;refine n_t ?_)
        with_reducible refine left_done (by kernel_rfl) ?_
        refine tr_rowNil 138 6 ?_
        (refine tr_then ?_;refine r_t ?_)
        first | with_reducible apply tr_retM | with_reducible apply tr_endM
        case he=>exact endsCCC rfl rfl rfl rfl (At.lit (by exact Take.there (.there (.there .here))) rfl) (At.lit (by exact Take.there (.there .here)) rfl) (At.lit (by exact Take.there .here) rfl)
        case hR=>
          intro w' hm'
          exact gives_end (.slice none 0 0) trivial (show Takes _ [row 138 6 (.slice none 0 0) 0 []] _ by exact .cons .here .nil) hm' rfl
    · have hE0:E = 0:=by omega
      rw [if_pos hE0,if_pos hE0]
      subst hE0
      skip
      first | with_reducible apply tr_retM | with_reducible apply tr_endM
      case he=>exact endsCCC rfl rfl rfl rfl (At.lit (by exact Take.there (.there .here)) rfl) (At.lit (by exact Take.there .here) rfl) (At.lit (by exact .here) rfl)
      case hR=>
        intro w' hm'
        exact gives_end (.slice va (nLn (toL s)) vc) trivial (show Takes _ [row 138 6 (.slice va (nLn (toL s)) vc) (enL (toL s) (nLn (toL s))).length (ensL (enL (toL s) (nLn (toL s)))).flatten] _ by rw [enL_length];exact .cons (.there (.there (.there (.there .here)))) .nil) hm' rfl
  case round=>
    rintro l0 rc W fp k ⟨n,v⟩ vs hszr hk ⟨hq,hn,hz⟩ hB hF
    dsimp only at hq hz hn
    subst hq
    obtain ⟨x,hx,rfl⟩:∃ x,(linL (toL s))[n]? = some x ∧ vs = [Value.string (bsL x)]:=by
      unfold lnV at hk
      rw [List.getElem?_map] at hk
      cases e:(linL (toL s))[n]? with
      | none=>rw [e] at hk;cases hk
      | some x=>rw [e] at hk;exact ⟨x,rfl,(Option.some.inj hk).symm⟩
    have hM':MaxL W:=hM.keeps hB
    have h1:1 ∉ fp:=hM.out (by simp) hF
    have hxl:x.length ≤ 4097:=by
      have hm:=List.mem_of_getElem? hx
      rw [linL_eq] at hm
      rcases List.mem_append.1 hm with hm | hm
      · obtain ⟨y,hy,rfl⟩:=List.mem_map.1 hm
        have:=splL_len 10 (toL s) y ((List.dropLast_subset _ hy))
        rw [List.length_append,List.length_singleton];omega
      · split at hm
        · cases hm
        · rw [List.mem_singleton.1 hm]
          have:=splL_len 10 (toL s) (lastP (toL s)) (by rw [← splL_last (toL s)];simp)
          omega
    have hcl:=cut_size x
    dsimp only [List.zip_cons_cons,List.zip_nil_right,putAll,List.cons_append,List.nil_append]
    refine tr_rowSl (E:=138) (sz:=6) (v:=v) (by exact Take.there (.there (.there (.there (.there .here))))) fun va vc e=>?_
    subst e
    (refine tr_region ?_;refine a_s rfl rfl ?_;refine n_t ?_)
    with_reducible apply tr_begin
    case ht=>exact .here
    (refine tr_block ?_;refine s_r ?_;refine m_v rfl rfl ?_)
    with_reducible apply tr_callV
    case hr=>exact rk_call (.of rfl) (.cons (.of rfl) (.cons (.of rfl) .nil)) inferInstance normc_
    case hd=>rfl
    case hc=>
      intro w' hm'
      exact cut_p x (by omega) w'
    (refine m_v rfl rfl ?_;refine tr_val (rk_extract (.of rfl) rfl) rfl ?_;refine tr_val (rk_extract (.of rfl) rfl) rfl ?_;refine a_s rfl rfl ?_;refine a_s rfl rfl ?_;refine n_r ?_;refine m_v rfl rfl ?_)
    with_reducible apply tr_callV
    case hr=>exact rk_call (.of rfl) (.cons (.of rfl) .nil) inferInstance normc_
    case hd=>rfl
    case hc=>
      intro w' hm'
      exact parsed_c (s:=bsL (cutL x)) (by rw [bsL_size];omega) (hM'.keepsN h1 hm'.keeps)
    rw [toL_bsL]
    generalize hX:parX (splL 32 (cutL x)) = X
    have hec:X.cells = [.string X.nm,.string X.mt,.string X.kd,.int .i64 X.tm,.int .i64 X.ln,.int .i64 X.ov]:=rfl
    rw [hec]
    have hcase:(n < nLn (toL s) ∧ endB x = true ∧ splL 32 (cutL x) = lnW (toL s) n) ∨ (n = nLn (toL s) ∧ lastP (toL s) ≠ [] ∧ endB x = false):=by
      by_cases hlt:n < nLn (toL s)
      · have hx':=lin_at hlt
        rw [hx] at hx'
        obtain rfl:=Option.some.inj hx'
        obtain ⟨q1,q2⟩:=endB_nl ((splL 10 (toL s)).getD n [])
        exact .inl ⟨hlt,q1,by rw [q2];rfl⟩
      · obtain ⟨e1,e2,e3⟩:=lin_end hx (by omega)
        subst e2
        exact .inr ⟨e1,e3,endB_last⟩
    generalize hO:okW (splL 32 (cutL x)) = O
    have herr:endB x = false ∨ O = false → txE (toL s) = 25 ∧ txI (toL s) = (n:Int) ∧ txL (toL s) = []:=fun h=>tx_bad hl hz (by
      rcases hcase with ⟨c1,c2,c3⟩ | ⟨c1,c2,c3⟩
      · refine .inl ⟨c1,?_⟩
        rw [← c3,hO]
        rcases h with h | h
        · rw [c2] at h;cases h
        · exact h
      · exact .inr ⟨c1,c2⟩)
    have hgood:endB x = true → O = true → n < nLn (toL s) ∧ okW (lnW (toL s) n) = true ∧ X = entW (lnW (toL s) n):=fun h1 h2=>by
      rcases hcase with ⟨c1,c2,c3⟩ | ⟨c1,c2,c3⟩
      · have ho:okW (lnW (toL s) n) = true:=by rw [← c3,hO];exact h2
        exact ⟨c1,ho,by rw [← hX,c3,parX_ok ho]⟩
      · rw [c3] at h1;cases h1
    generalize endB x = E at herr hgood
    (refine m_v rfl rfl ?_;refine tr_val (rk_extract (.of rfl) rfl) rfl ?_;refine tr_val (rk_extract (.of rfl) rfl) rfl ?_;refine tr_new (rk_alloc rfl) rfl (fun _ _=>?_);refine tr_store (.of rfl) (.of rfl) .here rfl rfl (okc_cons rfl (okc_cons rfl (okc_cons rfl (okc_cons rfl (okc_cons rfl (okc_cons rfl okc_nil)))))) (lenb rfl) norm_ ?_;refine a_s rfl rfl ?_;refine n_t ?_;refine tr_seq ?_;refine s_r ?_;refine m_v rfl rfl ?_;refine tr_val (rk_not (.of rfl)) rfl ?_;refine m_v rfl rfl ?_;refine v_g rfl rfl rfl rfl ?_;refine tr_vG1 rfl rfl inferInstance (fun hg hgp=>(rk_not (.ofg hg rfl))) rfl ?_;refine tr_val (rk_pick_or (.of rfl) rfl) rfl ?_;refine n_t ?_;refine c_b rfl (fun hcd=>?_) (fun hcd=>?_);refine tr_seq ?_;rotate_left;refine s_t ?_;refine tr_region ?_;refine f_a rfl rfl norm0_ ?_;refine tr_val (rk_load1 (.of rfl) (At.lit (.there (.there (.there (.there (.there .here))))) rfl)) rfl ?_;refine tr_val (rk_loadB (.of rfl) .here norm_ (by rfl)) rfl ?_;refine tr_new (rk_sliceLitN (.cons (.of rfl) .nil) rfl rfl normp_ normp_ norm_) rfl (fun _ _=>?_);rotate_right)
    · clear hgood
      refine tr_leftR 7 rfl ?_
      refine leftR_ready (rs:=[0,1]) (by kernel_rfl) (by simp) (List.forall_mem_cons.2 ⟨?_,List.forall_mem_cons.2 ⟨?_,fun _ h=>absurd h List.not_mem_nil⟩⟩)
      · refine nextR_step rfl ?_
        (refine tr_val (rk_buildL .nil norm_) rfl ?_;refine n_t ?_)
        refine leftR_ready (rs:=[1,4]) (by kernel_rfl) (by simp) (List.forall_mem_cons.2 ⟨?_,List.forall_mem_cons.2 ⟨?_,fun _ h=>absurd h List.not_mem_nil⟩⟩)
        · refine nextR_step rfl ?_
          (refine f_a rfl rfl norm0_ ?_;refine n_t ?_)
          refine leftR_ready (rs:=[2,4]) (by kernel_rfl) (by simp) (List.forall_mem_cons.2 ⟨?_,List.forall_mem_cons.2 ⟨?_,fun _ h=>absurd h List.not_mem_nil⟩⟩)
          · refine nextR_step rfl ?_
            (refine tr_val (rk_load1 (.of rfl) (At.lit (.there (.there (.there (.there (.there .here))))) rfl)) rfl ?_;refine n_t ?_)
            refine leftR_ready (rs:=[3,4]) (by kernel_rfl) (by simp) (List.forall_mem_cons.2 ⟨?_,List.forall_mem_cons.2 ⟨?_,fun _ h=>absurd h List.not_mem_nil⟩⟩)
            · refine nextR_step rfl ?_
              (refine tr_val (rk_len_slice (.of rfl)) rfl ?_;refine n_t ?_)
              refine leftR_ready (rs:=[4]) (by kernel_rfl) (by simp) (List.forall_mem_cons.2 ⟨?_,fun _ h=>absurd h List.not_mem_nil⟩)
              refine nextR_step rfl ?_
              (refine tr_store (.of rfl) (.of rfl) (.there (.there .here)) rfl rfl (okc_cons rfl okc_nil) (lenb rfl) norm_ ?_;refine n_t ?_)
              refine leftR_ready (rs:=[5]) (by kernel_rfl) (by simp) (List.forall_mem_cons.2 ⟨?_,fun _ h=>absurd h List.not_mem_nil⟩)
              refine nextR_step rfl ?_
              (refine tr_store (.of rfl) (.of rfl) (.there (.there (.there .here))) rfl rfl (okc_cons rfl okc_nil) (lenb rfl) norm_ ?_;refine n_t ?_)
              refine leftR_ready (rs:=[6]) (by kernel_rfl) (by simp) (List.forall_mem_cons.2 ⟨?_,fun _ h=>absurd h List.not_mem_nil⟩)
              refine nextR_step rfl ?_
              (refine tr_store (.of rfl) (.of rfl) (.there (.there (.there (.there .here)))) rfl rfl (okc_cons rfl okc_nil) (lenb rfl) norm_ ?_;refine n_t ?_)
              with_reducible refine leftR_done (by kernel_rfl) ?_
              (refine tr_then ?_;refine r_t ?_;refine tr_blk_ret ?_)
              apply tr_seqR n rfl
              case ht=>exact Take.there (.there (.there (.there .here)))
              case hy=>exact herr hcd
              case h2=>exact .cons (.there (.there .here)) (.cons (.there .here) (.cons .here .nil))
            · refine nextR_step rfl ?_
              (refine tr_store (.of rfl) (.of rfl) (.there (.there .here)) rfl rfl (okc_cons rfl okc_nil) (lenb rfl) norm_ ?_;refine n_t ?_)
              refine leftR_ready (rs:=[3]) (by kernel_rfl) (by simp) (List.forall_mem_cons.2 ⟨?_,fun _ h=>absurd h List.not_mem_nil⟩)
              refine nextR_step rfl ?_
              (refine tr_val (rk_len_slice (.of rfl)) rfl ?_;refine n_t ?_)
              refine leftR_ready (rs:=[5]) (by kernel_rfl) (by simp) (List.forall_mem_cons.2 ⟨?_,fun _ h=>absurd h List.not_mem_nil⟩)
              refine nextR_step rfl ?_
              (refine tr_store (.of rfl) (.of rfl) (.there (.there (.there .here))) rfl rfl (okc_cons rfl okc_nil) (lenb rfl) norm_ ?_;refine n_t ?_)
              refine leftR_ready (rs:=[6]) (by kernel_rfl) (by simp) (List.forall_mem_cons.2 ⟨?_,fun _ h=>absurd h List.not_mem_nil⟩)
              refine nextR_step rfl ?_
              (refine tr_store (.of rfl) (.of rfl) (.there (.there (.there (.there .here)))) rfl rfl (okc_cons rfl okc_nil) (lenb rfl) norm_ ?_;refine n_t ?_)
              with_reducible refine leftR_done (by kernel_rfl) ?_
              (refine tr_then ?_;refine r_t ?_;refine tr_blk_ret ?_)
              apply tr_seqR n rfl
              case ht=>exact Take.there (.there (.there (.there .here)))
              case hy=>exact herr hcd
              case h2=>exact .cons (.there (.there .here)) (.cons (.there .here) (.cons .here .nil))
          · refine nextR_step rfl ?_
            (refine tr_store (.of rfl) (.of rfl) (.there (.there .here)) rfl rfl (okc_cons rfl okc_nil) (lenb rfl) norm_ ?_;refine n_t ?_)
            refine leftR_ready (rs:=[2]) (by kernel_rfl) (by simp) (List.forall_mem_cons.2 ⟨?_,fun _ h=>absurd h List.not_mem_nil⟩)
            refine nextR_step rfl ?_
            (refine tr_val (rk_load1 (.of rfl) (At.lit (.there (.there (.there (.there (.there .here))))) rfl)) rfl ?_;refine n_t ?_)
            refine leftR_ready (rs:=[3]) (by kernel_rfl) (by simp) (List.forall_mem_cons.2 ⟨?_,fun _ h=>absurd h List.not_mem_nil⟩)
            refine nextR_step rfl ?_
            (refine tr_val (rk_len_slice (.of rfl)) rfl ?_;refine n_t ?_)
            refine leftR_ready (rs:=[5]) (by kernel_rfl) (by simp) (List.forall_mem_cons.2 ⟨?_,fun _ h=>absurd h List.not_mem_nil⟩)
            refine nextR_step rfl ?_
            (refine tr_store (.of rfl) (.of rfl) (.there (.there (.there .here))) rfl rfl (okc_cons rfl okc_nil) (lenb rfl) norm_ ?_;refine n_t ?_)
            refine leftR_ready (rs:=[6]) (by kernel_rfl) (by simp) (List.forall_mem_cons.2 ⟨?_,fun _ h=>absurd h List.not_mem_nil⟩)
            refine nextR_step rfl ?_
            (refine tr_store (.of rfl) (.of rfl) (.there (.there (.there (.there .here)))) rfl rfl (okc_cons rfl okc_nil) (lenb rfl) norm_ ?_;refine n_t ?_)
            with_reducible refine leftR_done (by kernel_rfl) ?_
            (refine tr_then ?_;refine r_t ?_;refine tr_blk_ret ?_)
            apply tr_seqR n rfl
            case ht=>exact Take.there (.there (.there (.there .here)))
            case hy=>exact herr hcd
            case h2=>exact .cons (.there (.there .here)) (.cons (.there .here) (.cons .here .nil))
        · refine nextR_step rfl ?_
          (refine tr_store (.of rfl) (.of rfl) (.there (.there .here)) rfl rfl (okc_cons rfl okc_nil) (lenb rfl) norm_ ?_;refine n_t ?_)
          refine leftR_ready (rs:=[1]) (by kernel_rfl) (by simp) (List.forall_mem_cons.2 ⟨?_,fun _ h=>absurd h List.not_mem_nil⟩)
          refine nextR_step rfl ?_
          (refine f_a rfl rfl norm0_ ?_;refine n_t ?_)
          refine leftR_ready (rs:=[2]) (by kernel_rfl) (by simp) (List.forall_mem_cons.2 ⟨?_,fun _ h=>absurd h List.not_mem_nil⟩)
          refine nextR_step rfl ?_
          (refine tr_val (rk_load1 (.of rfl) (At.lit (.there (.there (.there (.there (.there .here))))) rfl)) rfl ?_;refine n_t ?_)
          refine leftR_ready (rs:=[3]) (by kernel_rfl) (by simp) (List.forall_mem_cons.2 ⟨?_,fun _ h=>absurd h List.not_mem_nil⟩)
          refine nextR_step rfl ?_
          (refine tr_val (rk_len_slice (.of rfl)) rfl ?_;refine n_t ?_)
          refine leftR_ready (rs:=[5]) (by kernel_rfl) (by simp) (List.forall_mem_cons.2 ⟨?_,fun _ h=>absurd h List.not_mem_nil⟩)
          refine nextR_step rfl ?_
          (refine tr_store (.of rfl) (.of rfl) (.there (.there (.there .here))) rfl rfl (okc_cons rfl okc_nil) (lenb rfl) norm_ ?_;refine n_t ?_)
          refine leftR_ready (rs:=[6]) (by kernel_rfl) (by simp) (List.forall_mem_cons.2 ⟨?_,fun _ h=>absurd h List.not_mem_nil⟩)
          refine nextR_step rfl ?_
          (refine tr_store (.of rfl) (.of rfl) (.there (.there (.there (.there .here)))) rfl rfl (okc_cons rfl okc_nil) (lenb rfl) norm_ ?_;refine n_t ?_)
          with_reducible refine leftR_done (by kernel_rfl) ?_
          (refine tr_then ?_;refine r_t ?_;refine tr_blk_ret ?_)
          apply tr_seqR n rfl
          case ht=>exact Take.there (.there (.there (.there .here)))
          case hy=>exact herr hcd
          case h2=>exact .cons (.there (.there .here)) (.cons (.there .here) (.cons .here .nil))
      · refine nextR_step rfl ?_
        (refine f_a rfl rfl norm0_ ?_;refine n_t ?_)
        refine leftR_ready (rs:=[0,2]) (by kernel_rfl) (by simp) (List.forall_mem_cons.2 ⟨?_,List.forall_mem_cons.2 ⟨?_,fun _ h=>absurd h List.not_mem_nil⟩⟩)
        · refine nextR_step rfl ?_
          (refine tr_val (rk_buildL .nil norm_) rfl ?_;refine n_t ?_)
          refine leftR_ready (rs:=[2,4]) (by kernel_rfl) (by simp) (List.forall_mem_cons.2 ⟨?_,List.forall_mem_cons.2 ⟨?_,fun _ h=>absurd h List.not_mem_nil⟩⟩)
          · refine nextR_step rfl ?_
            (refine tr_val (rk_load1 (.of rfl) (At.lit (.there (.there (.there (.there (.there .here))))) rfl)) rfl ?_;refine n_t ?_)
            refine leftR_ready (rs:=[3,4]) (by kernel_rfl) (by simp) (List.forall_mem_cons.2 ⟨?_,List.forall_mem_cons.2 ⟨?_,fun _ h=>absurd h List.not_mem_nil⟩⟩)
            · refine nextR_step rfl ?_
              (refine tr_val (rk_len_slice (.of rfl)) rfl ?_;refine n_t ?_)
              refine leftR_ready (rs:=[4]) (by kernel_rfl) (by simp) (List.forall_mem_cons.2 ⟨?_,fun _ h=>absurd h List.not_mem_nil⟩)
              refine nextR_step rfl ?_
              (refine tr_store (.of rfl) (.of rfl) (.there (.there .here)) rfl rfl (okc_cons rfl okc_nil) (lenb rfl) norm_ ?_;refine n_t ?_)
              refine leftR_ready (rs:=[5]) (by kernel_rfl) (by simp) (List.forall_mem_cons.2 ⟨?_,fun _ h=>absurd h List.not_mem_nil⟩)
              refine nextR_step rfl ?_
              (refine tr_store (.of rfl) (.of rfl) (.there (.there (.there .here))) rfl rfl (okc_cons rfl okc_nil) (lenb rfl) norm_ ?_;refine n_t ?_)
              refine leftR_ready (rs:=[6]) (by kernel_rfl) (by simp) (List.forall_mem_cons.2 ⟨?_,fun _ h=>absurd h List.not_mem_nil⟩)
              refine nextR_step rfl ?_
              (refine tr_store (.of rfl) (.of rfl) (.there (.there (.there (.there .here)))) rfl rfl (okc_cons rfl okc_nil) (lenb rfl) norm_ ?_;refine n_t ?_)
              with_reducible refine leftR_done (by kernel_rfl) ?_
              (refine tr_then ?_;refine r_t ?_;refine tr_blk_ret ?_)
              apply tr_seqR n rfl
              case ht=>exact Take.there (.there (.there (.there .here)))
              case hy=>exact herr hcd
              case h2=>exact .cons (.there (.there .here)) (.cons (.there .here) (.cons .here .nil))
            · refine nextR_step rfl ?_
              (refine tr_store (.of rfl) (.of rfl) (.there (.there .here)) rfl rfl (okc_cons rfl okc_nil) (lenb rfl) norm_ ?_;refine n_t ?_)
              refine leftR_ready (rs:=[3]) (by kernel_rfl) (by simp) (List.forall_mem_cons.2 ⟨?_,fun _ h=>absurd h List.not_mem_nil⟩)
              refine nextR_step rfl ?_
              (refine tr_val (rk_len_slice (.of rfl)) rfl ?_;refine n_t ?_)
              refine leftR_ready (rs:=[5]) (by kernel_rfl) (by simp) (List.forall_mem_cons.2 ⟨?_,fun _ h=>absurd h List.not_mem_nil⟩)
              refine nextR_step rfl ?_
              (refine tr_store (.of rfl) (.of rfl) (.there (.there (.there .here))) rfl rfl (okc_cons rfl okc_nil) (lenb rfl) norm_ ?_;refine n_t ?_)
              refine leftR_ready (rs:=[6]) (by kernel_rfl) (by simp) (List.forall_mem_cons.2 ⟨?_,fun _ h=>absurd h List.not_mem_nil⟩)
              refine nextR_step rfl ?_
              (refine tr_store (.of rfl) (.of rfl) (.there (.there (.there (.there .here)))) rfl rfl (okc_cons rfl okc_nil) (lenb rfl) norm_ ?_;refine n_t ?_)
              with_reducible refine leftR_done (by kernel_rfl) ?_
              (refine tr_then ?_;refine r_t ?_;refine tr_blk_ret ?_)
              apply tr_seqR n rfl
              case ht=>exact Take.there (.there (.there (.there .here)))
              case hy=>exact herr hcd
              case h2=>exact .cons (.there (.there .here)) (.cons (.there .here) (.cons .here .nil))
          · refine nextR_step rfl ?_
            (refine tr_store (.of rfl) (.of rfl) (.there (.there .here)) rfl rfl (okc_cons rfl okc_nil) (lenb rfl) norm_ ?_;refine n_t ?_)
            refine leftR_ready (rs:=[2]) (by kernel_rfl) (by simp) (List.forall_mem_cons.2 ⟨?_,fun _ h=>absurd h List.not_mem_nil⟩)
            refine nextR_step rfl ?_
            (refine tr_val (rk_load1 (.of rfl) (At.lit (.there (.there (.there (.there (.there .here))))) rfl)) rfl ?_;refine n_t ?_)
            refine leftR_ready (rs:=[3]) (by kernel_rfl) (by simp) (List.forall_mem_cons.2 ⟨?_,fun _ h=>absurd h List.not_mem_nil⟩)
            refine nextR_step rfl ?_
            (refine tr_val (rk_len_slice (.of rfl)) rfl ?_;refine n_t ?_)
            refine leftR_ready (rs:=[5]) (by kernel_rfl) (by simp) (List.forall_mem_cons.2 ⟨?_,fun _ h=>absurd h List.not_mem_nil⟩)
            refine nextR_step rfl ?_
            (refine tr_store (.of rfl) (.of rfl) (.there (.there (.there .here))) rfl rfl (okc_cons rfl okc_nil) (lenb rfl) norm_ ?_;refine n_t ?_)
            refine leftR_ready (rs:=[6]) (by kernel_rfl) (by simp) (List.forall_mem_cons.2 ⟨?_,fun _ h=>absurd h List.not_mem_nil⟩)
            refine nextR_step rfl ?_
            (refine tr_store (.of rfl) (.of rfl) (.there (.there (.there (.there .here)))) rfl rfl (okc_cons rfl okc_nil) (lenb rfl) norm_ ?_;refine n_t ?_)
            with_reducible refine leftR_done (by kernel_rfl) ?_
            (refine tr_then ?_;refine r_t ?_;refine tr_blk_ret ?_)
            apply tr_seqR n rfl
            case ht=>exact Take.there (.there (.there (.there .here)))
            case hy=>exact herr hcd
            case h2=>exact .cons (.there (.there .here)) (.cons (.there .here) (.cons .here .nil))
        · refine nextR_step rfl ?_
          (refine tr_val (rk_load1 (.of rfl) (At.lit (.there (.there (.there (.there (.there .here))))) rfl)) rfl ?_;refine n_t ?_)
          refine leftR_ready (rs:=[0,3]) (by kernel_rfl) (by simp) (List.forall_mem_cons.2 ⟨?_,List.forall_mem_cons.2 ⟨?_,fun _ h=>absurd h List.not_mem_nil⟩⟩)
          · refine nextR_step rfl ?_
            (refine tr_val (rk_buildL .nil norm_) rfl ?_;refine n_t ?_)
            refine leftR_ready (rs:=[3,4]) (by kernel_rfl) (by simp) (List.forall_mem_cons.2 ⟨?_,List.forall_mem_cons.2 ⟨?_,fun _ h=>absurd h List.not_mem_nil⟩⟩)
            · refine nextR_step rfl ?_
              (refine tr_val (rk_len_slice (.of rfl)) rfl ?_;refine n_t ?_)
              refine leftR_ready (rs:=[4]) (by kernel_rfl) (by simp) (List.forall_mem_cons.2 ⟨?_,fun _ h=>absurd h List.not_mem_nil⟩)
              refine nextR_step rfl ?_
              (refine tr_store (.of rfl) (.of rfl) (.there (.there .here)) rfl rfl (okc_cons rfl okc_nil) (lenb rfl) norm_ ?_;refine n_t ?_)
              refine leftR_ready (rs:=[5]) (by kernel_rfl) (by simp) (List.forall_mem_cons.2 ⟨?_,fun _ h=>absurd h List.not_mem_nil⟩)
              refine nextR_step rfl ?_
              (refine tr_store (.of rfl) (.of rfl) (.there (.there (.there .here))) rfl rfl (okc_cons rfl okc_nil) (lenb rfl) norm_ ?_;refine n_t ?_)
              refine leftR_ready (rs:=[6]) (by kernel_rfl) (by simp) (List.forall_mem_cons.2 ⟨?_,fun _ h=>absurd h List.not_mem_nil⟩)
              refine nextR_step rfl ?_
              (refine tr_store (.of rfl) (.of rfl) (.there (.there (.there (.there .here)))) rfl rfl (okc_cons rfl okc_nil) (lenb rfl) norm_ ?_;refine n_t ?_)
              with_reducible refine leftR_done (by kernel_rfl) ?_
              (refine tr_then ?_;refine r_t ?_;refine tr_blk_ret ?_)
              apply tr_seqR n rfl
              case ht=>exact Take.there (.there (.there (.there .here)))
              case hy=>exact herr hcd
              case h2=>exact .cons (.there (.there .here)) (.cons (.there .here) (.cons .here .nil))
            · refine nextR_step rfl ?_
              (refine tr_store (.of rfl) (.of rfl) (.there (.there .here)) rfl rfl (okc_cons rfl okc_nil) (lenb rfl) norm_ ?_;refine n_t ?_)
              refine leftR_ready (rs:=[3]) (by kernel_rfl) (by simp) (List.forall_mem_cons.2 ⟨?_,fun _ h=>absurd h List.not_mem_nil⟩)
              refine nextR_step rfl ?_
              (refine tr_val (rk_len_slice (.of rfl)) rfl ?_;refine n_t ?_)
              refine leftR_ready (rs:=[5]) (by kernel_rfl) (by simp) (List.forall_mem_cons.2 ⟨?_,fun _ h=>absurd h List.not_mem_nil⟩)
              refine nextR_step rfl ?_
              (refine tr_store (.of rfl) (.of rfl) (.there (.there (.there .here))) rfl rfl (okc_cons rfl okc_nil) (lenb rfl) norm_ ?_;refine n_t ?_)
              refine leftR_ready (rs:=[6]) (by kernel_rfl) (by simp) (List.forall_mem_cons.2 ⟨?_,fun _ h=>absurd h List.not_mem_nil⟩)
              refine nextR_step rfl ?_
              (refine tr_store (.of rfl) (.of rfl) (.there (.there (.there (.there .here)))) rfl rfl (okc_cons rfl okc_nil) (lenb rfl) norm_ ?_;refine n_t ?_)
              with_reducible refine leftR_done (by kernel_rfl) ?_
              (refine tr_then ?_;refine r_t ?_;refine tr_blk_ret ?_)
              apply tr_seqR n rfl
              case ht=>exact Take.there (.there (.there (.there .here)))
              case hy=>exact herr hcd
              case h2=>exact .cons (.there (.there .here)) (.cons (.there .here) (.cons .here .nil))
          · refine nextR_step rfl ?_
            (refine tr_val (rk_len_slice (.of rfl)) rfl ?_;refine n_t ?_)
            refine leftR_ready (rs:=[0]) (by kernel_rfl) (by simp) (List.forall_mem_cons.2 ⟨?_,fun _ h=>absurd h List.not_mem_nil⟩)
            refine nextR_step rfl ?_
            (refine tr_val (rk_buildL .nil norm_) rfl ?_;refine n_t ?_)
            refine leftR_ready (rs:=[4]) (by kernel_rfl) (by simp) (List.forall_mem_cons.2 ⟨?_,fun _ h=>absurd h List.not_mem_nil⟩)
            refine nextR_step rfl ?_
            (refine tr_store (.of rfl) (.of rfl) (.there (.there .here)) rfl rfl (okc_cons rfl okc_nil) (lenb rfl) norm_ ?_;refine n_t ?_)
            refine leftR_ready (rs:=[5]) (by kernel_rfl) (by simp) (List.forall_mem_cons.2 ⟨?_,fun _ h=>absurd h List.not_mem_nil⟩)
            refine nextR_step rfl ?_
            (refine tr_store (.of rfl) (.of rfl) (.there (.there (.there .here))) rfl rfl (okc_cons rfl okc_nil) (lenb rfl) norm_ ?_;refine n_t ?_)
            refine leftR_ready (rs:=[6]) (by kernel_rfl) (by simp) (List.forall_mem_cons.2 ⟨?_,fun _ h=>absurd h List.not_mem_nil⟩)
            refine nextR_step rfl ?_
            (refine tr_store (.of rfl) (.of rfl) (.there (.there (.there (.there .here)))) rfl rfl (okc_cons rfl okc_nil) (lenb rfl) norm_ ?_;refine n_t ?_)
            with_reducible refine leftR_done (by kernel_rfl) ?_
            (refine tr_then ?_;refine r_t ?_;refine tr_blk_ret ?_)
            apply tr_seqR n rfl
            case ht=>exact Take.there (.there (.there (.there .here)))
            case hy=>exact herr hcd
            case h2=>exact .cons (.there (.there .here)) (.cons (.there .here) (.cons .here .nil))
    · obtain ⟨g1,g2,rfl⟩:=hgood hcd.1 hcd.2
      have hnl:=nLn_le (toL s)
      have hn5:n ≤ 5000:=by omega
      refine tr_appendB (.of rfl) (.of rfl) (.there (.there (.there (.there (.there (.there (.there .here))))))) .here norm_ (by rfl) (okc_cons rfl (okc_cons rfl (okc_cons rfl (okc_cons rfl (okc_cons rfl (okc_cons rfl okc_nil)))))) (by rfl) (by rfl) (by rfl) lenx_ (by rfl) ?_
      intro v'
      refine tr_rowSl (E:=138) (sz:=6) (v:=v') (by exact .here) fun a' cap2 e=>?_
      subst e
      (refine f_a rfl rfl norm0_ ?_;refine tr_store (.of rfl) (.of rfl) (.there (.there (.there (.there (.there (.there (.there .here))))))) rfl rfl (okc_cons rfl okc_nil) (lenb rfl) norm_ ?_;refine tr_nil ?_;refine tr_blk_normal ?_)
      apply tr_seqN (n + 1,.slice a' (n + 1) cap2)
      case ht=>exact Take.there (.there (.there (.there .here)))
      case hx=>exact ⟨rfl,g1,fun i hi=>by
        by_cases e:i = n
        · rw [e];exact g2
        · exact hz i (by omega)⟩
      case h2=>
        show Takes _ [blk b2 (.cells #[.slice none 0 0] 33),blk b3 (.cells #[.int .i64 0] 3),blk b4 (.cells #[.int .i64 0] 28),blk b5 (.cells #[.slice a' (n + 1) cap2] 33),row 138 6 (.slice a' (n + 1) cap2) (n + 1) (ensL (enL (toL s) (n + 1))).flatten] _
        rw [enL_succ,show ensL (enL (toL s) n++[entW (lnW (toL s) n)]) = ensL (enL (toL s) n)++[(entW (lnW (toL s) n)).cells] by unfold ensL;rw [List.map_append];rfl,List.flatten_append,hec,List.flatten_singleton]
        exact .cons (.there (.there (.there (.there .here)))) (.cons (.there (.there (.there (.there .here)))) (.cons (.there (.there (.there (.there .here)))) (.cons .here (.cons .here .nil))))
end Go.Proofs.A1
namespace Go.Proofs.A1
open Go Go.SL
theorem join_nil_sep:∀ xs:List (List UInt8),Lib.join xs [] = xs.flatten
  | []=>rfl
  | [x]=>by simp [Lib.join,List.intercalate]
  | x :: y :: r => by
    have ih:=join_nil_sep (y :: r)
    have e:Lib.join (x :: y :: r) [] = x++Lib.join (y :: r) []:=by simp [Lib.join,List.intercalate,List.intersperse]
    rw [e,ih];rfl
theorem lineF_toL (e:En):toL (lineF e) = [101,110,116,114,121,32]++toL e.nm++[32]++toL e.mt++[32]++toL e.kd++[32]++toL (itoaB e.tm)++[32]++toL (itoaB e.ln)++[32]++toL (itoaB e.ov)++[10]:=by
  unfold lineF
  rw [toL_append]
  unfold joinB
  show Lib.join _ _++[10] = _
  simp [lineW,Lib.join,List.intercalate,List.intersperse]
end Go.Proofs.A1
namespace Go.Proofs.A1
open Go Go.SL
end Go.Proofs.A1
namespace Go.Proofs.A1
open Go Go.SL
theorem ind0w {α:Type} {l:List Oper} {i:Nat} {v:α}:Indep l i (fun _=>v):=fun _ _ _=>rfl
theorem txL_few (l:List UInt8):(txL l).length ≤ 1000:=by
  unfold txL
  split
  · rename_i h
    have h0:chkF (enL l (nLn l)) = 0:=by
      unfold txE at h
      split at h
      · exact absurd h (by decide)
      · rename_i h4
        split at h
        · exact absurd h (by decide)
        · rename_i h5
          split at h
          · exact absurd h (by decide)
          · exact h
    have hf:=(Sound.of h0).all.few
    have:=gdN_le l (nLn l)
    omega
  · exact Nat.zero_le _
end Go.Proofs.A1
