/- Parts of the proof: U9 U9r U10. -/
import Derived.Test.YthhidjfahmcekaaGreatDoorSM10
import Derived.Test.YthhidjfahmcekaaGreatDoorSM05
import Derived.Test.YthhidjfahmcekaaGreatDoorSM07
import Derived.Test.YthhidjfahmcekaaGreatDoorSM06
set_option linter.unusedSectionVars false
set_option linter.unusedVariables false
set_option linter.unusedSimpArgs false
namespace Go.Proofs.A1
open Go Go.SL
theorem setCells_app {vs:List Value}:∀ {cs cur:List Value} {o:Nat},o + vs.length ≤ cs.length → setCells (cs++cur) o vs = setCells cs o vs++cur:=by
  induction vs with
  | nil=>intro cs cur o _;rfl
  | cons v vs ih =>
    intro cs cur o h
    simp only [List.length_cons] at h
    rw [setCells,setCells,List.set_append_left _ _ (by omega),ih (by simp;omega)]
theorem setCells_full {cs vs:List Value} (h:vs.length = cs.length):setCells cs 0 vs = vs:=by
  apply List.ext_getElem?
  intro k
  rw [setCells_get _ _ _ _ (by omega)]
  by_cases hk:k < vs.length
  · rw [if_pos (by omega),Nat.sub_zero]
  · rw [if_neg (by omega),List.getElem?_eq_none (by omega),List.getElem?_eq_none (by omega)]
theorem tab_put {n sz i:Nat} {f:Nat → List Value} {vs:List Value} (hf:∀ i,i < n → (f i).length = sz) (hi:i < n) (hv:vs.length = sz):setCells (tab n f) (i * sz) vs = tab n (fun k=>if k = i then vs else f k):=by
  have:=tab_set (o:=0) hf hi (by omega:0 + vs.length ≤ sz)
  rw [Nat.add_zero] at this
  rw [this]
  apply tab_congr
  intro k _
  show (if k = i then _ else _) = (if k = i then _ else _)
  split
  · exact setCells_full (by rw [hf i hi,hv])
  · rfl
theorem cellsAt_app {cs cur:List Value} {o n:Nat} (h:o + n ≤ cs.length):cellsAt (cs++cur) o n = cellsAt cs o n:=by
  rw [cellsAt_eq,cellsAt_eq,List.drop_append_of_le_length (by omega),List.take_append_of_le_length (by rw [List.length_drop];omega)]
def wrtF (s:Stm):List Int:=if stmE s = 0 then wordF s else List.replicate 10 0
theorem written_c (s:Stm) (w:World) (hG:GlobR w):GivesV Tryz.prog 34 [.agg s.cells.toArray] w (.tuple #[.agg (wcells (wrtF s)).toArray,.int .i64 (stmE s)]):=by
  refine givesV_of_tr Tryz.func34 rfl rfl ?_
  unfold wrtF
  by_cases h:stmE s = 0
  · have hs:=stmE_zero.1 h
    rw [if_pos h]
    unfold Stm.cells
    (refine s_r ?_;refine tr_new (rk_box (.of rfl) rfl) rfl (fun _ _=>?_);refine tr_new (rk_alloc rfl) rfl (fun _ _=>?_);refine a_s rfl rfl ?_;refine n_t ?_;refine tr_seq ?_;refine s_r ?_;refine tr_val (rk_loadB (.of rfl) (.there .here) norm_ (by rfl)) rfl ?_;refine tr_callV (rk_call (.of rfl) (.cons (.of rfl) .nil) inferInstance normc_) rfl (fun w' hm'=>(chkStamp_c s w' (GlobR.keeps hG (Mem.keeps hm')))) ?_;refine a_s rfl rfl ?_;refine n_r ?_;refine m_v rfl rfl ?_;refine tr_val (rk_neq (.of rfl) (.of rfl)) rfl ?_;refine n_t ?_;refine c_d rfl (fun _=>by omega) (fun hcd=>?_);refine s_t ?_;refine s_r ?_;refine tr_val (rk_loadB (.of rfl) (.there .here) norm_ (by rfl)) rfl ?_;refine tr_callV (rk_call (.of rfl) (.cons (.of rfl) .nil) inferInstance normc_) rfl (fun w' hm'=>(word_c s hs w')) ?_;refine tr_store (.of rfl) (.of rfl) .here rfl rfl (okc_cons rfl (okc_cons rfl (okc_cons rfl (okc_cons rfl (okc_cons rfl (okc_cons rfl (okc_cons rfl (okc_cons rfl (okc_cons rfl (okc_cons rfl okc_nil)))))))))) (lenb rfl) norm_ ?_;refine a_s rfl rfl ?_;refine n_t ?_;refine tr_ret ?_;refine tr_retE rfl (endsCT rfl inferInstance rfl .here norm_ (by rfl) (by rfl)) ?_)
    rw [setCells_full (by rfl),h];rfl
  · rw [if_neg h]
    unfold Stm.cells
    (refine s_r ?_;refine tr_new (rk_box (.of rfl) rfl) rfl (fun _ _=>?_);refine tr_new (rk_alloc rfl) rfl (fun _ _=>?_);refine a_s rfl rfl ?_;refine n_t ?_;refine tr_seq ?_;refine s_r ?_;refine tr_val (rk_loadB (.of rfl) (.there .here) norm_ (by rfl)) rfl ?_;refine tr_callV (rk_call (.of rfl) (.cons (.of rfl) .nil) inferInstance normc_) rfl (fun w' hm'=>(chkStamp_c s w' (GlobR.keeps hG (Mem.keeps hm')))) ?_;refine a_s rfl rfl ?_;refine n_r ?_;refine m_v rfl rfl ?_;refine tr_val (rk_neq (.of rfl) (.of rfl)) rfl ?_;refine n_t ?_;refine c_d rfl (fun hcd=>?_) (fun _=>by omega);refine s_r ?_;refine tr_val (rk_buildL .nil norm_) rfl ?_;refine m_v rfl rfl ?_;refine tr_store (.of rfl) (.of rfl) .here rfl rfl (okc_cons rfl (okc_cons rfl (okc_cons rfl (okc_cons rfl (okc_cons rfl (okc_cons rfl (okc_cons rfl (okc_cons rfl (okc_cons rfl (okc_cons rfl okc_nil)))))))))) (lenb rfl) norm_ ?_;refine a_s rfl rfl ?_;refine n_t ?_;refine r_t ?_;refine tr_retE rfl (endsCT rfl inferInstance rfl .here norm_ (by rfl) (by rfl)) ?_)
    rfl
theorem whenF_if {p:Prop} [Decidable p] {e:Int}:whenF (decide p) e = if p then e else 0:=by
  by_cases h:p <;> simp [whenF,h]
theorem chkBytes_c (a:Option Addr) (n cp:Nat) (w:World):GivesV Tryz.prog 121 [.slice a n cp] w (.int .i64 (hrdE n)):=by
  have e:whenF (decide ((4000:Int) < (n:Nat))) 5 = hrdE n:=by
    rw [whenF_if,hrdE]
    by_cases h:4000 < n
    · rw [if_pos (by omega),if_pos h]
    · rw [if_neg (by omega),if_neg h]
  refine givesV_of_tr Tryz.func121 rfl rfl ?_
  (refine s_r ?_;refine a_s rfl rfl ?_;refine n_r ?_;refine m_v rfl rfl ?_;refine tr_val (rk_len_slice (.of rfl)) rfl ?_;refine tr_val (rk_gtr (.of rfl) (.of rfl)) rfl ?_;refine tr_callV (rk_call (.of rfl) (.cons (.of rfl) (.cons (.of rfl) .nil)) inferInstance normc_) rfl (fun w' hm'=>(when_c _ 5 w')) ?_;refine a_s rfl rfl ?_;refine n_t ?_;refine tr_ret ?_;refine tr_retE rfl (ends1 rfl rfl) ?_)
  rw [e]
theorem trnP_succ (b:Int) (k:Nat):trnP b (k + 1) = orF (trnP b k) (IntKind.u8.wrap (andF (b / 2 ^ k) 1 * 2 ^ (7 - k))):=rfl
theorem turned_c (b:Int) (hb:0 ≤ b ∧ b ≤ 255) (w:World):GivesV Tryz.prog 134 [.int .u8 b] w (.int .u8 (trnQ b 8)):=by
  rw [← (trn_byte hb).1]
  refine givesV_of_tr Tryz.func134 rfl rfl ?_
  (refine s_r ?_;refine a_s rfl rfl ?_;refine n_r ?_;refine a_s rfl rfl ?_;refine n_t ?_;refine tr_seq ?_;refine s_r ?_;refine m_v rfl rfl ?_;refine n_t ?_;refine tr_block ?_)
  refine tr_for (fun k:Nat=>k ≤ 8) (fun k=>[(5,.int .i64 k),(3,.int .u8 (trnP b k)),(0,.int .u8 b)]) (fun _=>[]) (fun k=>8 - k) ?_ ?_
  · apply tr_start 0 (show (0:Nat) ≤ 8 by omega)
    case hs1=>exact .cons rfl (.cons rfl (.cons rfl .nil))
    case ht=>(try simp only [List.take_zero,List.map_nil,List.nil_append]);exact .nil
  intro k hk
  by_cases hlt:k < 8
  · have h7:0 ≤ (7:Int) - k ∧ (7:Int) - k ≤ 7:=by omega
    have e7:((7:Int) - k).toNat = 7 - k:=by omega
    have ek:((k:Nat):Int).toNat = k:=by omega
    have hs:=trnP_succ b k
    (refine s_r ?_;refine tr_val (rk_lss (.of rfl) (.of rfl)) rfl ?_;refine n_t ?_;refine tr_seq ?_;refine c_d rfl (fun hcd=>?_) (fun _=>by omega);refine s_t ?_;refine tr_seq ?_;refine tr_block ?_;refine s_r ?_;refine m_v rfl rfl ?_;refine a_s rfl rfl ?_;refine n_t ?_;refine tr_region ?_;refine m_v rfl rfl ?_;refine m_v rfl rfl ?_;refine m_v rfl rfl ?_)
    refine tr_val (rk_shr (.of rfl) (.of rfl) (by omega) (by show (k:Int) ≤ 8;omega)) rfl ?_
    (refine tr_val (rk_and8 (.of rfl) (.of rfl)) rfl ?_;refine m_v rfl rfl ?_;refine tr_val (rk_sub (.of rfl) (.of rfl) (ini (by omega))) rfl ?_)
    refine tr_val (rk_shl (.of rfl) (.of rfl) (by omega) (by show (7:Int) - k ≤ 8;omega)) rfl ?_
    (refine tr_val (rk_or8 (.of rfl) (.of rfl)) rfl ?_;refine a_s rfl rfl ?_;refine tr_nil ?_;refine tr_blk_normal ?_;refine tr_then ?_;refine tr_region ?_;refine tr_val (rk_add (.of rfl) (.of rfl) (ini (by omega))) rfl ?_;refine m_v rfl rfl ?_;refine n_t ?_)
    rw [e7,ek,← hs]
    apply tr_next (k + 1) (by omega) (by omega)
    case hs1=>exact .cons rfl (.cons rfl (.cons rfl .nil))
    case ht=>(try simp only [List.take_zero,List.map_nil,List.nil_append]);exact .nil
  · obtain rfl:k = 8:=by omega
    (refine s_r ?_;refine tr_val (rk_lss (.of rfl) (.of rfl)) rfl ?_;refine n_t ?_;refine tr_seq ?_;refine c_d rfl (fun _=>by omega) (fun hcd=>?_);refine x_t ?_;refine tr_then_exit ?_;refine tr_blk_exit ?_;refine tr_then ?_;refine s_r ?_;refine m_v rfl rfl ?_;refine a_s rfl rfl ?_;refine n_t ?_;refine tr_ret ?_;refine tr_retE rfl (ends1 rfl rfl) ?_)
    rfl
def trnL (l:List Int):List Int:=l.map fun b=>trnQ b 8
theorem trnL_len (l:List Int):(trnL l).length = l.length:=List.length_map _
def trnV (l:List Int):List Value:=bytsV (trnL l)
theorem trnV_len (l:List Int):(trnV l).length = l.length * 1:=by unfold trnV;rw [bytsV_len,trnL_len]
theorem mapBy_c {lv:Value} {l:List Int} (hby:∀ x ∈ l,0 ≤ x ∧ x ≤ 255) {w:World} (h:Rd w lv 1 (byts l)) (hfew:l.length ≤ 4000) :
    Gives Tryz.prog 133 [lv,.func (.func 134) #[] #[]] w [] (fun _:Value=>True) id (fun v=>[row 5 1 v l.length (trnV l)]):=by
  obtain ⟨a,cp,b,o,rfl,hcap,hmax,ha,hc⟩:=h
  rw [byts_length] at *
  unfold maxLen at hmax
  refine gives_of_tr Tryz.func133 rfl rfl ?_
  (refine s_r ?_;refine a_s rfl rfl ?_;refine n_r ?_;refine a_s rfl rfl ?_;refine n_t ?_;refine tr_seq ?_;refine s_r ?_;refine m_v rfl rfl ?_;refine tr_val (rk_len_slice (.of rfl)) rfl ?_;refine m_v rfl rfl ?_;refine n_t ?_;refine tr_block ?_)
  refine tr_rowNil 5 1 ?_
  refine tr_for (ι:=Nat × Value) (fun x=>x.1 ≤ l.length) (fun x=>[(10,.int .i64 x.1),(9,.int .i64 l.length),(8,.slice a l.length cp),(5,x.2),(1,.func (.func 134) #[] #[])]) (fun x=>[row 5 1 x.2 x.1 (trnV (l.take x.1))]) (fun x=>l.length - x.1) ?_ ?_
  · apply tr_start (0,.slice none 0 0) (Nat.zero_le _)
    case hs1=>exact .cons rfl (.cons rfl (.cons rfl (.cons rfl (.cons rfl .nil))))
    case ht=>
      show Takes _ [row 5 1 (.slice none 0 0) 0 []] _
      exact .cons .here .nil
  rintro ⟨k,v⟩ hk
  dsimp only at hk ⊢
  by_cases hlt:k < l.length
  · have ha':=ha (byts_ne hlt)
    have hcell:=(hc k _ (byts_get hlt)).2
    have htk:trnV (l.take (k + 1)) = trnV (l.take k)++[.int .u8 (trnQ l[k] 8)]:=by rw [List.take_succ_eq_append_getElem hlt];unfold trnV trnL;rw [List.map_append,bytsV_app];rfl
    have hlk:(l.take k).length = k:=List.length_take_of_le (by omega)
    have hol:(trnV (l.take k)).length = k * 1:=by rw [trnV_len,hlk]
    have c0:w.cell? ⟨b,o + k * 1,none⟩ = some (.int .u8 l[k]):=hcell 0 _ rfl
    have hcl:∀ w,GivesV Tryz.prog 134 [.int .u8 l[k]] w (.int .u8 (trnQ l[k] 8)):=fun w=>turned_c _ (hby _ (List.getElem_mem hlt)) w
    (refine s_r ?_;refine tr_val (rk_lss (.of rfl) (.of rfl)) rfl ?_;refine n_t ?_;refine tr_seq ?_;refine c_d rfl (fun hcd=>?_) (fun _=>by omega);refine s_t ?_;refine tr_seq ?_;refine tr_block ?_;refine s_r ?_;refine tr_val (rk_indexAddr (.of rfl) (.of rfl) ha' (by omega) hcd norm1_) rfl ?_;refine tr_val (rk_load1 (.of rfl) (At.base c0 rfl)) rfl ?_;refine a_s rfl rfl ?_;refine n_t ?_;refine tr_region ?_;refine m_v rfl rfl ?_;refine m_v rfl rfl ?_;refine m_v rfl rfl ?_;refine tr_callV (rk_call (.of rfl) (.cons (.of rfl) .nil) inferInstance normc_) rfl (fun w' hm'=>(hcl w')) ?_;refine tr_new (rk_sliceLit (.cons (.of rfl) .nil) rfl rfl rfl rfl) rfl (fun _ _=>?_))
    refine tr_appendB (.of rfl) (.of rfl) (.there .here) .here norm_ (by rfl) (okc_cons rfl okc_nil) (by rfl) (by rfl) (by rfl) lenx_ (by rfl) ?_
    intro v'
    (refine a_s rfl rfl ?_;refine tr_nil ?_;refine tr_blk_normal ?_;refine tr_then ?_;refine tr_region ?_;refine tr_val (rk_add (.of rfl) (.of rfl) (ini (by omega))) rfl ?_;refine m_v rfl rfl ?_;refine n_t ?_)
    apply tr_next (k + 1,v') (by show k + 1 ≤ l.length;omega) (by show l.length - (k + 1) < l.length - k;omega)
    case hs1=>exact .cons rfl (.cons rfl (.cons rfl (.cons rfl (.cons rfl .nil))))
    case ht=>
      show Takes _ [row 5 1 v' (k + 1) (trnV (l.take (k + 1)))] _
      rw [htk]
      exact .cons .here .nil
  · obtain rfl:k = l.length:=by omega
    rw [List.take_length]
    (refine s_r ?_;refine tr_val (rk_lss (.of rfl) (.of rfl)) rfl ?_;refine n_t ?_;refine tr_seq ?_;refine c_d rfl (fun _=>by omega) (fun hcd=>?_);refine x_t ?_;refine tr_then_exit ?_;refine tr_blk_exit ?_;refine tr_then ?_;refine s_r ?_;refine m_v rfl rfl ?_;refine a_s rfl rfl ?_;refine n_t ?_;refine tr_ret ?_)
    first | with_reducible apply tr_retM | with_reducible apply tr_endM
    case he=>exact ends1 rfl rfl
    case hR=>
      intro w' hm'
      exact gives_end v trivial (by exact .cons .here .nil) hm' rfl
end Go.Proofs.A1
namespace Go.Proofs.A1
open Go Go.SL
def swp (B:Nat → Int) (m k:Nat):Nat → Int:=fun x=>if x < k ∨ m - k ≤ x then B (m - 1 - x) else B x
def u1 (B:Nat → Int):Nat → List Value:=fun i=>[.int .u8 (B i)]
theorem u1_len (B:Nat → Int) (m:Nat):∀ i,i < m → (u1 B i).length = 1:=fun _ _=>rfl
theorem u1_get {B:Nat → Int} {m i:Nat} (cur:List Value) (h:i < m):(tab m (u1 B)++cur)[i * 1]? = some (.int .u8 (B i)):=by
  have hl:=tab_length (u1_len B m)
  rw [List.getElem?_append_left (by rw [hl];omega)]
  exact tab_get (j:=0) (u1_len B m) h (by omega)
theorem u1_put {B C:Nat → Int} {m i:Nat} {v:Int} (cur:List Value) (h:i < m) (hC:∀ k,k < m → C k = if k = i then v else B k):setCells (tab m (u1 B)++cur) (i * 1) [.int .u8 v] = tab m (u1 C)++cur:=by
  have hl:=tab_length (u1_len B m)
  rw [setCells_app (by rw [hl];simp;omega),tab_put (u1_len B m) h rfl]
  congr 1
  apply tab_congr
  intro k hk
  unfold u1
  rw [hC k hk]
  split <;> rfl
set_option maxHeartbeats 4000000 in
theorem rev_tab {w:World} {fp:List Nat} {v:Value} {m:Nat} {B:Nat → Int} (hm:0 < m) (hm64:m ≤ 1000000) (hn:fp.Nodup) (hs:Sats (hp w) [row 5 1 v m (tab m (u1 B))] fp) :
    Gives Tryz.prog 135 [v] w fp (fun _:Unit=>True) (fun _=>.tuple #[]) (fun _=>[row 5 1 v m (tab m (u1 fun i=>B (m - 1 - i)))]):=by
  refine givesM_of_tr Tryz.func135 rfl rfl hn hs ?_
  refine tr_rowOpen (by exact .here) hm ?_
  rintro g cap cur rfl hcap hmx hsz hxl
  have hlen:=tab_length (u1_len B m)
  (refine s_r ?_;refine m_v rfl rfl ?_;refine tr_val (rk_len_slice (.of rfl)) rfl ?_;refine tr_val (rk_sub (.of rfl) (.of rfl) (ini (by omega))) rfl ?_;refine a_s rfl rfl ?_;refine a_s rfl rfl ?_;refine n_t ?_;refine tr_block ?_)
  refine tr_for (fun k:Nat=>2 * k ≤ m) (fun k=>[(2,.int .i64 k),(3,.int .i64 ((m - 1 - k:Nat):Int)),(0,.slice (some ⟨g,0,none⟩) m cap)]) (fun k=>[blk g (.cells (tab m (u1 (swp B m k))++cur).toArray 5 (0,0))]) (fun k=>m - 2 * k) ?_ ?_
  · apply tr_start 0 (by omega)
    case hs1=>exact .cons rfl (.consE rfl (by congr 1;omega) (.cons rfl .nil))
    case ht=>
      rw [show tab m (u1 (swp B m 0)) = tab m (u1 B) from tab_congr fun i hi=>by unfold u1 swp;rw [if_neg (by omega)]]
      exact .cons .here .nil
  intro k hk
  have hlk:=tab_length (u1_len (swp B m k) m)
  by_cases hlt:k < m - 1 - k
  · have hj:m - 1 - k < m:=by omega
    have hki:k < m:=by omega
    have c1:=u1_get (B:=swp B m k) cur hki
    have c2:=u1_get (B:=swp B m k) cur hj
    have he1:=u1_put (C:=fun i=>if i = k then swp B m k (m - 1 - k) else swp B m k i) cur hki (v:=swp B m k (m - 1 - k)) (B:=swp B m k) fun i _=>rfl
    have he2:=u1_put (C:=swp B m (k + 1)) cur hj (v:=swp B m k k) (B:=fun i=>if i = k then swp B m k (m - 1 - k) else swp B m k i) fun i hi=>by
      symm
      unfold swp
      by_cases e1:i = m - 1 - k
      · subst e1
        rw [if_pos rfl,if_neg (by omega),if_pos (by omega)]
        congr 1;omega
      · rw [if_neg e1]
        by_cases e2:i = k
        · subst e2
          rw [if_pos rfl,if_neg (by omega),if_pos (by omega)]
        · rw [if_neg e2]
          by_cases e3:i < k ∨ m - k ≤ i
          · rw [if_pos e3,if_pos (by omega)]
          · rw [if_neg e3,if_neg (by omega)]
    have hb1:k * 1 + 1 ≤ (tab m (u1 (swp B m k))++cur).length:=by rw [List.length_append,hlk];omega
    have hb2:(m - 1 - k) * 1 + 1 ≤ (tab m (u1 (fun i=>if i = k then swp B m k (m - 1 - k) else swp B m k i))++cur).length:=by rw [List.length_append,tab_length (u1_len _ m)];omega
    (refine tr_seq ?_;refine s_r ?_;refine m_v rfl rfl ?_;refine m_v rfl rfl ?_;refine tr_val (rk_lss (.of rfl) (.of rfl)) rfl ?_;refine n_t ?_;refine c_d rfl (fun hcd=>?_) (fun _=>by omega);refine s_t ?_;refine tr_seq ?_;refine tr_block ?_)
    with_reducible refine tr_left 16 rfl ?_
    (refine left_take 0 rfl kr_ kr_ kr_ (fun w ρ=>rfl) (fun w=>(rk_move (.of rfl))) rfl ?_;refine left_take 1 rfl kr_ kr_ kr_ (fun w ρ=>rfl) (fun w=>(rk_move (.of rfl))) rfl ?_;refine left_take 2 rfl kr_ kr_ kr_ (fun w ρ=>rfl) (fun w=>(rk_move (.of rfl))) rfl ?_;refine left_take 3 rfl kr_ kr_ kr_ (fun w ρ=>rfl) (fun w=>(rk_move (.of rfl))) rfl ?_;refine left_take 4 rfl kr_ kr_ kr_ (fun w ρ=>rfl) (fun w=>(rk_move (.of rfl))) rfl ?_;refine left_take 5 rfl kr_ kr_ kr_ (fun w ρ=>rfl) (fun w=>(rk_move (.of rfl))) rfl ?_;refine left_take 6 rfl kr_ kr_ kr_ (fun w ρ=>rfl) (fun w=>(rk_indexAddr (.of rfl) (.of rfl) rfl (by omega) (by omega) norm1_)) rfl ?_;refine left_take 8 rfl kr_ kr_ kr_ (fun w ρ=>rfl) (fun w=>(rk_move (.of rfl))) rfl ?_;refine left_take 9 rfl kr_ kr_ kr_ (fun w ρ=>rfl) (fun w=>(rk_move (.of rfl))) rfl ?_;refine left_take 10 rfl kr_ kr_ kr_ (fun w ρ=>rfl) (fun w=>(rk_indexAddr (.of rfl) (.of rfl) rfl (by omega) (by omega) norm1_)) rfl ?_)
    refine left_ready (rs:=[7,11]) (by kernel_rfl) (by simp) (List.forall_mem_cons.2 ⟨?_,List.forall_mem_cons.2 ⟨?_,fun _ h=>absurd h List.not_mem_nil⟩⟩)
    · refine next_step rfl ?_
      (refine tr_val (rk_load1 (.of rfl) (At.blkL .here c2)) rfl ?_;refine n_t ?_)
      · refine left_ready (rs:=[11]) (by kernel_rfl) (by simp) (List.forall_mem_cons.2 ⟨?_,fun _ h=>absurd h List.not_mem_nil⟩)
        refine next_step rfl ?_
        (refine tr_val (rk_load1 (.of rfl) (At.blkL .here c1)) rfl ?_;refine n_t ?_)
        refine left_take 12 rfl kr_ kr_ kr_ (fun w ρ=>rfl) (fun w=>(rk_indexAddr (.of rfl) (.of rfl) rfl (by omega) (by omega) norm1_)) rfl ?_
        refine left_ready (rs:=[13]) (by kernel_rfl) (by simp) (List.forall_mem_cons.2 ⟨?_,fun _ h=>absurd h List.not_mem_nil⟩)
        refine next_step rfl ?_
        with_reducible apply tr_store
        case hx=>exact Is.of rfl
        case hy=>exact Is.of rfl
        case ht=>exact .here
        case hv=>exact rfl
        case hl=>rfl
        case h1=>exact okc_cons rfl okc_nil
        case h2=>exact hb1
        case he=>exact he1
        (refine n_t ?_)
        refine left_take 14 rfl kr_ kr_ kr_ (fun w ρ=>rfl) (fun w=>(rk_indexAddr (.of rfl) (.of rfl) rfl (by omega) (by omega) norm1_)) rfl ?_
        refine left_ready (rs:=[15]) (by kernel_rfl) (by simp) (List.forall_mem_cons.2 ⟨?_,fun _ h=>absurd h List.not_mem_nil⟩)
        refine next_step rfl ?_
        with_reducible apply tr_store
        case hx=>exact Is.of rfl
        case hy=>exact Is.of rfl
        case ht=>exact .here
        case hv=>exact rfl
        case hl=>rfl
        case h1=>exact okc_cons rfl okc_nil
        case h2=>exact hb2
        case he=>exact he2
        (refine n_t ?_)
        with_reducible refine left_done (by kernel_rfl) ?_
        (refine tr_blk_normal ?_;refine tr_then ?_;refine tr_region ?_;refine m_v rfl rfl ?_;refine tr_val (rk_add (.of rfl) (.of rfl) (ini (by omega))) rfl ?_;refine m_v rfl rfl ?_;refine tr_val (rk_sub (.of rfl) (.of rfl) (ini (by omega))) rfl ?_;refine a_s rfl rfl ?_;refine a_s rfl rfl ?_;refine n_t ?_)
        apply tr_next (k + 1) (by omega) (by omega)
        case hs1=>exact .cons rfl (.consE rfl (by congr 1;omega) (.cons rfl .nil))
        case ht=>exact .cons .here .nil
    · refine next_step rfl ?_
      (refine tr_val (rk_load1 (.of rfl) (At.blkL .here c1)) rfl ?_;refine n_t ?_)
      · refine left_ready (rs:=[7]) (by kernel_rfl) (by simp) (List.forall_mem_cons.2 ⟨?_,fun _ h=>absurd h List.not_mem_nil⟩)
        refine next_step rfl ?_
        (refine tr_val (rk_load1 (.of rfl) (At.blkL .here c2)) rfl ?_;refine n_t ?_)
        refine left_take 12 rfl kr_ kr_ kr_ (fun w ρ=>rfl) (fun w=>(rk_indexAddr (.of rfl) (.of rfl) rfl (by omega) (by omega) norm1_)) rfl ?_
        refine left_ready (rs:=[13]) (by kernel_rfl) (by simp) (List.forall_mem_cons.2 ⟨?_,fun _ h=>absurd h List.not_mem_nil⟩)
        refine next_step rfl ?_
        with_reducible apply tr_store
        case hx=>exact Is.of rfl
        case hy=>exact Is.of rfl
        case ht=>exact .here
        case hv=>exact rfl
        case hl=>rfl
        case h1=>exact okc_cons rfl okc_nil
        case h2=>exact hb1
        case he=>exact he1
        (refine n_t ?_)
        refine left_take 14 rfl kr_ kr_ kr_ (fun w ρ=>rfl) (fun w=>(rk_indexAddr (.of rfl) (.of rfl) rfl (by omega) (by omega) norm1_)) rfl ?_
        refine left_ready (rs:=[15]) (by kernel_rfl) (by simp) (List.forall_mem_cons.2 ⟨?_,fun _ h=>absurd h List.not_mem_nil⟩)
        refine next_step rfl ?_
        with_reducible apply tr_store
        case hx=>exact Is.of rfl
        case hy=>exact Is.of rfl
        case ht=>exact .here
        case hv=>exact rfl
        case hl=>rfl
        case h1=>exact okc_cons rfl okc_nil
        case h2=>exact hb2
        case he=>exact he2
        (refine n_t ?_)
        with_reducible refine left_done (by kernel_rfl) ?_
        (refine tr_blk_normal ?_;refine tr_then ?_;refine tr_region ?_;refine m_v rfl rfl ?_;refine tr_val (rk_add (.of rfl) (.of rfl) (ini (by omega))) rfl ?_;refine m_v rfl rfl ?_;refine tr_val (rk_sub (.of rfl) (.of rfl) (ini (by omega))) rfl ?_;refine a_s rfl rfl ?_;refine a_s rfl rfl ?_;refine n_t ?_)
        apply tr_next (k + 1) (by omega) (by omega)
        case hs1=>exact .cons rfl (.consE rfl (by congr 1;omega) (.cons rfl .nil))
        case ht=>exact .cons .here .nil
  · have hrev:tab m (u1 (swp B m k)) = tab m (u1 fun i=>B (m - 1 - i)):=tab_congr fun i hi=>by
      unfold u1 swp
      by_cases e:i < k ∨ m - k ≤ i
      · rw [if_pos e]
      · rw [if_neg e];show [Value.int .u8 (B i)] = [Value.int .u8 (B (m - 1 - i))];rw [show m - 1 - i = i by omega]
    rw [hrev]
    have hl2:=tab_length (u1_len (fun i=>B (m - 1 - i)) m)
    refine tr_rowShut (n:=m) (cap:=cap) (sz:=1) (show Take _ (blk g (.cells ((tab m (u1 fun i=>B (m - 1 - i)))++cur).toArray 5 (0,0))) _ by exact .here) hcap hmx (by rw [List.length_append,hl2];rw [List.length_append,hxl] at hsz;omega) hl2 ?_
    (refine tr_seq ?_;refine s_r ?_;refine m_v rfl rfl ?_;refine m_v rfl rfl ?_;refine tr_val (rk_lss (.of rfl) (.of rfl)) rfl ?_;refine n_t ?_;refine c_d rfl (fun _=>by omega) (fun hcd=>?_);refine x_t ?_;refine tr_then_exit ?_;refine tr_blk_exit ?_)
    first | with_reducible apply tr_retM | with_reducible apply tr_endM
    case he=>exact ends0 rfl
    case hR=>
      intro w' hm'
      exact gives_end () trivial (show Takes _ [row 5 1 (.slice (some ⟨g,0,none⟩) m cap) m (tab m (u1 fun i=>B (m - 1 - i)))] _ by exact .cons .here .nil) hm' rfl
theorem byts_tab (l:List Int):bytsV l = tab l.length (u1 fun i=>l.getD i 0):=by
  rw [bytsV_eq,tab_eq_map]
  apply List.ext_getElem?
  intro k
  have h1:((List.range l.length).map (u1 fun i=>l.getD i 0)).flatten = (List.range l.length).map fun i=>Value.int .u8 (l.getD i 0):=by
    have:=flatten_singletons ((List.range l.length).map fun i=>Value.int .u8 (l.getD i 0))
    rw [List.map_map] at this
    exact this
  rw [h1]
  by_cases h:k < l.length
  · simp [h,List.getD_eq_getElem?_getD]
  · simp [h]
theorem byts_rev (l:List Int):bytsV l.reverse = tab l.length (u1 fun i=>l.getD (l.length - 1 - i) 0):=by
  rw [byts_tab,List.length_reverse]
  apply tab_congr
  intro i hi
  show [Value.int .u8 (l.reverse.getD i 0)] = [Value.int .u8 (l.getD (l.length - 1 - i) 0)]
  rw [List.getD_eq_getElem?_getD,List.getD_eq_getElem?_getD,List.getElem?_reverse hi]
theorem reverse_c {w:World} {fp:List Nat} {v:Value} {l:List Int} {n:Nat} (hl:n = l.length) (hm:n ≤ 1000000) (hn:fp.Nodup) (hs:Sats (hp w) [row 5 1 v n (bytsV l)] fp) :
    Gives Tryz.prog 135 [v] w fp (fun _:Unit=>True) (fun _=>.tuple #[]) (fun _=>[row 5 1 v n (bytsV l.reverse)]):=by
  subst hl
  by_cases h0:0 < l.length
  · rw [byts_tab] at hs
    rw [byts_rev]
    exact rev_tab h0 hm hn hs
  · obtain rfl:l = []:=List.eq_nil_of_length_eq_zero (by omega)
    show Gives Tryz.prog 135 [v] w fp (fun _:Unit=>True) (fun _=>.tuple #[]) (fun _=>[row 5 1 v 0 []])
    replace hs:Sats (hp w) [row 5 1 v 0 []] fp:=hs
    refine givesM_of_tr Tryz.func135 rfl rfl hn hs ?_
    refine tr_rowSl (E:=5) (sz:=1) (by exact .here) fun a cp e=>?_
    subst e
    (refine s_r ?_;refine m_v rfl rfl ?_;refine tr_val (rk_len_slice (.of rfl)) rfl ?_;refine tr_val (rk_sub (.of rfl) (.of rfl) (ini (by omega))) rfl ?_;refine a_s rfl rfl ?_;refine a_s rfl rfl ?_;refine n_t ?_;refine tr_block ?_)
    refine tr_for (fun _:Nat=>True) (fun k=>[(2,.int .i64 0),(3,.int .i64 (-1)),(0,.slice a 0 cp)]) (fun k=>[row 5 1 (.slice a 0 cp) 0 []]) (fun k=>k) ?_ ?_
    · apply tr_start 0 trivial
      case hs1=>exact .cons rfl (.cons rfl (.cons rfl .nil))
      case ht=>exact .cons .here .nil
    intro k _
    (refine tr_seq ?_;refine s_r ?_;refine m_v rfl rfl ?_;refine m_v rfl rfl ?_;refine tr_val (rk_lss (.of rfl) (.of rfl)) rfl ?_;refine n_t ?_;refine c_d rfl (fun _=>by omega) (fun hcd=>?_);refine x_t ?_;refine tr_then_exit ?_;refine tr_blk_exit ?_)
    first | with_reducible apply tr_retM | with_reducible apply tr_endM
    case he=>exact ends0 rfl
    case hR=>
      intro w' hm'
      exact gives_end () trivial (show Takes _ [row 5 1 (.slice a 0 cp) 0 []] _ by exact .cons .here .nil) hm' rfl
end Go.Proofs.A1
namespace Go.Proofs.A1
open Go Go.SL
theorem revL_len (l:List Int):(revL l).length = l.length:=by simp [revL]
def revX (l:List Int):List Int:=if hrdE l.length = 0 then revL l else []
theorem revX_trn (l:List Int):(trnL l).reverse = revL l:=rfl
theorem reversed_c {sv:Value} {l:List Int} {w:World} (h:Rd w sv 1 (byts l)) (hby:∀ x ∈ l,0 ≤ x ∧ x ≤ 255) :
    Gives Tryz.prog 71 [sv] w [] (fun _:Value=>True) (fun v=>.tuple #[v,.int .i64 (hrdE l.length)]) (fun v=>[row 5 1 v (revX l).length (bytsV (revX l))]):=by
  have h1':=h
  obtain ⟨a,cap,b,o,rfl,hcap,hmax,ha,hc⟩:=h1'
  rw [byts_length] at *
  unfold maxLen at hmax
  refine gives_of_tr Tryz.func71 rfl rfl ?_
  (refine s_r ?_;refine a_s rfl rfl ?_;refine a_s rfl rfl ?_;refine n_t ?_;refine tr_seq ?_;refine s_r ?_;refine m_v rfl rfl ?_;refine tr_callV (rk_call (.of rfl) (.cons (.of rfl) .nil) inferInstance normc_) rfl (fun w' hm'=>(chkBytes_c a _ cap w')) ?_;refine a_s rfl rfl ?_;refine n_r ?_;refine m_v rfl rfl ?_;refine tr_val (rk_neq (.of rfl) (.of rfl)) rfl ?_;refine n_t ?_;refine c_d rfl (fun hcd=>?_) (fun hcd=>?_);refine s_r ?_;refine m_v rfl rfl ?_;refine a_s rfl rfl ?_;refine a_s rfl rfl ?_;refine n_t ?_;refine r_t ?_;rotate_left;refine s_t ?_;refine s_r ?_;refine m_v rfl rfl ?_;rotate_right)
  · rw [revX,if_neg hcd]
    refine tr_rowNil 5 1 ?_
    first | with_reducible apply tr_retM | with_reducible apply tr_endM
    case he=>exact ends2 rfl rfl rfl
    case hR=>
      intro w' hm'
      exact gives_end (.slice none 0 0) trivial (show Takes _ [row 5 1 (.slice none 0 0) 0 []] _ by exact .cons .here .nil) hm' rfl
  have hz:hrdE l.length = 0:=Decidable.not_not.1 hcd
  have hfew:l.length ≤ 4000:=by
    unfold hrdE at hz
    by_cases h4:4000 < l.length
    · rw [if_pos h4] at hz;cases hz
    · omega
  rw [revX,if_pos hz,hz,revL_len]
  with_reducible apply tr_call
  case hr=>exact rk_call (.of rfl) (.cons (.of rfl) (.cons (.of rfl) .nil)) inferInstance normc_
  case hd=>rfl
  case ht=>exact Takes.nil
  case hc=>
    intro w1 fp hm1 _ hs1
    obtain rfl:fp = []:=hs1
    exact mapBy_c hby (h.keeps hm1.keeps) hfew
  intro v _
  dsimp only [id_eq,List.cons_append,List.nil_append]
  (refine a_s rfl rfl ?_;refine n_r ?_;refine m_v rfl rfl ?_)
  with_reducible apply tr_call (As:=[row 5 1 v l.length (bytsV (trnL l))])
  case hr=>exact rk_call (.of rfl) (.cons (.of rfl) .nil) inferInstance normc_
  case hd=>rfl
  case ht=>
    show Takes [row 5 1 v l.length (bytsV (trnL l))] _ _
    exact .cons .here .nil
  case hc=>exact fun w1 fp hm1 hn hs1=>reverse_c (by rw [trnL_len]) (by omega) hn hs1
  intro u _
  dsimp only [List.cons_append,List.nil_append]
  rw [revX_trn]
  (refine n_r ?_;refine m_v rfl rfl ?_;refine a_s rfl rfl ?_;refine a_s rfl rfl ?_;refine n_t ?_;refine tr_ret ?_)
  first | with_reducible apply tr_retM | with_reducible apply tr_endM
  case he=>exact ends2 rfl rfl rfl
  case hR=>
    intro w' hm'
    exact gives_end v trivial (by exact .cons .here .nil) hm' rfl
end Go.Proofs.A1
