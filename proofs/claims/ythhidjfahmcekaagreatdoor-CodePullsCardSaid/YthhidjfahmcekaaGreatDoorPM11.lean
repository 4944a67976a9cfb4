/- Parts of the proof: U9r U10 U11. -/
import Derived.Test.YthhidjfahmcekaaGreatDoorPM10
import Derived.Test.YthhidjfahmcekaaGreatDoorPM06
set_option linter.unusedSectionVars false
set_option linter.unusedVariables false
set_option linter.unusedSimpArgs false
namespace Go.Proofs.A1
open Go Go.SL
def swp (B:Nat → Int) (m k:Nat):Nat → Int:=fun x=>if x < k ∨ m - k ≤ x then B (m - 1 - x) else B x
def u1 (B:Nat → Int):Nat → List Value:=fun i=>[.int .u8 (B i)]
theorem u1_len (B:Nat → Int) (m:Nat):∀ i,i < m → (u1 B i).length = 1:=fun _ _=>rfl
theorem u1_get {B:Nat → Int} {m i:Nat} (cur:List Value) (h:i < m):(tab m (u1 B)++cur)[i * 1]? = some (.int .u8 (B i)):=by
  have hl:=tab_length (u1_len B m)
  rw [List.getElem?_append_left (by rw [hl];omega)]
  exact tab_get (j:=0) (u1_len B m) h (by omega)
theorem u1_put {B C:Nat → Int} {m i:Nat} {v:Int} (cur:List Value) (h:i < m) (hC:∀ k,k < m → C k = if k = i then v else B k):setCells (tab m (u1 B)++cur) (i * 1) [.int .u8 v] = tab m (u1 C)++cur:=by
  have hl:=tab_length (u1_len B m)
  rw [setCells_app (by rw [hl];simp;omega),tab_put (u1_len B m) h rfl]
  congr 1
  apply tab_congr
  intro k hk
  unfold u1
  rw [hC k hk]
  split <;> rfl
set_option maxHeartbeats 4000000 in
theorem rev_tab {w:World} {fp:List Nat} {v:Value} {m:Nat} {B:Nat → Int} (hm:0 < m) (hm64:m ≤ 1000000) (hn:fp.Nodup) (hs:Sats (hp w) [row 5 1 v m (tab m (u1 B))] fp) :
    Gives Tryz.prog 135 [v] w fp (fun _:Unit=>True) (fun _=>.tuple #[]) (fun _=>[row 5 1 v m (tab m (u1 fun i=>B (m - 1 - i)))]):=by
  refine givesM_of_tr Tryz.func135 rfl rfl hn hs ?_
  refine tr_rowOpen (by exact .here) hm ?_
  rintro g cap cur rfl hcap hmx hsz hxl
  have hlen:=tab_length (u1_len B m)
  (refine s_r ?_;refine m_v rfl rfl ?_;refine tr_val (rk_len_slice (.of rfl)) rfl ?_;refine tr_val (rk_sub (.of rfl) (.of rfl) (ini (by omega))) rfl ?_;refine a_s rfl rfl ?_;refine a_s rfl rfl ?_;refine n_t ?_;refine tr_block ?_)
  refine tr_for (fun k:Nat=>2 * k ≤ m) (fun k=>[(2,.int .i64 k),(3,.int .i64 ((m - 1 - k:Nat):Int)),(0,.slice (some ⟨g,0,none⟩) m cap)]) (fun k=>[blk g (.cells (tab m (u1 (swp B m k))++cur).toArray 5 (0,0))]) (fun k=>m - 2 * k) ?_ ?_
  · apply tr_start 0 (by omega)
    case hs1=>exact .cons rfl (.consE rfl (by congr 1;omega) (.cons rfl .nil))
    case ht=>
      rw [show tab m (u1 (swp B m 0)) = tab m (u1 B) from tab_congr fun i hi=>by unfold u1 swp;rw [if_neg (by omega)]]
      exact .cons .here .nil
  intro k hk
  have hlk:=tab_length (u1_len (swp B m k) m)
  by_cases hlt:k < m - 1 - k
  · have hj:m - 1 - k < m:=by omega
    have hki:k < m:=by omega
    have c1:=u1_get (B:=swp B m k) cur hki
    have c2:=u1_get (B:=swp B m k) cur hj
    have he1:=u1_put (C:=fun i=>if i = k then swp B m k (m - 1 - k) else swp B m k i) cur hki (v:=swp B m k (m - 1 - k)) (B:=swp B m k) fun i _=>rfl
    have he2:=u1_put (C:=swp B m (k + 1)) cur hj (v:=swp B m k k) (B:=fun i=>if i = k then swp B m k (m - 1 - k) else swp B m k i) fun i hi=>by
      symm
      unfold swp
      by_cases e1:i = m - 1 - k
      · subst e1
        rw [if_pos rfl,if_neg (by omega),if_pos (by omega)]
        congr 1;omega
      · rw [if_neg e1]
        by_cases e2:i = k
        · subst e2
          rw [if_pos rfl,if_neg (by omega),if_pos (by omega)]
        · rw [if_neg e2]
          by_cases e3:i < k ∨ m - k ≤ i
          · rw [if_pos e3,if_pos (by omega)]
          · rw [if_neg e3,if_neg (by omega)]
    have hb1:k * 1 + 1 ≤ (tab m (u1 (swp B m k))++cur).length:=by rw [List.length_append,hlk];omega
    have hb2:(m - 1 - k) * 1 + 1 ≤ (tab m (u1 (fun i=>if i = k then swp B m k (m - 1 - k) else swp B m k i))++cur).length:=by rw [List.length_append,tab_length (u1_len _ m)];omega
    (refine tr_seq ?_;refine s_r ?_;refine m_v rfl rfl ?_;refine m_v rfl rfl ?_;refine tr_val (rk_lss (.of rfl) (.of rfl)) rfl ?_;refine n_t ?_;refine c_d rfl (fun hcd=>?_) (fun _=>by omega);refine s_t ?_;refine tr_seq ?_;refine tr_block ?_)
    with_reducible refine tr_left 16 rfl ?_
    (refine left_take 0 rfl kr_ kr_ kr_ (fun w ρ=>rfl) (fun w=>(rk_move (.of rfl))) rfl ?_;refine left_take 1 rfl kr_ kr_ kr_ (fun w ρ=>rfl) (fun w=>(rk_move (.of rfl))) rfl ?_;refine left_take 2 rfl kr_ kr_ kr_ (fun w ρ=>rfl) (fun w=>(rk_move (.of rfl))) rfl ?_;refine left_take 3 rfl kr_ kr_ kr_ (fun w ρ=>rfl) (fun w=>(rk_move (.of rfl))) rfl ?_;refine left_take 4 rfl kr_ kr_ kr_ (fun w ρ=>rfl) (fun w=>(rk_move (.of rfl))) rfl ?_;refine left_take 5 rfl kr_ kr_ kr_ (fun w ρ=>rfl) (fun w=>(rk_move (.of rfl))) rfl ?_;refine left_take 6 rfl kr_ kr_ kr_ (fun w ρ=>rfl) (fun w=>(rk_indexAddr (.of rfl) (.of rfl) rfl (by omega) (by omega) norm1_)) rfl ?_;refine left_take 8 rfl kr_ kr_ kr_ (fun w ρ=>rfl) (fun w=>(rk_move (.of rfl))) rfl ?_;refine left_take 9 rfl kr_ kr_ kr_ (fun w ρ=>rfl) (fun w=>(rk_move (.of rfl))) rfl ?_;refine left_take 10 rfl kr_ kr_ kr_ (fun w ρ=>rfl) (fun w=>(rk_indexAddr (.of rfl) (.of rfl) rfl (by omega) (by omega) norm1_)) rfl ?_)
    refine left_ready (rs:=[7,11]) (by kernel_rfl) (by simp) (List.forall_mem_cons.2 ⟨?_,List.forall_mem_cons.2 ⟨?_,fun _ h=>absurd h List.not_mem_nil⟩⟩)
    · refine next_step rfl ?_
      (refine tr_val (rk_load1 (.of rfl) (At.blkL .here c2)) rfl ?_;refine n_t ?_)
      · refine left_ready (rs:=[11]) (by kernel_rfl) (by simp) (List.forall_mem_cons.2 ⟨?_,fun _ h=>absurd h List.not_mem_nil⟩)
        refine next_step rfl ?_
        (refine tr_val (rk_load1 (.of rfl) (At.blkL .here c1)) rfl ?_;refine n_t ?_)
        refine left_take 12 rfl kr_ kr_ kr_ (fun w ρ=>rfl) (fun w=>(rk_indexAddr (.of rfl) (.of rfl) rfl (by omega) (by omega) norm1_)) rfl ?_
        refine left_ready (rs:=[13]) (by kernel_rfl) (by simp) (List.forall_mem_cons.2 ⟨?_,fun _ h=>absurd h List.not_mem_nil⟩)
        refine next_step rfl ?_
        with_reducible apply tr_store
        case hx=>exact Is.of rfl
        case hy=>exact Is.of rfl
        case ht=>exact .here
        case hv=>exact rfl
        case hl=>rfl
        case h1=>exact okc_cons rfl okc_nil
        case h2=>exact hb1
        case he=>exact he1
        (refine n_t ?_)
        refine left_take 14 rfl kr_ kr_ kr_ (fun w ρ=>rfl) (fun w=>(rk_indexAddr (.of rfl) (.of rfl) rfl (by omega) (by omega) norm1_)) rfl ?_
        refine left_ready (rs:=[15]) (by kernel_rfl) (by simp) (List.forall_mem_cons.2 ⟨?_,fun _ h=>absurd h List.not_mem_nil⟩)
        refine next_step rfl ?_
        with_reducible apply tr_store
        case hx=>exact Is.of rfl
        case hy=>exact Is.of rfl
        case ht=>exact .here
        case hv=>exact rfl
        case hl=>rfl
        case h1=>exact okc_cons rfl okc_nil
        case h2=>exact hb2
        case he=>exact he2
        (refine n_t ?_)
        with_reducible refine left_done (by kernel_rfl) ?_
        (refine tr_blk_normal ?_;refine tr_then ?_;refine tr_region ?_;refine m_v rfl rfl ?_;refine tr_val (rk_add (.of rfl) (.of rfl) (ini (by omega))) rfl ?_;refine m_v rfl rfl ?_;refine tr_val (rk_sub (.of rfl) (.of rfl) (ini (by omega))) rfl ?_;refine a_s rfl rfl ?_;refine a_s rfl rfl ?_;refine n_t ?_)
        apply tr_next (k + 1) (by omega) (by omega)
        case hs1=>exact .cons rfl (.consE rfl (by congr 1;omega) (.cons rfl .nil))
        case ht=>exact .cons .here .nil
    · refine next_step rfl ?_
      (refine tr_val (rk_load1 (.of rfl) (At.blkL .here c1)) rfl ?_;refine n_t ?_)
      · refine left_ready (rs:=[7]) (by kernel_rfl) (by simp) (List.forall_mem_cons.2 ⟨?_,fun _ h=>absurd h List.not_mem_nil⟩)
        refine next_step rfl ?_
        (refine tr_val (rk_load1 (.of rfl) (At.blkL .here c2)) rfl ?_;refine n_t ?_)
        refine left_take 12 rfl kr_ kr_ kr_ (fun w ρ=>rfl) (fun w=>(rk_indexAddr (.of rfl) (.of rfl) rfl (by omega) (by omega) norm1_)) rfl ?_
        refine left_ready (rs:=[13]) (by kernel_rfl) (by simp) (List.forall_mem_cons.2 ⟨?_,fun _ h=>absurd h List.not_mem_nil⟩)
        refine next_step rfl ?_
        with_reducible apply tr_store
        case hx=>exact Is.of rfl
        case hy=>exact Is.of rfl
        case ht=>exact .here
        case hv=>exact rfl
        case hl=>rfl
        case h1=>exact okc_cons rfl okc_nil
        case h2=>exact hb1
        case he=>exact he1
        (refine n_t ?_)
        refine left_take 14 rfl kr_ kr_ kr_ (fun w ρ=>rfl) (fun w=>(rk_indexAddr (.of rfl) (.of rfl) rfl (by omega) (by omega) norm1_)) rfl ?_
        refine left_ready (rs:=[15]) (by kernel_rfl) (by simp) (List.forall_mem_cons.2 ⟨?_,fun _ h=>absurd h List.not_mem_nil⟩)
        refine next_step rfl ?_
        with_reducible apply tr_store
        case hx=>exact Is.of rfl
        case hy=>exact Is.of rfl
        case ht=>exact .here
        case hv=>exact rfl
        case hl=>rfl
        case h1=>exact okc_cons rfl okc_nil
        case h2=>exact hb2
        case he=>exact he2
        (refine n_t ?_)
        with_reducible refine left_done (by kernel_rfl) ?_
        (refine tr_blk_normal ?_;refine tr_then ?_;refine tr_region ?_;refine m_v rfl rfl ?_;refine tr_val (rk_add (.of rfl) (.of rfl) (ini (by omega))) rfl ?_;refine m_v rfl rfl ?_;refine tr_val (rk_sub (.of rfl) (.of rfl) (ini (by omega))) rfl ?_;refine a_s rfl rfl ?_;refine a_s rfl rfl ?_;refine n_t ?_)
        apply tr_next (k + 1) (by omega) (by omega)
        case hs1=>exact .cons rfl (.consE rfl (by congr 1;omega) (.cons rfl .nil))
        case ht=>exact .cons .here .nil
  · have hrev:tab m (u1 (swp B m k)) = tab m (u1 fun i=>B (m - 1 - i)):=tab_congr fun i hi=>by
      unfold u1 swp
      by_cases e:i < k ∨ m - k ≤ i
      · rw [if_pos e]
      · rw [if_neg e];show [Value.int .u8 (B i)] = [Value.int .u8 (B (m - 1 - i))];rw [show m - 1 - i = i by omega]
    rw [hrev]
    have hl2:=tab_length (u1_len (fun i=>B (m - 1 - i)) m)
    refine tr_rowShut (n:=m) (cap:=cap) (sz:=1) (show Take _ (blk g (.cells ((tab m (u1 fun i=>B (m - 1 - i)))++cur).toArray 5 (0,0))) _ by exact .here) hcap hmx (by rw [List.length_append,hl2];rw [List.length_append,hxl] at hsz;omega) hl2 ?_
    (refine tr_seq ?_;refine s_r ?_;refine m_v rfl rfl ?_;refine m_v rfl rfl ?_;refine tr_val (rk_lss (.of rfl) (.of rfl)) rfl ?_;refine n_t ?_;refine c_d rfl (fun _=>by omega) (fun hcd=>?_);refine x_t ?_;refine tr_then_exit ?_;refine tr_blk_exit ?_)
    first | with_reducible apply tr_retM | with_reducible apply tr_endM
    case he=>exact ends0 rfl
    case hR=>
      intro w' hm'
      exact gives_end () trivial (show Takes _ [row 5 1 (.slice (some ⟨g,0,none⟩) m cap) m (tab m (u1 fun i=>B (m - 1 - i)))] _ by exact .cons .here .nil) hm' rfl
theorem byts_tab (l:List Int):bytsV l = tab l.length (u1 fun i=>l.getD i 0):=by
  rw [bytsV_eq,tab_eq_map]
  apply List.ext_getElem?
  intro k
  have h1:((List.range l.length).map (u1 fun i=>l.getD i 0)).flatten = (List.range l.length).map fun i=>Value.int .u8 (l.getD i 0):=by
    have:=flatten_singletons ((List.range l.length).map fun i=>Value.int .u8 (l.getD i 0))
    rw [List.map_map] at this
    exact this
  rw [h1]
  by_cases h:k < l.length
  · simp [h,List.getD_eq_getElem?_getD]
  · simp [h]
theorem byts_rev (l:List Int):bytsV l.reverse = tab l.length (u1 fun i=>l.getD (l.length - 1 - i) 0):=by
  rw [byts_tab,List.length_reverse]
  apply tab_congr
  intro i hi
  show [Value.int .u8 (l.reverse.getD i 0)] = [Value.int .u8 (l.getD (l.length - 1 - i) 0)]
  rw [List.getD_eq_getElem?_getD,List.getD_eq_getElem?_getD,List.getElem?_reverse hi]
theorem reverse_c {w:World} {fp:List Nat} {v:Value} {l:List Int} {n:Nat} (hl:n = l.length) (hm:n ≤ 1000000) (hn:fp.Nodup) (hs:Sats (hp w) [row 5 1 v n (bytsV l)] fp) :
    Gives Tryz.prog 135 [v] w fp (fun _:Unit=>True) (fun _=>.tuple #[]) (fun _=>[row 5 1 v n (bytsV l.reverse)]):=by
  subst hl
  by_cases h0:0 < l.length
  · rw [byts_tab] at hs
    rw [byts_rev]
    exact rev_tab h0 hm hn hs
  · obtain rfl:l = []:=List.eq_nil_of_length_eq_zero (by omega)
    show Gives Tryz.prog 135 [v] w fp (fun _:Unit=>True) (fun _=>.tuple #[]) (fun _=>[row 5 1 v 0 []])
    replace hs:Sats (hp w) [row 5 1 v 0 []] fp:=hs
    refine givesM_of_tr Tryz.func135 rfl rfl hn hs ?_
    refine tr_rowSl (E:=5) (sz:=1) (by exact .here) fun a cp e=>?_
    subst e
    (refine s_r ?_;refine m_v rfl rfl ?_;refine tr_val (rk_len_slice (.of rfl)) rfl ?_;refine tr_val (rk_sub (.of rfl) (.of rfl) (ini (by omega))) rfl ?_;refine a_s rfl rfl ?_;refine a_s rfl rfl ?_;refine n_t ?_;refine tr_block ?_)
    refine tr_for (fun _:Nat=>True) (fun k=>[(2,.int .i64 0),(3,.int .i64 (-1)),(0,.slice a 0 cp)]) (fun k=>[row 5 1 (.slice a 0 cp) 0 []]) (fun k=>k) ?_ ?_
    · apply tr_start 0 trivial
      case hs1=>exact .cons rfl (.cons rfl (.cons rfl .nil))
      case ht=>exact .cons .here .nil
    intro k _
    (refine tr_seq ?_;refine s_r ?_;refine m_v rfl rfl ?_;refine m_v rfl rfl ?_;refine tr_val (rk_lss (.of rfl) (.of rfl)) rfl ?_;refine n_t ?_;refine c_d rfl (fun _=>by omega) (fun hcd=>?_);refine x_t ?_;refine tr_then_exit ?_;refine tr_blk_exit ?_)
    first | with_reducible apply tr_retM | with_reducible apply tr_endM
    case he=>exact ends0 rfl
    case hR=>
      intro w' hm'
      exact gives_end () trivial (show Takes _ [row 5 1 (.slice a 0 cp) 0 []] _ by exact .cons .here .nil) hm' rfl
end Go.Proofs.A1
namespace Go.Proofs.A1
open Go Go.SL
theorem revL_len (l:List Int):(revL l).length = l.length:=by simp [revL]
def revX (l:List Int):List Int:=if hrdE l.length = 0 then revL l else []
theorem revX_trn (l:List Int):(trnL l).reverse = revL l:=rfl
theorem reversed_c {sv:Value} {l:List Int} {w:World} (h:Rd w sv 1 (byts l)) (hby:∀ x ∈ l,0 ≤ x ∧ x ≤ 255) :
    Gives Tryz.prog 71 [sv] w [] (fun _:Value=>True) (fun v=>.tuple #[v,.int .i64 (hrdE l.length)]) (fun v=>[row 5 1 v (revX l).length (bytsV (revX l))]):=by
  have h1':=h
  obtain ⟨a,cap,b,o,rfl,hcap,hmax,ha,hc⟩:=h1'
  rw [byts_length] at *
  unfold maxLen at hmax
  refine gives_of_tr Tryz.func71 rfl rfl ?_
  (refine s_r ?_;refine a_s rfl rfl ?_;refine a_s rfl rfl ?_;refine n_t ?_;refine tr_seq ?_;refine s_r ?_;refine m_v rfl rfl ?_;refine tr_callV (rk_call (.of rfl) (.cons (.of rfl) .nil) inferInstance normc_) rfl (fun w' hm'=>(chkBytes_c a _ cap w')) ?_;refine a_s rfl rfl ?_;refine n_r ?_;refine m_v rfl rfl ?_;refine tr_val (rk_neq (.of rfl) (.of rfl)) rfl ?_;refine n_t ?_;refine c_d rfl (fun hcd=>?_) (fun hcd=>?_);refine s_r ?_;refine m_v rfl rfl ?_;refine a_s rfl rfl ?_;refine a_s rfl rfl ?_;refine n_t ?_;refine r_t ?_;rotate_left;refine s_t ?_;refine s_r ?_;refine m_v rfl rfl ?_;rotate_right)
  · rw [revX,if_neg hcd]
    refine tr_rowNil 5 1 ?_
    first | with_reducible apply tr_retM | with_reducible apply tr_endM
    case he=>exact ends2 rfl rfl rfl
    case hR=>
      intro w' hm'
      exact gives_end (.slice none 0 0) trivial (show Takes _ [row 5 1 (.slice none 0 0) 0 []] _ by exact .cons .here .nil) hm' rfl
  have hz:hrdE l.length = 0:=Decidable.not_not.1 hcd
  have hfew:l.length ≤ 4000:=by
    unfold hrdE at hz
    by_cases h4:4000 < l.length
    · rw [if_pos h4] at hz;cases hz
    · omega
  rw [revX,if_pos hz,hz,revL_len]
  with_reducible apply tr_call
  case hr=>exact rk_call (.of rfl) (.cons (.of rfl) (.cons (.of rfl) .nil)) inferInstance normc_
  case hd=>rfl
  case ht=>exact Takes.nil
  case hc=>
    intro w1 fp hm1 _ hs1
    obtain rfl:fp = []:=hs1
    exact mapBy_c hby (h.keeps hm1.keeps) hfew
  intro v _
  dsimp only [id_eq,List.cons_append,List.nil_append]
  (refine a_s rfl rfl ?_;refine n_r ?_;refine m_v rfl rfl ?_)
  with_reducible apply tr_call (As:=[row 5 1 v l.length (bytsV (trnL l))])
  case hr=>exact rk_call (.of rfl) (.cons (.of rfl) .nil) inferInstance normc_
  case hd=>rfl
  case ht=>
    show Takes [row 5 1 v l.length (bytsV (trnL l))] _ _
    exact .cons .here .nil
  case hc=>exact fun w1 fp hm1 hn hs1=>reverse_c (by rw [trnL_len]) (by omega) hn hs1
  intro u _
  dsimp only [List.cons_append,List.nil_append]
  rw [revX_trn]
  (refine n_r ?_;refine m_v rfl rfl ?_;refine a_s rfl rfl ?_;refine a_s rfl rfl ?_;refine n_t ?_;refine tr_ret ?_)
  first | with_reducible apply tr_retM | with_reducible apply tr_endM
  case he=>exact ends2 rfl rfl rfl
  case hR=>
    intro w' hm'
    exact gives_end v trivial (by exact .cons .here .nil) hm' rfl
end Go.Proofs.A1
namespace Go.Proofs.A1
open Go Go.SL
theorem bad_of {a:Int} (ha:0 ≤ a ∧ a ≤ 255) (h:9 < a / 2 ^ (4:Int).toNat ∨ 9 < andF a 15):badD a = true:=by
  rw [and15 ha] at h
  have h:9 < a / 16 ∨ 9 < a % 16:=h
  unfold badD
  rw [Bool.or_eq_true,decide_eq_true_eq,decide_eq_true_eq];exact h
theorem bad_not {a:Int} (ha:0 ≤ a ∧ a ≤ 255) (h:¬ (9 < a / 2 ^ (4:Int).toNat ∨ 9 < andF a 15)):badD a = false:=by
  rw [and15 ha] at h
  have h:¬ (9 < a / 16 ∨ 9 < a % 16):=h
  unfold badD
  rw [Bool.or_eq_false_iff,decide_eq_false_iff_not,decide_eq_false_iff_not];omega
theorem hi_of {a:Int} (ha:0 ≤ a ∧ a ≤ 255):IntKind.i64.wrap (a / 2 ^ (4:Int).toNat) = a / 16:=i64w (by show _ ≤ a / 16 ∧ a / 16 ≤ _;omega)
theorem lo_of {a:Int} (ha:0 ≤ a ∧ a ≤ 255):IntKind.i64.wrap (andF a 15) = a % 16:=by rw [and15 ha];exact i64w (by omega)
def fieldK (a0 a1 a2 a3:Int) (k:Nat):List Value:=[.int .i64 0,.bool false,.int .i64 (if 3 < k then unb a3 else 0),.int .i64 (if 2 < k then unb a2 else 0),.int .i64 (if 1 < k then unb a1 else 0),.int .i64 (if 0 < k then unb a0 else 0),.int .i64 0]
theorem rdE_9 {W:List Int} (h:wa W 8 ≠ 63 ∨ wa W 9 ≠ 253):rdE W = 1 ∧ rdF W = Stm.zero:=by
  have:rdE W = 1:=by unfold rdE;rw [if_pos h]
  exact ⟨this,by unfold rdF;rw [this];rfl⟩
theorem rdE_7 {W:List Int} (h:¬ (wa W 8 ≠ 63 ∨ wa W 9 ≠ 253)) (h7:parF (W.take 7) ≠ wa W 7):rdE W = 27 ∧ rdF W = Stm.zero:=by
  have:rdE W = 27:=by unfold rdE;rw [if_neg h,if_pos h7]
  exact ⟨this,by unfold rdF;rw [this];rfl⟩
theorem rdE_d {W:List Int} (h:¬ (wa W 8 ≠ 63 ∨ wa W 9 ≠ 253)) (h7:¬ parF (W.take 7) ≠ wa W 7) (hd:(badD (wa W 0) || badD (wa W 1) || badD (wa W 2) || badD (wa W 3)) = true):rdE W = 1 ∧ rdF W = Stm.zero:=by
  have:rdE W = 1:=by unfold rdE;rw [if_neg h,if_neg h7,if_pos hd]
  exact ⟨this,by unfold rdF;rw [this];rfl⟩
theorem rdE_r {W:List Int} (h:¬ (wa W 8 ≠ 63 ∨ wa W 9 ≠ 253)) (h7:¬ parF (W.take 7) ≠ wa W 7) (hd:¬ (badD (wa W 0) || badD (wa W 1) || badD (wa W 2) || badD (wa W 3)) = true):rdE W = if rtOkB (wa W 4) then stmE (stmW W) else 1:=by
  unfold rdE;rw [if_neg h,if_neg h7,if_neg hd]
theorem par7_c {c:Cx} {hs hs':List Asn} {w:World} {b:Nat} {a0 a1 a2 a3 a4 a5 a6 a7 a8 a9:Int} {E:TypeId} {fz:Nat × Nat} (hm:Mem c hs w) (ht:Take hs (SL.blk b (.cells #[.int .u8 a0,.int .u8 a1,.int .u8 a2,.int .u8 a3,.int .u8 a4,.int .u8 a5,.int .u8 a6,.int .u8 a7,.int .u8 a8,.int .u8 a9] E fz)) hs'):GivesV Tryz.prog 113 [.slice (some ⟨b,0,none⟩) 7 10] w (.int .u8 (parF [a0,a1,a2,a3,a4,a5,a6])):=
  parity_c (rdBys (cs:=[.int .u8 a0,.int .u8 a1,.int .u8 a2,.int .u8 a3,.int .u8 a4,.int .u8 a5,.int .u8 a6,.int .u8 a7,.int .u8 a8,.int .u8 a9]) hm ht rfl rfl (by decide) (by decide))
set_option maxHeartbeats 4000000 in
theorem read10_c (a0 a1 a2 a3 a4 a5 a6 a7 a8 a9:Int) (hb:∀ x ∈ [a0,a1,a2,a3,a4,a5,a6,a7,a8,a9],0 ≤ x ∧ x ≤ 255) (w:World) (hG:GlobR w):GivesV Tryz.prog 36 [.agg #[.int .u8 a0,.int .u8 a1,.int .u8 a2,.int .u8 a3,.int .u8 a4,.int .u8 a5,.int .u8 a6,.int .u8 a7,.int .u8 a8,.int .u8 a9]] w (.tuple #[.agg (rdF [a0,a1,a2,a3,a4,a5,a6,a7,a8,a9]).cells.toArray,.int .i64 (rdE [a0,a1,a2,a3,a4,a5,a6,a7,a8,a9])]):=by
  have h0:0 ≤ a0 ∧ a0 ≤ 255:=hb _ (by simp)
  have h1:0 ≤ a1 ∧ a1 ≤ 255:=hb _ (by simp)
  have h2:0 ≤ a2 ∧ a2 ≤ 255:=hb _ (by simp)
  have h3:0 ≤ a3 ∧ a3 ≤ 255:=hb _ (by simp)
  have h4:0 ≤ a4 ∧ a4 ≤ 255:=hb _ (by simp)
  have h5:0 ≤ a5 ∧ a5 ≤ 255:=hb _ (by simp)
  have h6:0 ≤ a6 ∧ a6 ≤ 255:=hb _ (by simp)
  have h7:0 ≤ a7 ∧ a7 ≤ 255:=hb _ (by simp)
  have h8:0 ≤ a8 ∧ a8 ≤ 255:=hb _ (by simp)
  have h9:0 ≤ a9 ∧ a9 ≤ 255:=hb _ (by simp)
  refine givesV_of_tr Tryz.func36 rfl rfl ?_
  (refine s_r ?_;refine tr_new (rk_box (.of rfl) rfl) rfl (fun _ _=>?_);refine tr_new (rk_alloc rfl) rfl (fun _ _=>?_);refine a_s rfl rfl ?_;refine n_t ?_;refine tr_seq ?_;refine s_r ?_;refine tr_val (rk_sliceA_l (.of rfl) (.of rfl) (by omega) (by omega) norm1_ norm1_) rfl ?_;refine tr_val (rk_s2ap (.of rfl) rfl) rfl ?_;refine tr_val (rk_loadB (.of rfl) (.there .here) norm_ (by rfl)) rfl ?_;refine tr_val (rk_buildL (.cons (.of rfl) (.cons (.of rfl) .nil)) norm_) rfl ?_;refine tr_val (rk_neqA (.of rfl) (.of rfl) (okL_int (okL_int okL_nil)) rfl) rfl ?_;refine n_t ?_;refine c_b rfl (fun hcd=>?_) (fun hcd=>?_);refine s_r ?_;refine tr_val (rk_buildL .nil norm_) rfl ?_;refine tr_store (.of rfl) (.of rfl) .here rfl rfl (okc_cons rfl (okc_cons rfl (okc_cons rfl (okc_cons rfl (okc_cons rfl (okc_cons rfl (okc_cons rfl okc_nil))))))) (lenb rfl) norm_ ?_;refine a_s rfl rfl ?_;refine n_t ?_;refine r_t ?_;refine tr_retE rfl (endsCT rfl inferInstance rfl .here norm_ (by rfl) (by rfl)) ?_;rotate_left;refine s_t ?_;refine tr_seq ?_;refine tr_seq ?_;rotate_right)
  · obtain ⟨e1,e2⟩:=rdE_9 (W:=[a0,a1,a2,a3,a4,a5,a6,a7,a8,a9]) (by
      show a8 ≠ 63 ∨ a9 ≠ 253
      simpa using hcd)
    rw [e1,e2];rfl
  have n9:¬ (wa [a0,a1,a2,a3,a4,a5,a6,a7,a8,a9] 8 ≠ 63 ∨ wa [a0,a1,a2,a3,a4,a5,a6,a7,a8,a9] 9 ≠ 253):=by
    show ¬ (a8 ≠ 63 ∨ a9 ≠ 253)
    simpa using hcd
  clear hcd
  rename_i b1 hb1 b2 hb2
  with_reducible refine tr_draw 5 (by kernel_rfl) ?_
  (refine any_val (rk_sliceA_h (.of rfl) (.of rfl) (by omega) (by omega) norm1_) rfl ?_;refine any_call (rk_call (.of rfl) (.cons (.of rfl) .nil) inferInstance normc_) rfl (fun w' hm'=>(par7_c hm' (.there .here))) ?_;refine any_val (rk_indexAddrA (.of rfl) (.of rfl) (by omega) (by omega) norm1_) rfl ?_;refine any_val (rk_load1 (.of rfl) (At.lit (.there .here) rfl)) rfl ?_;refine any_val (rk_neq (.of rfl) (.of rfl)) rfl ?_)
  with_reducible refine any_end ?_
  (refine n_t ?_;refine c_d rfl (fun hcd=>?_) (fun hcd=>?_);refine s_r ?_;refine tr_val (rk_buildL .nil norm_) rfl ?_;refine tr_store (.of rfl) (.of rfl) .here rfl rfl (okc_cons rfl (okc_cons rfl (okc_cons rfl (okc_cons rfl (okc_cons rfl (okc_cons rfl (okc_cons rfl okc_nil))))))) (lenb rfl) norm_ ?_;refine a_s rfl rfl ?_;refine n_t ?_;refine r_t ?_;refine tr_retE rfl (endsCT rfl inferInstance rfl .here norm_ (by rfl) (by rfl)) ?_;rotate_left;refine s_t ?_;refine s_r ?_;refine tr_new (rk_alloc rfl) rfl (fun _ _=>?_);refine n_t ?_;refine tr_seq ?_;refine s_r ?_;refine tr_callV (rk_call (.of rfl) .nil inferInstance normc_) rfl (fun w' hm'=>(parts_c w')) ?_;refine m_v rfl rfl ?_;refine n_t ?_;refine tr_block ?_;rotate_right)
  · obtain ⟨e1,e2⟩:=rdE_7 n9 (by
      show parF [a0,a1,a2,a3,a4,a5,a6] ≠ a7
      simpa using hcd)
    rw [e1,e2];rfl
  have n7:¬ parF (List.take 7 [a0,a1,a2,a3,a4,a5,a6,a7,a8,a9]) ≠ wa [a0,a1,a2,a3,a4,a5,a6,a7,a8,a9] 7:=by
    show ¬ parF [a0,a1,a2,a3,a4,a5,a6] ≠ a7
    simpa using hcd
  clear hcd
  rename_i b4 hb4
  refine tr_for (fun k:Nat=>k ≤ 4 ∧ (0 < k → badD a0 = false) ∧ (1 < k → badD a1 = false) ∧ (2 < k → badD a2 = false) ∧ (3 < k → badD a3 = false)) (fun k=>[(21,.int .i64 k),(20,.agg #[.func (.func 181) #[] #[],.func (.func 182) #[] #[],.func (.func 183) #[] #[],.func (.func 184) #[] #[]]),(4,.pointer (some ⟨b4,0,none⟩)),(3,.int .i64 0),(2,.pointer (some ⟨b2,0,none⟩)),(1,.pointer (some ⟨b1,0,none⟩))]) (fun k=>[blk b4 (.cells (fieldK a0 a1 a2 a3 k).toArray 55 (0,0)),blk b2 (.cells #[.int .i64 0,.bool false,.int .i64 0,.int .i64 0,.int .i64 0,.int .i64 0,.int .i64 0] 55 (0,0)),blk b1 (.cells #[.int .u8 a0,.int .u8 a1,.int .u8 a2,.int .u8 a3,.int .u8 a4,.int .u8 a5,.int .u8 a6,.int .u8 a7,.int .u8 a8,.int .u8 a9] 51 (0,0))]) (fun k=>4 - k) ?_ ?_
  · apply tr_start 0 ⟨show (0:Nat) ≤ 4 by omega,fun h=>absurd h (by decide),fun h=>absurd h (by decide),fun h=>absurd h (by decide),fun h=>absurd h (by decide)⟩
    case hs1=>exact .cons rfl (.cons rfl (.cons rfl (.cons rfl (.cons rfl (.cons rfl .nil)))))
    case ht=>
      show Takes _ [blk b4 (.cells #[.int .i64 0,.bool false,.int .i64 0,.int .i64 0,.int .i64 0,.int .i64 0,.int .i64 0] 55 (0,0)),blk b2 (.cells #[.int .i64 0,.bool false,.int .i64 0,.int .i64 0,.int .i64 0,.int .i64 0,.int .i64 0] 55 (0,0)),blk b1 (.cells #[.int .u8 a0,.int .u8 a1,.int .u8 a2,.int .u8 a3,.int .u8 a4,.int .u8 a5,.int .u8 a6,.int .u8 a7,.int .u8 a8,.int .u8 a9] 51 (0,0))] _
      exact .cons .here (.cons .here (.cons .here .nil))
  rintro k ⟨hk,hd0,hd1,hd2,hd3⟩
  by_cases hlt:k < 4
  · obtain rfl | rfl | rfl | rfl:k = 0 ∨ k = 1 ∨ k = 2 ∨ k = 3:=by omega
    · show Tr _ [] [(21,.int .i64 0),(20,.agg #[.func (.func 181) #[] #[],.func (.func 182) #[] #[],.func (.func 183) #[] #[],.func (.func 184) #[] #[]]),(4,.pointer (some ⟨b4,0,none⟩)),(3,.int .i64 0),(2,.pointer (some ⟨b2,0,none⟩)),(1,.pointer (some ⟨b1,0,none⟩))] [blk b4 (.cells #[.int .i64 0,.bool false,.int .i64 0,.int .i64 0,.int .i64 0,.int .i64 0,.int .i64 0] 55 (0,0)),blk b2 (.cells #[.int .i64 0,.bool false,.int .i64 0,.int .i64 0,.int .i64 0,.int .i64 0,.int .i64 0] 55 (0,0)),blk b1 (.cells #[.int .u8 a0,.int .u8 a1,.int .u8 a2,.int .u8 a3,.int .u8 a4,.int .u8 a5,.int .u8 a6,.int .u8 a7,.int .u8 a8,.int .u8 a9] 51 (0,0))] _
      (refine s_r ?_;refine tr_val (rk_lss (.of rfl) (.of rfl)) rfl ?_;refine n_t ?_;refine tr_seq ?_;refine c_d rfl (fun hcd=>?_) (fun _=>by omega);refine s_t ?_;refine tr_seq ?_;refine tr_block ?_;refine s_r ?_;refine m_v rfl rfl ?_;refine tr_val (rk_index (.of rfl) (.of rfl) (by omega) hcd norm_) rfl ?_;refine tr_new (rk_alloc rfl) rfl (fun _ _=>?_);refine a_s rfl rfl ?_;refine tr_store (.of rfl) (.of rfl) .here rfl rfl (okc_cons rfl okc_nil) (lenb rfl) norm_ ?_;refine n_t ?_;refine tr_seq ?_;refine s_r ?_;refine m_v rfl rfl ?_;refine tr_val (rk_indexAddrA (.of rfl) (.of rfl) (by omega) (by omega) norm1_) rfl ?_;refine tr_val (rk_load1 (.of rfl) (At.lit (.there (.there (.there .here))) rfl)) rfl ?_;refine tr_val (rk_shrC (.of rfl) (.of rfl) rfl) rfl ?_;refine tr_val (rk_gtr (.of rfl) (.of rfl)) rfl ?_;refine m_v rfl rfl ?_;refine v_g rfl rfl rfl rfl ?_;refine tr_vG1 rfl rfl inferInstance (fun hg hgp=>(rk_indexAddrA (.of rfl) (.ofg hg rfl) (by omega) (by omega) norm1_)) rfl ?_;refine tr_vG1 rfl rfl inferInstance (fun hg hgp=>(rk_load1 (.ofg hg rfl) (At.lit (.there (.there (.there .here))) rfl))) rfl ?_;refine tr_vG1 rfl rfl inferInstance (fun hg hgp=>(rk_and8 (.ofg hg rfl) (.of rfl))) rfl ?_;refine tr_vG1 rfl rfl inferInstance (fun hg hgp=>(rk_gtr (.ofg hg rfl) (.of rfl))) rfl ?_;refine tr_val (rk_pick_or (.of rfl) rfl) rfl ?_;refine n_t ?_;refine c_b rfl (fun hcd=>?_) (fun hcd=>?_);refine s_r ?_;refine tr_val (rk_buildL .nil norm_) rfl ?_;refine tr_store (.of rfl) (.of rfl) (.there (.there .here)) rfl rfl (okc_cons rfl (okc_cons rfl (okc_cons rfl (okc_cons rfl (okc_cons rfl (okc_cons rfl (okc_cons rfl okc_nil))))))) (lenb rfl) norm_ ?_;refine a_s rfl rfl ?_;refine n_t ?_;refine r_t ?_;refine tr_blk_ret ?_;refine tr_then_ret ?_;refine tr_then_ret ?_;refine tr_blk_ret ?_;refine tr_then_ret ?_;refine tr_retE rfl (endsCT rfl inferInstance rfl .here norm_ (by rfl) (by rfl)) ?_;rotate_left;refine s_t ?_;rotate_right)
      · obtain ⟨e1,e2⟩:=rdE_d n9 n7 (by
          have:=bad_of h0 (by simpa using hcd)
          show (badD a0 || badD a1 || badD a2 || badD a3) = true
          rw [this];simp)
        rw [e1,e2];rfl
      have hbd:=bad_not h0 (by simpa using hcd)
      clear hcd
      have w1:=hi_of h0
      have w2:=lo_of h0
      with_reducible refine tr_draw 17 (by kernel_rfl) ?_
      (refine a_f rfl rfl norm0_ ?_;refine any_val (rk_load1 (.of rfl) (At.lit .here rfl)) rfl ?_;refine a_f rfl rfl norm0_ ?_;refine any_call (rk_call (.of rfl) (.cons (.of rfl) .nil) inferInstance normc_) rfl (fun w' hm'=>(part1_c b4 2 w')) ?_;refine a_m rfl rfl ?_;refine any_val (rk_indexAddrA (.of rfl) (.of rfl) (by omega) (by omega) norm1_) rfl ?_;refine any_val (rk_load1 (.of rfl) (At.lit (.there (.there (.there .here))) rfl)) rfl ?_;refine any_val (rk_shrC (.of rfl) (.of rfl) rfl) rfl ?_;refine any_val (rk_conv (.of rfl)) rfl ?_;refine any_val (rk_mul (.of rfl) (.of rfl) (ini (by omega))) rfl ?_;refine a_m rfl rfl ?_;refine any_val (rk_indexAddrA (.of rfl) (.of rfl) (by omega) (by omega) norm1_) rfl ?_;refine any_val (rk_load1 (.of rfl) (At.lit (.there (.there (.there .here))) rfl)) rfl ?_;refine any_val (rk_and8 (.of rfl) (.of rfl)) rfl ?_;refine any_val (rk_conv (.of rfl)) rfl ?_;refine any_val (rk_add (.of rfl) (.of rfl) (ini (by omega))) rfl ?_;refine any_val (rk_nilCheck (.of rfl)) rfl ?_)
      rw [w1]
      skip
      rw [w2]
      skip
      with_reducible refine any_end ?_
      (refine tr_store (.of rfl) (.of rfl) (.there .here) rfl rfl (okc_cons rfl okc_nil) (lenb rfl) norm_ ?_;refine tr_nil ?_;refine tr_blk_normal ?_;refine tr_then ?_;refine tr_region ?_;refine tr_val (rk_add (.of rfl) (.of rfl) (ini (by omega))) rfl ?_;refine m_v rfl rfl ?_;refine n_t ?_)
      rw [show a0 / 16 * 10 + a0 % 16 = unb a0 from rfl]
      apply tr_next (Φ:=fun k:Nat=>k ≤ 4 ∧ (0 < k → badD a0 = false) ∧ (1 < k → badD a1 = false) ∧ (2 < k → badD a2 = false) ∧ (3 < k → badD a3 = false)) 1 ⟨show 1 ≤ 4 from of_decide_eq_true rfl,fun _=>hbd,fun h=>absurd h (by decide),fun h=>absurd h (by decide),fun h=>absurd h (by decide)⟩ (by show 4 - 1 < 4 - 0;omega)
      case hs1=>exact .cons rfl (.cons rfl (.cons rfl (.cons rfl (.cons rfl (.cons rfl .nil)))))
      case ht=>
        show Takes _ [blk b4 (.cells #[.int .i64 0,.bool false,.int .i64 0,.int .i64 0,.int .i64 0,.int .i64 (unb a0),.int .i64 0] 55 (0,0)),blk b2 (.cells #[.int .i64 0,.bool false,.int .i64 0,.int .i64 0,.int .i64 0,.int .i64 0,.int .i64 0] 55 (0,0)),blk b1 (.cells #[.int .u8 a0,.int .u8 a1,.int .u8 a2,.int .u8 a3,.int .u8 a4,.int .u8 a5,.int .u8 a6,.int .u8 a7,.int .u8 a8,.int .u8 a9] 51 (0,0))] _
        exact .cons .here (.cons (.there .here) (.cons (.there .here) .nil))
    · show Tr _ [] [(21,.int .i64 1),(20,.agg #[.func (.func 181) #[] #[],.func (.func 182) #[] #[],.func (.func 183) #[] #[],.func (.func 184) #[] #[]]),(4,.pointer (some ⟨b4,0,none⟩)),(3,.int .i64 0),(2,.pointer (some ⟨b2,0,none⟩)),(1,.pointer (some ⟨b1,0,none⟩))] [blk b4 (.cells #[.int .i64 0,.bool false,.int .i64 0,.int .i64 0,.int .i64 0,.int .i64 (unb a0),.int .i64 0] 55 (0,0)),blk b2 (.cells #[.int .i64 0,.bool false,.int .i64 0,.int .i64 0,.int .i64 0,.int .i64 0,.int .i64 0] 55 (0,0)),blk b1 (.cells #[.int .u8 a0,.int .u8 a1,.int .u8 a2,.int .u8 a3,.int .u8 a4,.int .u8 a5,.int .u8 a6,.int .u8 a7,.int .u8 a8,.int .u8 a9] 51 (0,0))] _
      (refine s_r ?_;refine tr_val (rk_lss (.of rfl) (.of rfl)) rfl ?_;refine n_t ?_;refine tr_seq ?_;refine c_d rfl (fun hcd=>?_) (fun _=>by omega);refine s_t ?_;refine tr_seq ?_;refine tr_block ?_;refine s_r ?_;refine m_v rfl rfl ?_;refine tr_val (rk_index (.of rfl) (.of rfl) (by omega) hcd norm_) rfl ?_;refine tr_new (rk_alloc rfl) rfl (fun _ _=>?_);refine a_s rfl rfl ?_;refine tr_store (.of rfl) (.of rfl) .here rfl rfl (okc_cons rfl okc_nil) (lenb rfl) norm_ ?_;refine n_t ?_;refine tr_seq ?_;refine s_r ?_;refine m_v rfl rfl ?_;refine tr_val (rk_indexAddrA (.of rfl) (.of rfl) (by omega) (by omega) norm1_) rfl ?_;refine tr_val (rk_load1 (.of rfl) (At.lit (.there (.there (.there .here))) rfl)) rfl ?_;refine tr_val (rk_shrC (.of rfl) (.of rfl) rfl) rfl ?_;refine tr_val (rk_gtr (.of rfl) (.of rfl)) rfl ?_;refine m_v rfl rfl ?_;refine v_g rfl rfl rfl rfl ?_;refine tr_vG1 rfl rfl inferInstance (fun hg hgp=>(rk_indexAddrA (.of rfl) (.ofg hg rfl) (by omega) (by omega) norm1_)) rfl ?_;refine tr_vG1 rfl rfl inferInstance (fun hg hgp=>(rk_load1 (.ofg hg rfl) (At.lit (.there (.there (.there .here))) rfl))) rfl ?_;refine tr_vG1 rfl rfl inferInstance (fun hg hgp=>(rk_and8 (.ofg hg rfl) (.of rfl))) rfl ?_;refine tr_vG1 rfl rfl inferInstance (fun hg hgp=>(rk_gtr (.ofg hg rfl) (.of rfl))) rfl ?_;refine tr_val (rk_pick_or (.of rfl) rfl) rfl ?_;refine n_t ?_;refine c_b rfl (fun hcd=>?_) (fun hcd=>?_);refine s_r ?_;refine tr_val (rk_buildL .nil norm_) rfl ?_;refine tr_store (.of rfl) (.of rfl) (.there (.there .here)) rfl rfl (okc_cons rfl (okc_cons rfl (okc_cons rfl (okc_cons rfl (okc_cons rfl (okc_cons rfl (okc_cons rfl okc_nil))))))) (lenb rfl) norm_ ?_;refine a_s rfl rfl ?_;refine n_t ?_;refine r_t ?_;refine tr_blk_ret ?_;refine tr_then_ret ?_;refine tr_then_ret ?_;refine tr_blk_ret ?_;refine tr_then_ret ?_;refine tr_retE rfl (endsCT rfl inferInstance rfl .here norm_ (by rfl) (by rfl)) ?_;rotate_left;refine s_t ?_;rotate_right)
      · obtain ⟨e1,e2⟩:=rdE_d n9 n7 (by
          have:=bad_of h1 (by simpa using hcd)
          show (badD a0 || badD a1 || badD a2 || badD a3) = true
          rw [this];simp)
        rw [e1,e2];rfl
      have hbd:=bad_not h1 (by simpa using hcd)
      clear hcd
      have w1:=hi_of h1
      have w2:=lo_of h1
      with_reducible refine tr_draw 17 (by kernel_rfl) ?_
      (refine a_f rfl rfl norm0_ ?_;refine any_val (rk_load1 (.of rfl) (At.lit .here rfl)) rfl ?_;refine a_f rfl rfl norm0_ ?_;refine any_call (rk_call (.of rfl) (.cons (.of rfl) .nil) inferInstance normc_) rfl (fun w' hm'=>(part2_c b4 2 w')) ?_;refine a_m rfl rfl ?_;refine any_val (rk_indexAddrA (.of rfl) (.of rfl) (by omega) (by omega) norm1_) rfl ?_;refine any_val (rk_load1 (.of rfl) (At.lit (.there (.there (.there .here))) rfl)) rfl ?_;refine any_val (rk_shrC (.of rfl) (.of rfl) rfl) rfl ?_;refine any_val (rk_conv (.of rfl)) rfl ?_;refine any_val (rk_mul (.of rfl) (.of rfl) (ini (by omega))) rfl ?_;refine a_m rfl rfl ?_;refine any_val (rk_indexAddrA (.of rfl) (.of rfl) (by omega) (by omega) norm1_) rfl ?_;refine any_val (rk_load1 (.of rfl) (At.lit (.there (.there (.there .here))) rfl)) rfl ?_;refine any_val (rk_and8 (.of rfl) (.of rfl)) rfl ?_;refine any_val (rk_conv (.of rfl)) rfl ?_;refine any_val (rk_add (.of rfl) (.of rfl) (ini (by omega))) rfl ?_;refine any_val (rk_nilCheck (.of rfl)) rfl ?_)
      rw [w1]
      skip
      rw [w2]
      skip
      with_reducible refine any_end ?_
      (refine tr_store (.of rfl) (.of rfl) (.there .here) rfl rfl (okc_cons rfl okc_nil) (lenb rfl) norm_ ?_;refine tr_nil ?_;refine tr_blk_normal ?_;refine tr_then ?_;refine tr_region ?_;refine tr_val (rk_add (.of rfl) (.of rfl) (ini (by omega))) rfl ?_;refine m_v rfl rfl ?_;refine n_t ?_)
      rw [show a1 / 16 * 10 + a1 % 16 = unb a1 from rfl]
      apply tr_next (Φ:=fun k:Nat=>k ≤ 4 ∧ (0 < k → badD a0 = false) ∧ (1 < k → badD a1 = false) ∧ (2 < k → badD a2 = false) ∧ (3 < k → badD a3 = false)) 2 ⟨show 2 ≤ 4 from of_decide_eq_true rfl,fun _=>hd0 (by decide),fun _=>hbd,fun h=>absurd h (by decide),fun h=>absurd h (by decide)⟩ (by show 4 - 2 < 4 - 1;omega)
      case hs1=>exact .cons rfl (.cons rfl (.cons rfl (.cons rfl (.cons rfl (.cons rfl .nil)))))
      case ht=>
        show Takes _ [blk b4 (.cells #[.int .i64 0,.bool false,.int .i64 0,.int .i64 0,.int .i64 (unb a1),.int .i64 (unb a0),.int .i64 0] 55 (0,0)),blk b2 (.cells #[.int .i64 0,.bool false,.int .i64 0,.int .i64 0,.int .i64 0,.int .i64 0,.int .i64 0] 55 (0,0)),blk b1 (.cells #[.int .u8 a0,.int .u8 a1,.int .u8 a2,.int .u8 a3,.int .u8 a4,.int .u8 a5,.int .u8 a6,.int .u8 a7,.int .u8 a8,.int .u8 a9] 51 (0,0))] _
        exact .cons .here (.cons (.there .here) (.cons (.there .here) .nil))
    · show Tr _ [] [(21,.int .i64 2),(20,.agg #[.func (.func 181) #[] #[],.func (.func 182) #[] #[],.func (.func 183) #[] #[],.func (.func 184) #[] #[]]),(4,.pointer (some ⟨b4,0,none⟩)),(3,.int .i64 0),(2,.pointer (some ⟨b2,0,none⟩)),(1,.pointer (some ⟨b1,0,none⟩))] [blk b4 (.cells #[.int .i64 0,.bool false,.int .i64 0,.int .i64 0,.int .i64 (unb a1),.int .i64 (unb a0),.int .i64 0] 55 (0,0)),blk b2 (.cells #[.int .i64 0,.bool false,.int .i64 0,.int .i64 0,.int .i64 0,.int .i64 0,.int .i64 0] 55 (0,0)),blk b1 (.cells #[.int .u8 a0,.int .u8 a1,.int .u8 a2,.int .u8 a3,.int .u8 a4,.int .u8 a5,.int .u8 a6,.int .u8 a7,.int .u8 a8,.int .u8 a9] 51 (0,0))] _
      (refine s_r ?_;refine tr_val (rk_lss (.of rfl) (.of rfl)) rfl ?_;refine n_t ?_;refine tr_seq ?_;refine c_d rfl (fun hcd=>?_) (fun _=>by omega);refine s_t ?_;refine tr_seq ?_;refine tr_block ?_;refine s_r ?_;refine m_v rfl rfl ?_;refine tr_val (rk_index (.of rfl) (.of rfl) (by omega) hcd norm_) rfl ?_;refine tr_new (rk_alloc rfl) rfl (fun _ _=>?_);refine a_s rfl rfl ?_;refine tr_store (.of rfl) (.of rfl) .here rfl rfl (okc_cons rfl okc_nil) (lenb rfl) norm_ ?_;refine n_t ?_;refine tr_seq ?_;refine s_r ?_;refine m_v rfl rfl ?_;refine tr_val (rk_indexAddrA (.of rfl) (.of rfl) (by omega) (by omega) norm1_) rfl ?_;refine tr_val (rk_load1 (.of rfl) (At.lit (.there (.there (.there .here))) rfl)) rfl ?_;refine tr_val (rk_shrC (.of rfl) (.of rfl) rfl) rfl ?_;refine tr_val (rk_gtr (.of rfl) (.of rfl)) rfl ?_;refine m_v rfl rfl ?_;refine v_g rfl rfl rfl rfl ?_;refine tr_vG1 rfl rfl inferInstance (fun hg hgp=>(rk_indexAddrA (.of rfl) (.ofg hg rfl) (by omega) (by omega) norm1_)) rfl ?_;refine tr_vG1 rfl rfl inferInstance (fun hg hgp=>(rk_load1 (.ofg hg rfl) (At.lit (.there (.there (.there .here))) rfl))) rfl ?_;refine tr_vG1 rfl rfl inferInstance (fun hg hgp=>(rk_and8 (.ofg hg rfl) (.of rfl))) rfl ?_;refine tr_vG1 rfl rfl inferInstance (fun hg hgp=>(rk_gtr (.ofg hg rfl) (.of rfl))) rfl ?_;refine tr_val (rk_pick_or (.of rfl) rfl) rfl ?_;refine n_t ?_;refine c_b rfl (fun hcd=>?_) (fun hcd=>?_);refine s_r ?_;refine tr_val (rk_buildL .nil norm_) rfl ?_;refine tr_store (.of rfl) (.of rfl) (.there (.there .here)) rfl rfl (okc_cons rfl (okc_cons rfl (okc_cons rfl (okc_cons rfl (okc_cons rfl (okc_cons rfl (okc_cons rfl okc_nil))))))) (lenb rfl) norm_ ?_;refine a_s rfl rfl ?_;refine n_t ?_;refine r_t ?_;refine tr_blk_ret ?_;refine tr_then_ret ?_;refine tr_then_ret ?_;refine tr_blk_ret ?_;refine tr_then_ret ?_;refine tr_retE rfl (endsCT rfl inferInstance rfl .here norm_ (by rfl) (by rfl)) ?_;rotate_left;refine s_t ?_;rotate_right)
      · obtain ⟨e1,e2⟩:=rdE_d n9 n7 (by
          have:=bad_of h2 (by simpa using hcd)
          show (badD a0 || badD a1 || badD a2 || badD a3) = true
          rw [this];simp)
        rw [e1,e2];rfl
      have hbd:=bad_not h2 (by simpa using hcd)
      clear hcd
      have w1:=hi_of h2
      have w2:=lo_of h2
      with_reducible refine tr_draw 17 (by kernel_rfl) ?_
      (refine a_f rfl rfl norm0_ ?_;refine any_val (rk_load1 (.of rfl) (At.lit .here rfl)) rfl ?_;refine a_f rfl rfl norm0_ ?_;refine any_call (rk_call (.of rfl) (.cons (.of rfl) .nil) inferInstance normc_) rfl (fun w' hm'=>(part3_c b4 2 w')) ?_;refine a_m rfl rfl ?_;refine any_val (rk_indexAddrA (.of rfl) (.of rfl) (by omega) (by omega) norm1_) rfl ?_;refine any_val (rk_load1 (.of rfl) (At.lit (.there (.there (.there .here))) rfl)) rfl ?_;refine any_val (rk_shrC (.of rfl) (.of rfl) rfl) rfl ?_;refine any_val (rk_conv (.of rfl)) rfl ?_;refine any_val (rk_mul (.of rfl) (.of rfl) (ini (by omega))) rfl ?_;refine a_m rfl rfl ?_;refine any_val (rk_indexAddrA (.of rfl) (.of rfl) (by omega) (by omega) norm1_) rfl ?_;refine any_val (rk_load1 (.of rfl) (At.lit (.there (.there (.there .here))) rfl)) rfl ?_;refine any_val (rk_and8 (.of rfl) (.of rfl)) rfl ?_;refine any_val (rk_conv (.of rfl)) rfl ?_;refine any_val (rk_add (.of rfl) (.of rfl) (ini (by omega))) rfl ?_;refine any_val (rk_nilCheck (.of rfl)) rfl ?_)
      rw [w1]
      skip
      rw [w2]
      skip
      with_reducible refine any_end ?_
      (refine tr_store (.of rfl) (.of rfl) (.there .here) rfl rfl (okc_cons rfl okc_nil) (lenb rfl) norm_ ?_;refine tr_nil ?_;refine tr_blk_normal ?_;refine tr_then ?_;refine tr_region ?_;refine tr_val (rk_add (.of rfl) (.of rfl) (ini (by omega))) rfl ?_;refine m_v rfl rfl ?_;refine n_t ?_)
      rw [show a2 / 16 * 10 + a2 % 16 = unb a2 from rfl]
      apply tr_next (Φ:=fun k:Nat=>k ≤ 4 ∧ (0 < k → badD a0 = false) ∧ (1 < k → badD a1 = false) ∧ (2 < k → badD a2 = false) ∧ (3 < k → badD a3 = false)) 3 ⟨show 3 ≤ 4 from of_decide_eq_true rfl,fun _=>hd0 (by decide),fun _=>hd1 (by decide),fun _=>hbd,fun h=>absurd h (by decide)⟩ (by show 4 - 3 < 4 - 2;omega)
      case hs1=>exact .cons rfl (.cons rfl (.cons rfl (.cons rfl (.cons rfl (.cons rfl .nil)))))
      case ht=>
        show Takes _ [blk b4 (.cells #[.int .i64 0,.bool false,.int .i64 0,.int .i64 (unb a2),.int .i64 (unb a1),.int .i64 (unb a0),.int .i64 0] 55 (0,0)),blk b2 (.cells #[.int .i64 0,.bool false,.int .i64 0,.int .i64 0,.int .i64 0,.int .i64 0,.int .i64 0] 55 (0,0)),blk b1 (.cells #[.int .u8 a0,.int .u8 a1,.int .u8 a2,.int .u8 a3,.int .u8 a4,.int .u8 a5,.int .u8 a6,.int .u8 a7,.int .u8 a8,.int .u8 a9] 51 (0,0))] _
        exact .cons .here (.cons (.there .here) (.cons (.there .here) .nil))
    · show Tr _ [] [(21,.int .i64 3),(20,.agg #[.func (.func 181) #[] #[],.func (.func 182) #[] #[],.func (.func 183) #[] #[],.func (.func 184) #[] #[]]),(4,.pointer (some ⟨b4,0,none⟩)),(3,.int .i64 0),(2,.pointer (some ⟨b2,0,none⟩)),(1,.pointer (some ⟨b1,0,none⟩))] [blk b4 (.cells #[.int .i64 0,.bool false,.int .i64 0,.int .i64 (unb a2),.int .i64 (unb a1),.int .i64 (unb a0),.int .i64 0] 55 (0,0)),blk b2 (.cells #[.int .i64 0,.bool false,.int .i64 0,.int .i64 0,.int .i64 0,.int .i64 0,.int .i64 0] 55 (0,0)),blk b1 (.cells #[.int .u8 a0,.int .u8 a1,.int .u8 a2,.int .u8 a3,.int .u8 a4,.int .u8 a5,.int .u8 a6,.int .u8 a7,.int .u8 a8,.int .u8 a9] 51 (0,0))] _
      (refine s_r ?_;refine tr_val (rk_lss (.of rfl) (.of rfl)) rfl ?_;refine n_t ?_;refine tr_seq ?_;refine c_d rfl (fun hcd=>?_) (fun _=>by omega);refine s_t ?_;refine tr_seq ?_;refine tr_block ?_;refine s_r ?_;refine m_v rfl rfl ?_;refine tr_val (rk_index (.of rfl) (.of rfl) (by omega) hcd norm_) rfl ?_;refine tr_new (rk_alloc rfl) rfl (fun _ _=>?_);refine a_s rfl rfl ?_;refine tr_store (.of rfl) (.of rfl) .here rfl rfl (okc_cons rfl okc_nil) (lenb rfl) norm_ ?_;refine n_t ?_;refine tr_seq ?_;refine s_r ?_;refine m_v rfl rfl ?_;refine tr_val (rk_indexAddrA (.of rfl) (.of rfl) (by omega) (by omega) norm1_) rfl ?_;refine tr_val (rk_load1 (.of rfl) (At.lit (.there (.there (.there .here))) rfl)) rfl ?_;refine tr_val (rk_shrC (.of rfl) (.of rfl) rfl) rfl ?_;refine tr_val (rk_gtr (.of rfl) (.of rfl)) rfl ?_;refine m_v rfl rfl ?_;refine v_g rfl rfl rfl rfl ?_;refine tr_vG1 rfl rfl inferInstance (fun hg hgp=>(rk_indexAddrA (.of rfl) (.ofg hg rfl) (by omega) (by omega) norm1_)) rfl ?_;refine tr_vG1 rfl rfl inferInstance (fun hg hgp=>(rk_load1 (.ofg hg rfl) (At.lit (.there (.there (.there .here))) rfl))) rfl ?_;refine tr_vG1 rfl rfl inferInstance (fun hg hgp=>(rk_and8 (.ofg hg rfl) (.of rfl))) rfl ?_;refine tr_vG1 rfl rfl inferInstance (fun hg hgp=>(rk_gtr (.ofg hg rfl) (.of rfl))) rfl ?_;refine tr_val (rk_pick_or (.of rfl) rfl) rfl ?_;refine n_t ?_;refine c_b rfl (fun hcd=>?_) (fun hcd=>?_);refine s_r ?_;refine tr_val (rk_buildL .nil norm_) rfl ?_;refine tr_store (.of rfl) (.of rfl) (.there (.there .here)) rfl rfl (okc_cons rfl (okc_cons rfl (okc_cons rfl (okc_cons rfl (okc_cons rfl (okc_cons rfl (okc_cons rfl okc_nil))))))) (lenb rfl) norm_ ?_;refine a_s rfl rfl ?_;refine n_t ?_;refine r_t ?_;refine tr_blk_ret ?_;refine tr_then_ret ?_;refine tr_then_ret ?_;refine tr_blk_ret ?_;refine tr_then_ret ?_;refine tr_retE rfl (endsCT rfl inferInstance rfl .here norm_ (by rfl) (by rfl)) ?_;rotate_left;refine s_t ?_;rotate_right)
      · obtain ⟨e1,e2⟩:=rdE_d n9 n7 (by
          have:=bad_of h3 (by simpa using hcd)
          show (badD a0 || badD a1 || badD a2 || badD a3) = true
          rw [this];simp)
        rw [e1,e2];rfl
      have hbd:=bad_not h3 (by simpa using hcd)
      clear hcd
      have w1:=hi_of h3
      have w2:=lo_of h3
      with_reducible refine tr_draw 17 (by kernel_rfl) ?_
      (refine a_f rfl rfl norm0_ ?_;refine any_val (rk_load1 (.of rfl) (At.lit .here rfl)) rfl ?_;refine a_f rfl rfl norm0_ ?_;refine any_call (rk_call (.of rfl) (.cons (.of rfl) .nil) inferInstance normc_) rfl (fun w' hm'=>(part4_c b4 2 w')) ?_;refine a_m rfl rfl ?_;refine any_val (rk_indexAddrA (.of rfl) (.of rfl) (by omega) (by omega) norm1_) rfl ?_;refine any_val (rk_load1 (.of rfl) (At.lit (.there (.there (.there .here))) rfl)) rfl ?_;refine any_val (rk_shrC (.of rfl) (.of rfl) rfl) rfl ?_;refine any_val (rk_conv (.of rfl)) rfl ?_;refine any_val (rk_mul (.of rfl) (.of rfl) (ini (by omega))) rfl ?_;refine a_m rfl rfl ?_;refine any_val (rk_indexAddrA (.of rfl) (.of rfl) (by omega) (by omega) norm1_) rfl ?_;refine any_val (rk_load1 (.of rfl) (At.lit (.there (.there (.there .here))) rfl)) rfl ?_;refine any_val (rk_and8 (.of rfl) (.of rfl)) rfl ?_;refine any_val (rk_conv (.of rfl)) rfl ?_;refine any_val (rk_add (.of rfl) (.of rfl) (ini (by omega))) rfl ?_;refine any_val (rk_nilCheck (.of rfl)) rfl ?_)
      rw [w1]
      skip
      rw [w2]
      skip
      with_reducible refine any_end ?_
      (refine tr_store (.of rfl) (.of rfl) (.there .here) rfl rfl (okc_cons rfl okc_nil) (lenb rfl) norm_ ?_;refine tr_nil ?_;refine tr_blk_normal ?_;refine tr_then ?_;refine tr_region ?_;refine tr_val (rk_add (.of rfl) (.of rfl) (ini (by omega))) rfl ?_;refine m_v rfl rfl ?_;refine n_t ?_)
      rw [show a3 / 16 * 10 + a3 % 16 = unb a3 from rfl]
      apply tr_next (Φ:=fun k:Nat=>k ≤ 4 ∧ (0 < k → badD a0 = false) ∧ (1 < k → badD a1 = false) ∧ (2 < k → badD a2 = false) ∧ (3 < k → badD a3 = false)) 4 ⟨show 4 ≤ 4 from of_decide_eq_true rfl,fun _=>hd0 (by decide),fun _=>hd1 (by decide),fun _=>hd2 (by decide),fun _=>hbd⟩ (by show 4 - 4 < 4 - 3;omega)
      case hs1=>exact .cons rfl (.cons rfl (.cons rfl (.cons rfl (.cons rfl (.cons rfl .nil)))))
      case ht=>
        show Takes _ [blk b4 (.cells #[.int .i64 0,.bool false,.int .i64 (unb a3),.int .i64 (unb a2),.int .i64 (unb a1),.int .i64 (unb a0),.int .i64 0] 55 (0,0)),blk b2 (.cells #[.int .i64 0,.bool false,.int .i64 0,.int .i64 0,.int .i64 0,.int .i64 0,.int .i64 0] 55 (0,0)),blk b1 (.cells #[.int .u8 a0,.int .u8 a1,.int .u8 a2,.int .u8 a3,.int .u8 a4,.int .u8 a5,.int .u8 a6,.int .u8 a7,.int .u8 a8,.int .u8 a9] 51 (0,0))] _
        exact .cons .here (.cons (.there .here) (.cons (.there .here) .nil))
  · obtain rfl:k = 4:=by omega
    have nd:¬ (badD (wa [a0,a1,a2,a3,a4,a5,a6,a7,a8,a9] 0) || badD (wa [a0,a1,a2,a3,a4,a5,a6,a7,a8,a9] 1) || badD (wa [a0,a1,a2,a3,a4,a5,a6,a7,a8,a9] 2) || badD (wa [a0,a1,a2,a3,a4,a5,a6,a7,a8,a9] 3)) = true:=by
      show ¬ (badD a0 || badD a1 || badD a2 || badD a3) = true
      rw [hd0 (by decide),hd1 (by decide),hd2 (by decide),hd3 (by decide)];decide
    have hR:=rdE_r n9 n7 nd
    clear hd0 hd1 hd2 hd3 hlt hk
    have e1:IntKind.i64.wrap (anotF a4 128) = a4 % 128:=by rw [(rate_bits h4).1];exact i64w (by omega)
    have e2:decide (0 < andF a4 128) = decide (128 ≤ a4):=by rw [(rate_bits h4).2,decide_eq_decide];omega
    have e3:IntKind.i64.wrap a5 = a5:=i64w (by omega)
    have e4:IntKind.i64.wrap a6 = a6:=i64w (by omega)
    have e5:IntKind.i64.wrap (a5 * 2 ^ (8:Int).toNat) = a5 * 256:=i64w (by show _ ≤ a5 * 256 ∧ a5 * 256 ≤ _;omega)
    have e5':IntKind.i64.wrap (a5 * 2 ^ 8) = a5 * 256:=i64w (by omega)
    have hrt:=rt_ok h4
    have hst:stmW [a0,a1,a2,a3,a4,a5,a6,a7,a8,a9] = ⟨⟨a4 % 128,decide (128 ≤ a4)⟩,⟨unb a3,unb a2,unb a1,unb a0⟩,a5 * 256 + a6⟩:=rfl
    have hw4:wa [a0,a1,a2,a3,a4,a5,a6,a7,a8,a9] 4 = a4:=rfl
    rw [hw4,hst] at hR
    have hF:rdF [a0,a1,a2,a3,a4,a5,a6,a7,a8,a9] = if rdE [a0,a1,a2,a3,a4,a5,a6,a7,a8,a9] = 0 then ⟨⟨a4 % 128,decide (128 ≤ a4)⟩,⟨unb a3,unb a2,unb a1,unb a0⟩,a5 * 256 + a6⟩ else Stm.zero:=rfl
    have hcr:∀ w',Keeps [] w w' → GivesV Tryz.prog 25 [.agg #[.int .i64 (a4 % 128),.bool (decide (128 ≤ a4))]] w' (.int .i64 (rateF ⟨a4 % 128,decide (128 ≤ a4)⟩)):=fun w' hk=>chkRate_c ⟨a4 % 128,decide (128 ≤ a4)⟩ w' (hG.keeps hk)
    have hcs:∀ w',Keeps [] w w' → GivesV Tryz.prog 40 [.agg #[.int .i64 (a4 % 128),.bool (decide (128 ≤ a4)),.int .i64 (unb a3),.int .i64 (unb a2),.int .i64 (unb a1),.int .i64 (unb a0),.int .i64 (a5 * 256 + a6)]] w' (.int .i64 (stmE ⟨⟨a4 % 128,decide (128 ≤ a4)⟩,⟨unb a3,unb a2,unb a1,unb a0⟩,a5 * 256 + a6⟩)):=fun w' hk=>chkStamp_c ⟨⟨a4 % 128,decide (128 ≤ a4)⟩,⟨unb a3,unb a2,unb a1,unb a0⟩,a5 * 256 + a6⟩ w' (hG.keeps hk)
    show Tr _ [] [(21,.int .i64 4),(20,.agg #[.func (.func 181) #[] #[],.func (.func 182) #[] #[],.func (.func 183) #[] #[],.func (.func 184) #[] #[]]),(4,.pointer (some ⟨b4,0,none⟩)),(3,.int .i64 0),(2,.pointer (some ⟨b2,0,none⟩)),(1,.pointer (some ⟨b1,0,none⟩))] [blk b4 (.cells #[.int .i64 0,.bool false,.int .i64 (unb a3),.int .i64 (unb a2),.int .i64 (unb a1),.int .i64 (unb a0),.int .i64 0] 55 (0,0)),blk b2 (.cells #[.int .i64 0,.bool false,.int .i64 0,.int .i64 0,.int .i64 0,.int .i64 0,.int .i64 0] 55 (0,0)),blk b1 (.cells #[.int .u8 a0,.int .u8 a1,.int .u8 a2,.int .u8 a3,.int .u8 a4,.int .u8 a5,.int .u8 a6,.int .u8 a7,.int .u8 a8,.int .u8 a9] 51 (0,0))] _
    (refine s_r ?_;refine tr_val (rk_lss (.of rfl) (.of rfl)) rfl ?_;refine n_t ?_;refine tr_seq ?_;refine c_d rfl (fun _=>by omega) (fun hcd=>?_);refine x_t ?_;refine tr_then_exit ?_;refine tr_blk_exit ?_;refine tr_then ?_;refine s_r ?_;refine tr_val (rk_indexAddrA (.of rfl) (.of rfl) (by omega) (by omega) norm1_) rfl ?_;refine tr_val (rk_load1 (.of rfl) (At.lit (.there (.there .here)) rfl)) rfl ?_;refine tr_val (rk_andNot8 (.of rfl) (.of rfl)) rfl ?_;refine tr_val (rk_conv (.of rfl)) rfl ?_;refine tr_val (rk_indexAddrA (.of rfl) (.of rfl) (by omega) (by omega) norm1_) rfl ?_;refine tr_val (rk_load1 (.of rfl) (At.lit (.there (.there .here)) rfl)) rfl ?_;refine tr_val (rk_and8 (.of rfl) (.of rfl)) rfl ?_;refine tr_val (rk_gtr (.of rfl) (.of rfl)) rfl ?_;refine tr_val (rk_buildL (.cons (.of rfl) (.cons (.of rfl) .nil)) norm_) rfl ?_;refine f_a rfl rfl norm0_ ?_;refine tr_store (.of rfl) (.of rfl) .here rfl rfl (okc_cons rfl (okc_cons rfl okc_nil)) (lenb rfl) norm_ ?_;refine n_r ?_;refine tr_val (rk_indexAddrA (.of rfl) (.of rfl) (by omega) (by omega) norm1_) rfl ?_;refine tr_val (rk_load1 (.of rfl) (At.lit (.there (.there .here)) rfl)) rfl ?_;refine tr_val (rk_conv (.of rfl)) rfl ?_;refine tr_val (rk_shlC (.of rfl) (.of rfl) rfl) rfl ?_;refine tr_val (rk_indexAddrA (.of rfl) (.of rfl) (by omega) (by omega) norm1_) rfl ?_;refine tr_val (rk_load1 (.of rfl) (At.lit (.there (.there .here)) rfl)) rfl ?_;refine tr_val (rk_conv (.of rfl)) rfl ?_)
    rw [e1]
    skip
    rw [e2]
    skip
    rw [e3]
    (refine tr_val (rk_add (.of rfl) (.of rfl) (ini (by omega))) rfl ?_;refine f_a rfl rfl norm0_ ?_;refine tr_store (.of rfl) (.of rfl) .here rfl rfl (okc_cons rfl okc_nil) (lenb rfl) norm_ ?_;refine n_t ?_;refine tr_seq ?_;refine s_r ?_;refine f_a rfl rfl norm0_ ?_;refine tr_val (rk_loadB (.of rfl) .here norm_ (by rfl)) rfl ?_;refine tr_callV (rk_call (.of rfl) (.cons (.of rfl) .nil) inferInstance normc_) rfl (fun w' hm'=>(hcr w' (Mem.keeps hm'))) ?_;refine tr_val (rk_neq (.of rfl) (.of rfl)) rfl ?_;refine n_t ?_;refine c_d rfl (fun hcd=>?_) (fun hcd=>?_);refine s_r ?_;refine tr_val (rk_buildL .nil norm_) rfl ?_;refine tr_store (.of rfl) (.of rfl) (.there .here) rfl rfl (okc_cons rfl (okc_cons rfl (okc_cons rfl (okc_cons rfl (okc_cons rfl (okc_cons rfl (okc_cons rfl okc_nil))))))) (lenb rfl) norm_ ?_;refine a_s rfl rfl ?_;refine n_t ?_;refine r_t ?_;refine tr_retE rfl (endsCT rfl inferInstance rfl .here norm_ (by rfl) (by rfl)) ?_;rotate_left;refine s_t ?_;refine tr_seq ?_;refine s_r ?_;refine tr_val (rk_loadB (.of rfl) .here norm_ (by rfl)) rfl ?_;rotate_right)
    · have:¬ rtOkB a4 = true:=fun h=>hcd (hrt.1 h)
      rw [if_neg this] at hR
      rw [hF,hR,if_neg (by decide)];rfl
    have hr:rtOkB a4 = true:=hrt.2 (Decidable.not_not.1 hcd)
    rw [if_pos hr] at hR
    clear hcd
    rw [e5,e5',e4]
    (refine tr_callV (rk_call (.of rfl) (.cons (.of rfl) .nil) inferInstance normc_) rfl (fun w' hm'=>(hcs w' (Mem.keeps hm'))) ?_;refine a_s rfl rfl ?_;refine n_r ?_;refine m_v rfl rfl ?_;refine tr_val (rk_neq (.of rfl) (.of rfl)) rfl ?_;refine n_t ?_;refine c_d rfl (fun hcd=>?_) (fun hcd=>?_);refine s_r ?_;refine tr_val (rk_buildL .nil norm_) rfl ?_;refine m_v rfl rfl ?_;refine tr_store (.of rfl) (.of rfl) (.there .here) rfl rfl (okc_cons rfl (okc_cons rfl (okc_cons rfl (okc_cons rfl (okc_cons rfl (okc_cons rfl (okc_cons rfl okc_nil))))))) (lenb rfl) norm_ ?_;refine a_s rfl rfl ?_;refine n_t ?_;refine r_t ?_;refine tr_retE rfl (endsCT rfl inferInstance rfl .here norm_ (by rfl) (by rfl)) ?_;rotate_left;refine s_t ?_;refine s_r ?_;refine tr_val (rk_loadB (.of rfl) .here norm_ (by rfl)) rfl ?_;refine tr_store (.of rfl) (.of rfl) (.there .here) rfl rfl (okc_cons rfl (okc_cons rfl (okc_cons rfl (okc_cons rfl (okc_cons rfl (okc_cons rfl (okc_cons rfl okc_nil))))))) (lenb rfl) norm_ ?_;refine a_s rfl rfl ?_;refine n_t ?_;refine tr_ret ?_;refine tr_retE rfl (endsCT rfl inferInstance rfl .here norm_ (by rfl) (by rfl)) ?_;rotate_right)
    · rw [hF,hR,if_neg hcd];rfl
    · have hz:=Decidable.not_not.1 hcd
      rw [hF,hR,if_pos hz,hz]
theorem read_c (W:List Int) (hl:W.length = 10) (hb:∀ x ∈ W,0 ≤ x ∧ x ≤ 255) (w:World) (hG:GlobR w):GivesV Tryz.prog 36 [.agg (wcells W).toArray] w (.tuple #[.agg (rdF W).cells.toArray,.int .i64 (rdE W)]):=by
  match W,hl with
  | [a0,a1,a2,a3,a4,a5,a6,a7,a8,a9],_=>exact read10_c a0 a1 a2 a3 a4 a5 a6 a7 a8 a9 hb w hG
end Go.Proofs.A1
