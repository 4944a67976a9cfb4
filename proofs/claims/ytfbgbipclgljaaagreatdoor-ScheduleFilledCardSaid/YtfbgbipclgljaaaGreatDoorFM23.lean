/- Parts of the proof: S83 S84p R1 R2 R3 R4 R5. -/
import Derived.Test.YtfbgbipclgljaaaGreatDoorFM22
import Derived.Shelf.Slices.In.SortNone
import Derived.Test.YtfbgbipclgljaaaGreatDoorFM06
import Derived.Test.YtfbgbipclgljaaaGreatDoorFM21
set_option linter.unusedSectionVars false
set_option linter.unusedVariables false
set_option linter.unusedSimpArgs false
namespace Go.Proofs.A1
open Go Go.SL
theorem put_heap {α:Type} [Inhabited α] {enc:α → Value} {w:World} {g n:Nat} {os:Array Obj} {cur:Array Value} {e:TypeId} {fr:Nat × Nat} (d:Array α) (hb:w.heap[g]? = some (.cells cur e fr)) :
    (Go.Sort.grow (Go.Sort.putRow enc (Go.Sort.ahead w n) g 0 d) os).heap[g]? = some (.cells (Go.Sort.putCells enc 0 d cur) e fr):=by
  have hg:g < w.heap.size:=(Array.getElem?_eq_some_iff.1 hb).1
  rw [Go.Sort.heap_grow_old _ _ (by simpa using hg)]
  simp [Go.Sort.putRow,Go.Sort.mapBlock,Go.Sort.ahead,Array.getElem?_modify,hb,Go.Sort.onCells]
theorem put_keeps {α:Type} [Inhabited α] {enc:α → Value} {w:World} {g n:Nat} {os:Array Obj} (d:Array α):Keeps [g] w (Go.Sort.grow (Go.Sort.putRow enc (Go.Sort.ahead w n) g 0 d) os):=by
  refine ⟨rfl,rfl,rfl,by simp,fun k hk hne=>?_⟩
  rw [Go.Sort.heap_grow_old _ _ (by simpa using hk)]
  have:g ≠ k:=fun e=>hne (by rw [e];simp)
  simp [Go.Sort.putRow,Go.Sort.mapBlock,Go.Sort.ahead,Array.getElem?_modify,this]
theorem take_put {α:Type} [Inhabited α] {enc:α → Value} (cur:Array Value) (ts:List α) (h:ts.length ≤ cur.size):(Go.Sort.putCells enc 0 ts.toArray cur).toList.take ts.length = ts.map enc:=by
  apply List.ext_getElem?
  intro j
  by_cases hj:j < ts.length
  · rw [List.getElem?_take_of_lt hj,Array.getElem?_toList]
    simp [Go.Sort.putCells,hj,show j < cur.size by omega]
  · rw [List.getElem?_take_eq_none (by omega),List.getElem?_eq_none (by simp;omega)]
theorem holds_ints {w:World} {g:Nat} {cur:Array Value} {e:TypeId} {l:List Int} (hb:w.heap[g]? = some (.cells cur e (0,0))) (ht:cur.toList.take l.length = intsV l):Go.Sort.Holds (Value.int .i64) w g 0 l.toArray:=by
  intro j hj
  have hj':j < l.length:=by simpa using hj
  refine ⟨?_,by simp [World.frozen?,hb]⟩
  have h1:(cur.toList.take l.length)[j]? = (intsV l)[j]?:=by rw [ht]
  rw [List.getElem?_take_of_lt hj'] at h1
  simp only [World.cell?,hb,Nat.zero_add]
  simp only [Option.isSome_none,Bool.false_eq_true,if_false]
  rw [Array.getElem?_toList] at h1
  rw [h1]
  simp [intsV,hj']
def srt (l:List Int):List Int:=l.mergeSort fun x y=>decide (x ≤ y)
theorem srt_len (l:List Int):(srt l).length = l.length:=List.length_mergeSort _
theorem sort_c {v:Value} {l:List Int} {n:Nat} {w:World} {fp:List Nat} (hn:n = l.length) (hl:n ≤ 1000000) (hs:Sats (hp w) [row 3 1 v n (intsV l)] fp) :
    Gives Tryz.prog 204 [v] w fp (fun _:Unit=>True) (fun _=>.tuple #[]) (fun _=>[row 3 1 v n (intsV (srt l))]):=by
  obtain ⟨f1,f2,rfl,h1,h2⟩:=hs
  obtain rfl:f2 = []:=h2
  obtain ⟨rfl,hlen,h1⟩:=h1
  rw [List.append_nil]
  rcases h1 with ⟨rfl,h0⟩ | ⟨g,cap,cur,rfl,hg,hc1,hc2,hc3,hc4⟩
  · have hl0:l = []:=List.eq_nil_of_length_eq_zero (by omega)
    refine (Any.slices_Sort_int_none Tryz.lays189 none 0 w).mono fun e w' ⟨he,hw⟩=>?_
    subst hw
    refine ⟨(),he,trivial,.refl _ _,[],List.nodup_nil,⟨[],[],rfl,⟨rfl,?_,.inl ⟨rfl,h0⟩⟩,rfl⟩,by simp⟩
    rw [intsV_length,srt_len];omega
  · rw [Nat.mul_one] at hc3 hc4
    have hgl:g < w.heap.size:=(Array.getElem?_eq_some_iff.1 hg).1
    subst hn
    refine (Tryz.slices_Sort_int g 0 cap l w (holds_ints hg hc4) hgl (by omega)).mono fun e w' ⟨he,m,os,hw⟩=>?_
    subst hw
    refine ⟨(),he,trivial,put_keeps _,[g],by simp,⟨[g],[],rfl,⟨rfl,?_,.inr ⟨g,cap,_,rfl,put_heap _ hg,hc1,hc2,?_,?_⟩⟩,rfl⟩,by simp [Value.ownBlock]⟩
    · rw [intsV_length,srt_len];omega
    · simp [Go.Sort.putCells,hc3]
    · rw [Nat.mul_one]
      have:=take_put (enc:=Value.int .i64) cur (srt l) (by rw [srt_len];omega)
      rw [srt_len] at this
      exact this
theorem compact_le (l:List Int):(Go.Lib.compact l).length ≤ l.length:=by
  unfold Go.Lib.compact Go.Lib.compactUpTo
  rw [List.length_map]
  refine Nat.le_trans (List.length_filter_le _ _) ?_
  simp
theorem compact_c {v:Value} {l:List Int} {n:Nat} {w:World} {fp:List Nat} (hn:n = l.length) (hl:n ≤ 1000000) (hs:Sats (hp w) [row 3 1 v n (intsV l)] fp) :
    Gives Tryz.prog 164 [v] w fp (fun _:Value=>True) id (fun v'=>[row 3 1 v' (Go.Lib.compact l).length (intsV (Go.Lib.compact l))]):=by
  obtain ⟨f1,f2,rfl,h1,h2⟩:=hs
  obtain rfl:f2 = []:=h2
  obtain ⟨rfl,hlen,h1⟩:=h1
  rw [List.append_nil]
  have hle:=compact_le l
  rcases h1 with ⟨rfl,h0⟩ | ⟨g,cap,cur,rfl,hg,hc1,hc2,hc3,hc4⟩
  · have hl0:(Go.Lib.compact l).length = 0:=by omega
    refine (Tryz.slices_Compact_int_empty none 0 w).mono fun e w' ⟨he,hw⟩=>?_
    subst hw
    refine ⟨.slice none 0 0,he,trivial,.refl _ _,[],List.nodup_nil,⟨[],[],rfl,⟨rfl,?_,.inl ⟨rfl,hl0⟩⟩,rfl⟩,by simp⟩
    rw [intsV_length];omega
  · rw [Nat.mul_one] at hc3 hc4
    have hgl:g < w.heap.size:=(Array.getElem?_eq_some_iff.1 hg).1
    subst hn
    refine (Tryz.slices_Compact_int g 0 cap l w (holds_ints hg hc4) (by omega) hc1).mono fun e w' ⟨he,m,hw⟩=>?_
    have hw2:w' = Go.Sort.grow (Go.Sort.putRow (Value.int .i64) (Go.Sort.ahead w m) g 0 (Go.Lib.compact l++List.replicate (l.length - (Go.Lib.compact l).length) 0).toArray) #[]:=by rw [hw];simp
    subst hw2
    clear hw
    refine ⟨.slice (some ⟨g,0,none⟩) (Go.Lib.compact l).length cap,he,trivial,put_keeps _,[g],by simp,⟨[g],[],rfl,⟨rfl,?_,.inr ⟨g,cap,_,rfl,put_heap _ hg,by omega,hc2,?_,?_⟩⟩,rfl⟩,by simp [Value.ownBlock]⟩
    · rw [intsV_length];omega
    · simp [Go.Sort.putCells,hc3]
    · rw [Nat.mul_one]
      have:=take_put (enc:=Value.int .i64) cur (Go.Lib.compact l++List.replicate (l.length - (Go.Lib.compact l).length) 0) (by simp;omega)
      have h2:=congrArg (List.take (Go.Lib.compact l).length) this
      rw [List.take_take,List.map_append,Nat.min_eq_left (by simp),List.take_append_of_le_length (by simp),List.take_of_length_le (l:=List.map (Value.int .i64) (Go.Lib.compact l)) (by simp)] at h2
      exact h2
theorem values_c (a:Option Addr) (n cp:Nat) (w:World) :
    Gives Tryz.prog 166 [.slice a n cp] w [] (fun _:Nat=>True) (fun x=>.func (.func 205) #[] #[.pointer (some ⟨x,0,none⟩)]) (fun x=>[blk x (.cells #[.slice a n cp] 44 (0,0))]):=by
  refine gives_of_tr Tryz.func166 rfl rfl ?_
  (refine s_r ?_;refine tr_new (rk_box (.of rfl) rfl) rfl (fun _ _=>?_);refine a_s rfl rfl ?_;refine n_r ?_;refine tr_val (rk_makeFunc' .nil (.cons (.of rfl) .nil)) rfl ?_;refine a_s rfl rfl ?_;refine n_t ?_;refine tr_ret ?_)
  rename_i b hb
  first | with_reducible apply tr_retM | with_reducible apply tr_endM
  case he=>exact ends1 rfl rfl
  case hR=>
    intro w' hm'
    exact gives_end b trivial (by exact .cons .here .nil) hm' rfl
def iItems (l:List Int):List (List Value):=l.map fun i=>[Value.int .i64 i]
theorem iItems_length (l:List Int):(iItems l).length = l.length:=by simp [iItems]
theorem iItems_get {l:List Int} {k:Nat} (h:k < l.length):(iItems l)[k]? = some [.int .i64 l[k]]:=by simp [iItems,h]
theorem valIter_c {bx:Nat} {sv:Value} {l:List Int} {w0 w:World} {md:List Nat} (hcb:w0.cell? ⟨bx,0,none⟩ = some sv) (h1:Rd w0 sv 1 (ints l)) (hmd:bx ∉ md) (o1:Out md sv (ints l)) :
    Iter Tryz.prog 205 [] [.pointer (some ⟨bx,0,none⟩)] [] (iItems l) w0 md w:=by
  intro l' fp J E hB hF hn hs hy
  have hrd1:=h1.keepsN o1 hB
  have ho1:=h1.out (by omega) o1 hF
  have hcb':=cell_keepsN hcb hmd hB
  have hnbx:bx ∉ fp:=fun hq=>by
    have hb:=World.block_lt_of_cell? w0 _ hcb
    rcases hF _ hq with h | h
    · exact hmd h
    · exact absurd hb (by simp;omega)
  rw [iItems_length]
  obtain ⟨a,cap,b,o,rfl,hcap,hmax,ha,hc⟩:=hrd1
  rw [ints_length] at *
  unfold maxLen at hmax
  refine givesM_of_tr Tryz.func205 rfl rfl hn hs ?_
  (refine s_r ?_;refine tr_val (rk_load1 (.of rfl) (At.baseN hcb' hnbx)) rfl ?_;refine tr_val (rk_len_slice (.of rfl)) rfl ?_;refine m_v rfl rfl ?_;refine n_t ?_;refine tr_block ?_)
  refine tr_for (fun k:Nat=>k ≤ l.length) (fun k=>[(7,.int .i64 k),(6,.int .i64 l.length),(5,.slice a l.length cap),(0,.func (.yield l') #[] #[])])
    (fun k=>[J k]) (fun k=>l.length - k) ?_ ?_
  · apply tr_start 0 (by omega)
    case hs1=>exact .cons rfl (.cons rfl (.cons rfl (.cons rfl .nil)))
    case ht=>exact .cons .here .nil
  intro k hk
  by_cases hlt:k < l.length
  · have ha':=ha (ints_ne hlt)
    have c0:w.cell? ⟨b,o + k * 1,none⟩ = some (.int .i64 l[k]):=(hc k _ (ints_get hlt)).2 0 _ rfl
    have hnb:=ho1.not_mem (ints_ne hlt) ha'
    have hyk:=hy k _ (iItems_get hlt)
    (refine s_r ?_;refine tr_val (rk_lss (.of rfl) (.of rfl)) rfl ?_;refine n_t ?_;refine tr_seq ?_;refine c_d rfl (fun hcd=>?_) (fun _=>by omega);refine s_t ?_;refine tr_seq ?_;refine tr_block ?_;refine s_r ?_;refine tr_val (rk_indexAddr (.of rfl) (.of rfl) ha' (by omega) hcd norm1_) rfl ?_;refine tr_val (rk_load1 (.of rfl) (At.baseN c0 hnb)) rfl ?_;refine a_s rfl rfl ?_;refine n_r ?_;refine m_v rfl rfl ?_;refine m_v rfl rfl ?_)
    with_reducible apply tr_yieldB hB hF hyk
    case hx=>exact Is.of rfl
    case ha=>exact .cons (.of rfl) .nil
    case hd=>rfl
    case ht=>exact .here
    intro q
    cases q with
    | false =>
      simp only [cond_false]
      (refine tr_val (rk_not (.of rfl)) rfl ?_;refine n_t ?_;refine tr_cond_t (.of rfl) ?_;refine tr_ret ?_;refine tr_blk_ret ?_;refine tr_then_ret ?_;refine tr_then_ret ?_;refine tr_blk_ret ?_)
      first | with_reducible apply tr_retM | with_reducible apply tr_endM
      case he=>exact ends0 rfl
      case hR=>
        intro w' hm'
        exact gives_end false trivial (show Takes _ [E] _ by exact .cons .here .nil) hm' rfl
    | true =>
      simp only [cond_true]
      (refine tr_val (rk_not (.of rfl)) rfl ?_;refine n_t ?_;refine tr_cond_f (.of rfl) ?_;refine tr_skip ?_;refine tr_blk_normal ?_;refine tr_then ?_;refine tr_region ?_;refine tr_val (rk_add (.of rfl) (.of rfl) (ini (by omega))) rfl ?_;refine m_v rfl rfl ?_;refine n_t ?_)
      apply tr_next (k + 1) (by omega) (by omega)
      case hs1=>exact .cons rfl (.cons rfl (.cons rfl (.cons rfl .nil)))
      case ht=>exact .cons .here .nil
  · obtain rfl:k = l.length:=by omega
    (refine s_r ?_;refine tr_val (rk_lss (.of rfl) (.of rfl)) rfl ?_;refine n_t ?_;refine tr_seq ?_;refine c_d rfl (fun _=>by omega) (fun hcd=>?_);refine x_t ?_;refine tr_then_exit ?_;refine tr_blk_exit ?_)
    first | with_reducible apply tr_retM | with_reducible apply tr_endM
    case he=>exact ends0 rfl
    case hR=>
      intro w' hm'
      exact gives_end true trivial (show Takes _ [J l.length] _ by exact .cons .here .nil) hm' rfl
theorem ints_take {l:List Int} {k:Nat} (h:k < l.length):intsV (l.take (k + 1)) = intsV (l.take k)++[.int .i64 l[k]]:=by
  rw [List.take_add_one,List.getElem?_eq_getElem h,intsV_app];rfl
theorem appSeq_c {bx:Nat} {sv:Value} {l:List Int} {w:World} (hcb:w.cell? ⟨bx,0,none⟩ = some sv) (h1:Rd w sv 1 (ints l)) (hl:l.length ≤ 1000000) :
    Gives Tryz.prog 220 [.slice none 0 0,.func (.func 205) #[] #[.pointer (some ⟨bx,0,none⟩)]] w [] (fun _:Value=>True) id (fun v=>[row 3 1 v l.length (intsV l)]):=by
  refine gives_of_tr Tryz.func220 rfl rfl ?_
  (refine s_r ?_;refine tr_new (rk_box (.of rfl) rfl) rfl (fun _ _=>?_);refine a_s rfl rfl ?_;refine n_t ?_;refine tr_seq ?_;refine s_r ?_;refine m_v rfl rfl ?_;refine n_t ?_;refine tr_block ?_)
  rename_i b2 hb2
  refine tr_rowNil 3 1 ?_
  refine tr_rangeSeq (ps:=[7]) (f:=205) (first:=[]) (cap:=[.pointer (some ⟨bx,0,none⟩)]) (ι:=Nat × Value) (κ:=Empty) (rst:=[]) ?hg
    [] (iItems l) ?hit (fun k x=>x.1 = k ∧ k ≤ l.length)
    (fun x=>[blk b2 (.cells #[x.2] 44 (0,0)),row 3 1 x.2 x.1 (intsV (l.take x.1))])
    (fun _=>False) (fun _=>[]) (fun _=>.ret) (0,.slice none 0 0) ⟨rfl,Nat.zero_le _⟩ ?ht ?hlen ?hps ?round ?kn ?kj
  case hg=>exact Is.of rfl
  case hit=>intro w' hm';exact valIter_c hcb h1 (by simp) (Out.nil _ _)
  case ht=>
    show Takes _ [blk b2 (.cells #[.slice none 0 0] 44 (0,0)),row 3 1 (.slice none 0 0) 0 []] _
    exact .cons (.there .here) (.cons .here .nil)
  case hlen=>intro vs hvs;obtain ⟨x,_,rfl⟩:=List.mem_map.1 hvs;rfl
  case hps=>intro t ht;simp only [List.mem_cons,List.not_mem_nil,or_false] at ht;subst ht;exact Nat.le_of_ble_eq_true rfl
  case kj=>intro y;cases y
  case kn=>
    rintro ⟨n,v⟩ D ⟨hq,_⟩
    dsimp only [List.cons_append,List.nil_append] at hq ⊢
    rw [iItems_length] at hq
    subst hq
    rw [List.take_length]
    (refine tr_blk_normal ?_;refine tr_then ?_;refine s_r ?_;refine tr_val (rk_load1 (.of rfl) (At.lit .here rfl)) rfl ?_;refine a_s rfl rfl ?_;refine n_t ?_;refine tr_ret ?_)
    refine tr_rowSl (E:=3) (sz:=1) (by exact Take.there .here) fun va vc e=>?_
    subst e
    skip
    first | with_reducible apply tr_retM | with_reducible apply tr_endM
    case he=>exact ends1 rfl rfl
    case hR=>
      intro w' hm'
      exact gives_end (.slice va l.length vc) trivial (show Takes _ [row 3 1 (.slice va l.length vc) l.length (intsV l)] _ by exact .cons (.there .here) .nil) hm' rfl
  case round=>
    rintro l2 rc W fp k ⟨n,v⟩ vs hsz hk ⟨hq,hkl⟩ hB hF
    dsimp only at hq
    subst hq
    have hlt:n < l.length:=by have:=(List.getElem?_eq_some_iff.1 hk).1;rwa [iItems_length] at this
    rw [iItems_get hlt,Option.some.injEq] at hk
    subst hk
    have htk:=ints_take hlt
    have hlk:(l.take n).length = n:=List.length_take_of_le (by omega)
    dsimp only [List.zip_cons_cons,List.zip_nil_right,putAll,List.cons_append,List.nil_append]
    (refine tr_region ?_;refine a_s rfl rfl ?_;refine n_t ?_)
    with_reducible apply tr_begin
    case ht=>exact .here
    refine tr_rowSl (E:=3) (sz:=1) (by exact Take.there (.there .here)) fun v1 v2 e=>?_
    subst e
    (refine tr_block ?_;refine tr_region ?_;refine tr_val (rk_load1 (.of rfl) (At.lit (.there .here) rfl)) rfl ?_;refine m_v rfl rfl ?_;refine tr_new (rk_sliceLit (.cons (.of rfl) .nil) rfl rfl rfl rfl) rfl (fun _ _=>?_))
    refine tr_appendB (.of rfl) (.of rfl) (.there (.there (.there .here))) .here norm_ (by rfl) (okc_cons rfl okc_nil) (by rfl) (by rfl) (by rfl) lenx_ (by rfl) ?_
    intro v'
    refine tr_rowSl (by exact .here) fun a' cap' e=>?_
    subst e
    (refine tr_store (.of rfl) (.of rfl) (.there (.there (.there .here))) rfl rfl (okc_cons rfl okc_nil) (lenb rfl) norm_ ?_;refine tr_nil ?_;refine tr_blk_normal ?_)
    apply tr_seqN (n + 1,.slice a' (n + 1) cap')
    case ht=>exact Take.there (.there (.there .here))
    case hx=>exact ⟨rfl,hlt⟩
    case h2=>
      show Takes _ [blk b2 (.cells #[.slice a' (n + 1) cap'] 44 (0,0)),row 3 1 (.slice a' (n + 1) cap') (n + 1) (intsV (l.take (n + 1)))] _
      rw [htk]
      exact .cons .here (.cons .here .nil)
theorem collect_c {bx:Nat} {sv:Value} {l:List Int} {w:World} (hcb:w.cell? ⟨bx,0,none⟩ = some sv) (h1:Rd w sv 1 (ints l)) (hl:l.length ≤ 1000000) :
    Gives Tryz.prog 203 [.func (.func 205) #[] #[.pointer (some ⟨bx,0,none⟩)]] w [] (fun _:Value=>True) id (fun v=>[row 3 1 v l.length (intsV l)]):=by
  refine gives_of_tr Tryz.func203 rfl rfl ?_
  (refine s_r ?_;refine a_s rfl rfl ?_;refine n_r ?_;refine m_v rfl rfl ?_)
  with_reducible apply tr_call
  case hr=>exact rk_call (.of rfl) (.cons (.of rfl) (.cons (.of rfl) .nil)) inferInstance normc_
  case hd=>rfl
  case ht=>exact Takes.nil
  case hc=>
    intro w1 fp hm1 _ hs1
    obtain rfl:fp = []:=hs1
    exact appSeq_c (cell_keepsN hcb (by simp) hm1.keeps) (h1.keeps hm1.keeps) hl
  intro v _
  dsimp only [id_eq,List.cons_append,List.nil_append]
  (refine a_s rfl rfl ?_;refine n_t ?_;refine tr_ret ?_)
  first | with_reducible apply tr_retM | with_reducible apply tr_endM
  case he=>exact ends1 rfl rfl
  case hR=>
    intro w' hm'
    exact gives_end v trivial (by exact .cons .here .nil) hm' rfl
theorem sorted_c {bx:Nat} {sv:Value} {l:List Int} {w:World} (hcb:w.cell? ⟨bx,0,none⟩ = some sv) (h1:Rd w sv 1 (ints l)) (hl:l.length ≤ 1000000) :
    Gives Tryz.prog 165 [.func (.func 205) #[] #[.pointer (some ⟨bx,0,none⟩)]] w [] (fun _:Value=>True) id (fun v=>[row 3 1 v l.length (intsV (srt l))]):=by
  refine gives_of_tr Tryz.func165 rfl rfl ?_
  (refine s_r ?_;refine a_s rfl rfl ?_;refine n_r ?_;refine m_v rfl rfl ?_)
  with_reducible apply tr_call
  case hr=>exact rk_call (.of rfl) (.cons (.of rfl) .nil) inferInstance normc_
  case hd=>rfl
  case ht=>exact Takes.nil
  case hc=>
    intro w1 fp hm1 _ hs1
    obtain rfl:fp = []:=hs1
    exact collect_c (cell_keepsN hcb (by simp) hm1.keeps) (h1.keeps hm1.keeps) hl
  intro v _
  dsimp only [id_eq,List.cons_append,List.nil_append]
  (refine a_s rfl rfl ?_;refine n_r ?_;refine m_v rfl rfl ?_)
  with_reducible apply tr_call (As:=[row 3 1 v l.length (intsV l)])
  case hr=>exact rk_call (.of rfl) (.cons (.of rfl) .nil) inferInstance normc_
  case hd=>rfl
  case ht=>exact .cons .here .nil
  case hc=>exact fun w1 fp hm1 _ hs1=>sort_c rfl hl hs1
  intro u _
  dsimp only [List.cons_append,List.nil_append]
  (refine n_r ?_;refine m_v rfl rfl ?_;refine a_s rfl rfl ?_;refine n_t ?_;refine tr_ret ?_)
  first | with_reducible apply tr_retM | with_reducible apply tr_endM
  case he=>exact ends1 rfl rfl
  case hR=>
    intro w' hm'
    exact gives_end v trivial (by exact .cons .here .nil) hm' rfl
end Go.Proofs.A1
namespace Go.Proofs.A1
open Go Go.SL
theorem srt_mem {l:List Int} {x:Int}:x ∈ srt l ↔ x ∈ l:=(List.mergeSort_perm _ _).mem_iff
theorem srt_inc (l:List Int):(srt l).Pairwise (· ≤ ·):=by
  have h:=List.pairwise_mergeSort (le:=fun x y:Int=>decide (x ≤ y)) (fun a b c h1 h2=>by simp only [decide_eq_true_eq] at *;omega) (fun a b=>by simp only [Bool.or_eq_true,decide_eq_true_eq];omega) l
  exact h.imp fun h=>by simpa using h
theorem bang_eq {l:List Int} {j:Nat} (h:j < l.length):l.toArray[j]! = l[j]:=by simp [h]
theorem compact_mem {l:List Int} {x:Int}:x ∈ Go.Lib.compact l ↔ x ∈ l:=by
  unfold Go.Lib.compact Go.Lib.compactUpTo
  rw [List.mem_map]
  constructor
  · rintro ⟨j,hj,rfl⟩
    have:=List.mem_range.1 (List.mem_filter.1 hj).1
    rw [bang_eq this];exact List.getElem_mem this
  · intro hx
    obtain ⟨j,hj,rfl⟩:=List.getElem_of_mem hx
    induction j with
    | zero=>exact ⟨0,List.mem_filter.2 ⟨List.mem_range.2 hj,by simp [Go.Lib.keeps]⟩,bang_eq hj⟩
    | succ j ih =>
      by_cases e:l[j + 1] = l[j]
      · rw [e];exact ih (by omega) (List.getElem_mem _)
      · refine ⟨j + 1,List.mem_filter.2 ⟨List.mem_range.2 hj,?_⟩,bang_eq hj⟩
        unfold Go.Lib.keeps
        rw [decide_eq_true_eq,bang_eq hj,Nat.add_sub_cancel,bang_eq (show j < l.length by omega)]
        exact .inr e
theorem compact_inc {l:List Int} (h:l.Pairwise (· ≤ ·)):(Go.Lib.compact l).Pairwise (· < ·):=by
  unfold Go.Lib.compact Go.Lib.compactUpTo
  rw [List.pairwise_map,List.pairwise_filter]
  have hm:∀ i j (hi:i < l.length) (hj:j < l.length),i ≤ j → l[i] ≤ l[j]:=fun i j hi hj hij=>by
    by_cases e:i = j
    · subst e;exact Int.le_refl _
    · exact List.pairwise_iff_getElem.1 h i j hi hj (by omega)
  rw [List.pairwise_iff_getElem]
  intro i j hi hj hij h1 h2
  rw [List.length_range] at hi hj
  rw [List.getElem_range,List.getElem_range,bang_eq hi,bang_eq hj]
  rw [List.getElem_range] at h2
  unfold Go.Lib.keeps at h2
  rw [decide_eq_true_eq] at h2
  rcases h2 with h2 | h2
  · omega
  · rw [bang_eq hj,bang_eq (show j - 1 < l.length by omega)] at h2
    have a1:=hm i (j - 1) hi (by omega) (by omega)
    have a2:=hm (j - 1) j (by omega) hj (by omega)
    omega
def tnsL (a b:List En):List Int:=Go.Lib.compact (srt (tnL a a.length++tnL b b.length))
theorem mem_tns {a b:List En} {n:Int}:n ∈ tnsL a b ↔ n ∈ tnL a a.length ∨ n ∈ tnL b b.length:=by
  unfold tnsL
  rw [compact_mem,srt_mem,List.mem_append]
theorem turns_ok {a b:List En} (ha:Sound a) (hb:Sound b):Turns (dfB a b) (tnsL a b):=by
  refine ⟨fun n hn=>?_,fun n hn=>df_neg ha hb hn,compact_inc (srt_inc _)⟩
  rw [mem_tns] at hn
  exact df_still ha hb (fun h=>hn (.inl h)) (fun h=>hn (.inr h))
theorem tns_len {a b:List En} (ha:Sound a) (hb:Sound b):(tnsL a b).length ≤ 20000:=by
  have h1:=compact_le (srt (tnL a a.length++tnL b b.length))
  have h2:=ha.tn_len _ (Nat.le_refl _)
  have h3:=hb.tn_len _ (Nat.le_refl _)
  have h4:=ha.all.few
  have h5:=hb.all.few
  rw [srt_len,List.length_append] at h1
  unfold tnsL;omega
def ChOk (a b:List En) (x:Int × Int × Int):Prop:=(∃ p q,x = (p,q,0) ∧ ChSp (dfB a b) p q) ∨ (x = (0,0,7) ∧ ∀ n,dfB a b n = false)
theorem ChOk.same {a b:List En} {x y:Int × Int × Int} (hx:ChOk a b x) (hy:ChOk a b y):x = y:=by
  rcases hx with ⟨p,q,rfl,h⟩ | ⟨rfl,h⟩ <;> rcases hy with ⟨p',q',rfl,h'⟩ | ⟨rfl,h'⟩
  · obtain ⟨rfl,rfl⟩:=h.same h';rfl
  · have:=h.p1;rw [h' p] at this;cases this
  · have:=h'.p1;rw [h p'] at this;cases this
  · rfl
def chE (a b:List En):Int:=firstF [chkF a,chkF b]
def ChR (a b:List En) (x:Int × Int × Int):Prop:=(chE a b ≠ 0 ∧ x = (0,0,chE a b)) ∨ (chE a b = 0 ∧ ChOk a b x)
theorem chE_zero {a b:List En} (h:chE a b = 0):chkF a = 0 ∧ chkF b = 0:=by
  unfold chE at h
  rw [firstF_zero] at h
  simpa using h
theorem tns_last {a b:List En} (ha:Sound a) (hb:Sound b) {k:Nat} (hk:k < (tnsL a b).length) (hl:k + 1 = (tnsL a b).length):dfB a b (tnsL a b)[k] = false:=by
  refine df_end fun m hm=>?_
  obtain ⟨j,hj,rfl⟩:=List.getElem_of_mem (mem_tns.2 hm)
  by_cases e:j = k
  · subst e;exact Int.le_refl _
  · have:=(turns_ok ha hb).lt (i:=j) (j:=k) (by omega) hk
    omega
theorem tns_in {a b:List En} (ha:Sound a) (hb:Sound b) {n:Int} (h:n ∈ tnsL a b):0 ≤ n ∧ n ≤ 10000000:=by
  rcases mem_tns.1 h with h | h
  · exact ⟨(tn_in ha h).1,(tn_in ha h).2.1⟩
  · exact ⟨(tn_in hb h).1,(tn_in hb h).2.1⟩
end Go.Proofs.A1
namespace Go.Proofs.A1
open Go Go.SL
def findS (l:List Sp) (s:ByteArray) (n:Nat):Int:=((List.range n).find? fun i=>decide ((nthS l i).nm = s)).elim (-1) (fun i=>(i:Int))
theorem findS_le (l:List Sp) (s:ByteArray) (n:Nat):decide (0 ≤ findS l s n) = knwS l n s:=by
  unfold findS knwS
  cases h:(List.range n).find? fun i=>decide ((nthS l i).nm = s) with
  | none =>
    have:(List.range n).any (fun i=>decide ((nthS l i).nm = s)) = false:=by
      rw [List.any_eq_false]
      exact List.find?_eq_none.1 h
    rw [this];rfl
  | some i =>
    have:(List.range n).any (fun i=>decide ((nthS l i).nm = s)) = true:=by
      rw [List.any_eq_true]
      exact ⟨i,List.mem_of_find?_eq_some h,by simpa using List.find?_some h⟩
    rw [this];simp
theorem findS_at {l:List Sp} {s:ByteArray} {k n:Nat} (h:∀ i,i < k → ¬ (nthS l i).nm = s) (hk:k < n) (hs:(nthS l k).nm = s):findS l s n = k:=by
  unfold findS
  have:(List.range n).find? (fun i=>decide ((nthS l i).nm = s)) = some k:=by
    rw [List.find?_range_eq_some]
    exact ⟨by simpa using hs,by simpa using hk,fun i hi=>by simpa using h i hi⟩
  rw [this];rfl
theorem findS_none {l:List Sp} {s:ByteArray} {n:Nat} (h:∀ i,i < n → ¬ (nthS l i).nm = s):findS l s n = -1:=by
  unfold findS
  have:(List.range n).find? (fun i=>decide ((nthS l i).nm = s)) = none:=by
    rw [List.find?_eq_none]
    intro i hi
    simpa using h i (List.mem_range.1 hi)
  rw [this];rfl
theorem findSQ_c {sv cv xv:Value} {b:Br} {w:World} (s:ByteArray) (n:Nat) (h1:Rd w sv 4 (spsL b.sp)) (hone2:cv.oneCell' = true) (hone3:xv.oneCell' = true) (hn:n ≤ b.sp.length) :
    GivesV Tryz.prog 129 [.agg #[.int .i64 b.n,sv,cv,xv],.string s,.int .i64 n] w (.int .i64 (findS b.sp s n)):=by
  obtain ⟨a,cap,bb,o,rfl,hcap,hmax,ha,hc⟩:=h1
  rw [spsL_length] at *
  unfold maxLen at hmax
  refine givesV_of_tr Tryz.func129 rfl rfl ?_
  (refine s_r ?_;refine tr_new (rk_box (.of rfl) rfl) rfl (fun _ _=>?_);refine a_s rfl rfl ?_;refine n_t ?_;refine tr_seq ?_;refine s_r ?_;refine a_s rfl rfl ?_;refine n_t ?_;refine tr_block ?_)
  rename_i b3 hb3
  refine tr_for (fun k:Nat=>k ≤ n ∧ ∀ i,i < k → ¬ (nthS b.sp i).nm = s) (fun k=>[(7,.int .i64 k),(1,.string s),(2,.int .i64 n),(3,.pointer (some ⟨b3,0,none⟩))])
    (fun _=>[blk b3 (.cells #[.int .i64 b.n,.slice a b.sp.length cap,cv,xv] 83 (0,0))]) (fun k=>n - k) ?_ ?_
  · apply tr_start 0 ⟨by omega,fun i h=>by omega⟩
    case hs1=>exact .cons rfl (.cons rfl (.cons rfl (.cons rfl .nil)))
    case ht=>(try simp only [List.take_zero,List.map_nil,List.nil_append]);exact .cons .here .nil
  rintro k ⟨hk,hf⟩
  by_cases hlt:k < n
  · have ha':=ha (spsL_ne (k:=k) (by omega))
    have hcell:=(hc k _ (spsL_get (k:=k) (by omega))).2 0 _ rfl
    (refine tr_seq ?_;refine s_r ?_;refine m_v rfl rfl ?_;refine m_v rfl rfl ?_;refine tr_val (rk_lss (.of rfl) (.of rfl)) rfl ?_;refine n_t ?_;refine c_d rfl (fun hcd=>?_) (fun _=>by omega);refine s_t ?_;refine tr_seq ?_;refine tr_block ?_;refine s_r ?_;refine f_a rfl rfl norm0_ ?_;refine tr_val (rk_load1 (.of rfl) (At.lit .here rfl)) rfl ?_;refine m_v rfl rfl ?_;refine tr_val (rk_indexAddr (.of rfl) (.of rfl) ha' (by omega) (by omega) norm1_) rfl ?_;refine f_a rfl rfl norm0_ ?_;refine tr_val (rk_load1 (.of rfl) (At.base hcell rfl)) rfl ?_;refine m_v rfl rfl ?_;refine tr_val (rk_eqls (.of rfl) (.of rfl)) rfl ?_;refine n_t ?_;refine c_d rfl (fun hcd=>?_) (fun hcd=>?_);refine s_r ?_;refine m_v rfl rfl ?_;refine a_s rfl rfl ?_;refine n_t ?_;refine tr_ret ?_;refine tr_blk_ret ?_;refine tr_then_ret ?_;refine tr_then_ret ?_;refine tr_blk_ret ?_;refine tr_then_ret ?_;refine tr_retE rfl (ends1 rfl rfl) ?_;rotate_left;refine tr_skip ?_;refine tr_blk_normal ?_;refine tr_then ?_;refine tr_region ?_;refine m_v rfl rfl ?_;refine tr_val (rk_add (.of rfl) (.of rfl) (ini (by omega))) rfl ?_;refine a_s rfl rfl ?_;refine n_t ?_;rotate_right)
    · rw [findS_at hf hlt hcd]
    · apply tr_next (k + 1) ⟨by omega,fun i hi=>by
        by_cases e:i = k
        · rw [e];exact hcd
        · exact hf i (by omega)⟩ (by omega)
      case hs1=>exact .cons rfl (.cons rfl (.cons rfl (.cons rfl .nil)))
      case ht=>(try simp only [List.take_zero,List.map_nil,List.nil_append]);exact .cons .here .nil
  · obtain rfl:k = n:=by omega
    (refine tr_seq ?_;refine s_r ?_;refine m_v rfl rfl ?_;refine m_v rfl rfl ?_;refine tr_val (rk_lss (.of rfl) (.of rfl)) rfl ?_;refine n_t ?_;refine c_d rfl (fun _=>by omega) (fun hcd=>?_);refine x_t ?_;refine tr_then_exit ?_;refine tr_blk_exit ?_;refine tr_then ?_;refine s_r ?_;refine a_s rfl rfl ?_;refine n_t ?_;refine tr_ret ?_;refine tr_retE rfl (ends1 rfl rfl) ?_)
    rw [findS_none hf]
theorem campQ_c {sv cv xv:Value} {b:Br} (n:Int) {w:World} (hone1:sv.oneCell' = true) (h2:Rd w cv 1 (ints b.cm)) (hone3:xv.oneCell' = true) :
    GivesV Tryz.prog 130 [.agg #[.int .i64 b.n,sv,cv,xv],.int .i64 n] w (.int .i64 (campF b.cm.length n)):=by
  obtain ⟨a,cap,bb,o,rfl,hcap,hmax,ha,hc⟩:=h2
  rw [ints_length] at *
  unfold maxLen at hmax
  refine givesV_of_tr Tryz.func130 rfl rfl ?_
  (refine s_r ?_;refine tr_new (rk_box (.of rfl) rfl) rfl (fun _ _=>?_);refine a_s rfl rfl ?_;refine n_r ?_;refine m_v rfl rfl ?_;refine tr_val (rk_lss (.of rfl) (.of rfl)) rfl ?_;refine m_v rfl rfl ?_;refine v_g rfl rfl rfl rfl ?_;refine tr_vG1 rfl rfl inferInstance (fun hg hgp=>(rk_fieldAddr (.of rfl) norm0_)) rfl ?_;refine tr_vG1 rfl rfl inferInstance (fun hg hgp=>(rk_load1 (.ofg hg rfl) (At.lit .here rfl))) rfl ?_;refine tr_vG1 rfl rfl inferInstance (fun hg hgp=>(rk_len_slice (.ofg hg rfl))) rfl ?_;refine tr_vG1 rfl rfl inferInstance (fun hg hgp=>(rk_geq (.ofg hg rfl) (.ofg hg rfl))) rfl ?_;refine tr_val (rk_pick_or (.of rfl) rfl) rfl ?_;refine tr_callV (rk_call (.of rfl) (.cons (.of rfl) (.cons (.of rfl) .nil)) inferInstance normc_) rfl (fun w' hm'=>(when_q _ 10 w')) ?_;refine a_s rfl rfl ?_;refine n_t ?_;refine tr_ret ?_;refine tr_retE rfl (ends1 rfl rfl) ?_)
  rfl
def shortBr (b:Br):Bool:=(b.sp.all fun x=>decide (x.nm.size ≤ 40)) && ((decide (b.sp.length ≤ 6) || decide (b.sp.length = 9)) && decide (b.cm.length ≤ 9) && decide (b.ex.length ≤ 17))
theorem shortBr_few {b:Br} (h:shortBr b = true):b.sp.length ≤ 9 ∧ b.cm.length ≤ 9 ∧ b.ex.length ≤ 17:=by
  unfold shortBr at h
  simp only [Bool.and_eq_true,Bool.or_eq_true,decide_eq_true_eq] at h
  omega
theorem shortBr_c {sv cv xv:Value} {b:Br} {w:World} (h1:Rd w sv 4 (spsL b.sp)) (h2:Rd w cv 1 (ints b.cm)) (h3:Rd w xv 2 (prsL b.ex)) :
    GivesV Tryz.prog 43 [.agg #[.int .i64 b.n,sv,cv,xv]] w (.bool (shortBr b)):=by
  obtain ⟨a,cap,bb,o,rfl,hcap,hmax,ha,hc⟩:=h1
  obtain ⟨a2,cap2,bb2,o2,rfl,hcap2,hmax2,ha2,hc2⟩:=h2
  obtain ⟨a3,cap3,bb3,o3,rfl,hcap3,hmax3,ha3,hc3⟩:=h3
  rw [spsL_length] at *
  rw [ints_length] at *
  rw [prsL_length] at *
  unfold maxLen at hmax hmax2 hmax3
  refine givesV_of_tr Tryz.func43 rfl rfl ?_
  (refine s_r ?_;refine tr_new (rk_box (.of rfl) rfl) rfl (fun _ _=>?_);refine a_s rfl rfl ?_;refine n_t ?_;refine tr_seq ?_;refine s_r ?_;refine a_s rfl rfl ?_;refine n_t ?_;refine tr_block ?_)
  rename_i b1 hb1
  refine tr_for (fun k:Nat=>k ≤ b.sp.length ∧ ∀ i (hi:i < k) (hl:i < b.sp.length),b.sp[i].nm.size ≤ 40) (fun k=>[(3,.int .i64 k),(1,.pointer (some ⟨b1,0,none⟩))])
    (fun _=>[blk b1 (.cells #[.int .i64 b.n,.slice a b.sp.length cap,.slice a2 b.cm.length cap2,.slice a3 b.ex.length cap3] 83 (0,0))]) (fun k=>b.sp.length - k) ?_ ?_
  · apply tr_start 0 ⟨Nat.zero_le _,fun i h=>by omega⟩
    case hs1=>exact .cons rfl (.cons rfl .nil)
    case ht=>(try simp only [List.take_zero,List.map_nil,List.nil_append]);exact .cons .here .nil
  rintro k ⟨hk,hf⟩
  by_cases hlt:k < b.sp.length
  · have ha':=ha (spsL_ne hlt)
    have hcell:=(hc k _ (spsL_get hlt)).2 0 _ rfl
    have hnk:=nthS_eq hlt
    rw [hnk] at hcell
    (refine tr_seq ?_;refine s_r ?_;refine m_v rfl rfl ?_;refine f_a rfl rfl norm0_ ?_;refine tr_val (rk_load1 (.of rfl) (At.lit .here rfl)) rfl ?_;refine tr_val (rk_len_slice (.of rfl)) rfl ?_;refine tr_val (rk_lss (.of rfl) (.of rfl)) rfl ?_;refine n_t ?_;refine c_d rfl (fun hcd=>?_) (fun _=>by omega);refine s_t ?_;refine tr_seq ?_;refine tr_block ?_;refine s_r ?_;refine f_a rfl rfl norm0_ ?_;refine tr_val (rk_load1 (.of rfl) (At.lit .here rfl)) rfl ?_;refine m_v rfl rfl ?_;refine tr_val (rk_indexAddr (.of rfl) (.of rfl) ha' (by omega) hcd norm1_) rfl ?_;refine f_a rfl rfl norm0_ ?_;refine tr_val (rk_load1 (.of rfl) (At.base hcell rfl)) rfl ?_;refine tr_val (rk_len_string (.of rfl)) rfl ?_;refine tr_val (rk_gtr (.of rfl) (.of rfl)) rfl ?_;refine n_t ?_;refine c_d rfl (fun hcd=>?_) (fun hcd=>?_);refine s_r ?_;refine a_s rfl rfl ?_;refine n_t ?_;refine tr_ret ?_;refine tr_blk_ret ?_;refine tr_then_ret ?_;refine tr_then_ret ?_;refine tr_blk_ret ?_;refine tr_then_ret ?_;refine tr_retE rfl (ends1 rfl rfl) ?_;rotate_left;refine tr_skip ?_;refine tr_blk_normal ?_;refine tr_then ?_;refine tr_region ?_;refine m_v rfl rfl ?_;refine tr_val (rk_add (.of rfl) (.of rfl) (ini (by omega))) rfl ?_;refine a_s rfl rfl ?_;refine n_t ?_;rotate_right)
    · have:(b.sp.all fun x=>decide (x.nm.size ≤ 40)) = false:=by
        rw [List.all_eq_false]
        refine ⟨b.sp[k],List.getElem_mem hlt,?_⟩
        simp only [decide_eq_true_eq]
        omega
      rw [shortBr,this];rfl
    · apply tr_next (k + 1) ⟨by omega,fun i hi hl=>by
        by_cases e:i = k
        · subst e;omega
        · exact hf i (by omega) hl⟩ (by omega)
      case hs1=>exact .cons rfl (.cons rfl .nil)
      case ht=>(try simp only [List.take_zero,List.map_nil,List.nil_append]);exact .cons .here .nil
  · obtain rfl:k = b.sp.length:=by omega
    have hall:(b.sp.all fun x=>decide (x.nm.size ≤ 40)) = true:=by
      rw [List.all_eq_true]
      intro x hx
      obtain ⟨i,hi,rfl⟩:=List.getElem_of_mem hx
      exact decide_eq_true (hf i hi hi)
    (refine tr_seq ?_;refine s_r ?_;refine m_v rfl rfl ?_;refine f_a rfl rfl norm0_ ?_;refine tr_val (rk_load1 (.of rfl) (At.lit .here rfl)) rfl ?_;refine tr_val (rk_len_slice (.of rfl)) rfl ?_;refine tr_val (rk_lss (.of rfl) (.of rfl)) rfl ?_;refine n_t ?_;refine c_d rfl (fun _=>by omega) (fun hcd=>?_);refine x_t ?_;refine tr_then_exit ?_;refine tr_blk_exit ?_;refine tr_then ?_;refine s_r ?_;refine f_a rfl rfl norm0_ ?_;refine tr_val (rk_load1 (.of rfl) (At.lit .here rfl)) rfl ?_;refine tr_val (rk_len_slice (.of rfl)) rfl ?_;refine tr_val (rk_leq (.of rfl) (.of rfl)) rfl ?_;refine m_v rfl rfl ?_;refine tr_vG1 rfl rfl inferInstance (fun hg hgp=>(rk_fieldAddr (.of rfl) norm0_)) rfl ?_;refine tr_vG1 rfl rfl inferInstance (fun hg hgp=>(rk_load1 (.ofg hg rfl) (At.lit .here rfl))) rfl ?_;refine tr_vG1 rfl rfl inferInstance (fun hg hgp=>(rk_len_slice (.ofg hg rfl))) rfl ?_;refine tr_vG1 rfl rfl inferInstance (fun hg hgp=>(rk_eql (.ofg hg rfl) (.of rfl))) rfl ?_;refine tr_val (rk_pick_or (.of rfl) rfl) rfl ?_;refine m_v rfl rfl ?_;refine tr_vG1 rfl rfl inferInstance (fun hg hgp=>(rk_fieldAddr (.of rfl) norm0_)) rfl ?_;refine tr_vG1 rfl rfl inferInstance (fun hg hgp=>(rk_load1 (.ofg hg rfl) (At.lit .here rfl))) rfl ?_;refine tr_vG1 rfl rfl inferInstance (fun hg hgp=>(rk_len_slice (.ofg hg rfl))) rfl ?_;refine tr_vG1 rfl rfl inferInstance (fun hg hgp=>(rk_leq (.ofg hg rfl) (.of rfl))) rfl ?_;refine tr_val (rk_pick_and (.of rfl) rfl) rfl ?_;refine m_v rfl rfl ?_;refine tr_vG1 rfl rfl inferInstance (fun hg hgp=>(rk_fieldAddr (.of rfl) norm0_)) rfl ?_;refine tr_vG1 rfl rfl inferInstance (fun hg hgp=>(rk_load1 (.ofg hg rfl) (At.lit .here rfl))) rfl ?_;refine tr_vG1 rfl rfl inferInstance (fun hg hgp=>(rk_len_slice (.ofg hg rfl))) rfl ?_;refine tr_vG1 rfl rfl inferInstance (fun hg hgp=>(rk_leq (.ofg hg rfl) (.of rfl))) rfl ?_;refine tr_val (rk_pick_and (.of rfl) rfl) rfl ?_;refine a_s rfl rfl ?_;refine n_t ?_;refine tr_ret ?_;refine tr_retE rfl (ends1 rfl rfl) ?_)
    rw [shortBr,hall,Bool.true_and]
    have e1:decide ((b.sp.length:Int) ≤ 6) = decide (b.sp.length ≤ 6):=decide_eq_decide.2 (by omega)
    have e2:decide ((b.sp.length:Int) = 9) = decide (b.sp.length = 9):=decide_eq_decide.2 (by omega)
    have e3:decide ((b.cm.length:Int) ≤ 9) = decide (b.cm.length ≤ 9):=decide_eq_decide.2 (by omega)
    have e4:decide ((b.ex.length:Int) ≤ 17) = decide (b.ex.length ≤ 17):=decide_eq_decide.2 (by omega)
    rw [e1,e2,e3,e4]
end Go.Proofs.A1
namespace Go.Proofs.A1
open Go Go.SL
theorem spE_q (b:Br) (k:Nat):firstF [nmF (nthS b.sp k).nm,whenF (decide (0 ≤ findS b.sp (nthS b.sp k).nm k)) 9,campF b.cm.length (nthS b.sp k).cp,withinF (nthS b.sp k).ln 1 100000,withinF (nthS b.sp k).vl 0 1000000] = spE b k:=by
  unfold spE
  rw [findS_le]
theorem ints_nth {l:List Int} {k:Nat} (h:k < l.length):(ints l)[k]? = some [.int .i64 l[k]]:=by simp [ints,h]
set_option maxHeartbeats 2000000 in
theorem brkQ_c {b:Br} {sv cv xv:Value} {w:World} (h1:Rd w sv 4 (spsL b.sp)) (h2:Rd w cv 1 (ints b.cm)) (h3:Rd w xv 2 (prsL b.ex)) :
    GivesV Tryz.prog 47 [.agg #[.int .i64 b.n,sv,cv,xv]] w (.int .i64 (brE b)):=by
  have hone1:=Rd.one h1
  have hone2:=Rd.one h2
  have hone3:=Rd.one h3
  have h1':=h1
  have h2':=h2
  have h3':=h3
  obtain ⟨a,cap,bb,o,rfl,hcap,hmax,ha,hc⟩:=h1
  obtain ⟨a2,cap2,bb2,o2,rfl,hcap2,hmax2,ha2,hc2⟩:=h2
  obtain ⟨a3,cap3,bb3,o3,rfl,hcap3,hmax3,ha3,hc3⟩:=h3
  rw [spsL_length] at *
  rw [ints_length] at *
  rw [prsL_length] at *
  unfold maxLen at hmax hmax2 hmax3
  refine givesV_of_tr Tryz.func47 rfl rfl ?_
  (refine s_r ?_;refine tr_new (rk_box (.of rfl) rfl) rfl (fun _ _=>?_);refine a_s rfl rfl ?_;refine n_t ?_;refine tr_seq ?_;refine tr_seq ?_)
  with_reducible refine tr_draw 18 (by kernel_rfl) ?_
  (refine a_f rfl rfl norm0_ ?_;refine any_val (rk_load1 (.of rfl) (At.lit .here rfl)) rfl ?_;refine any_call (rk_call (.of rfl) (.cons (.of rfl) (.cons (.of rfl) (.cons (.of rfl) .nil))) inferInstance normc_) rfl (fun w' hm'=>(range_q _ 0 100000 w')) ?_;refine a_f rfl rfl norm0_ ?_;refine any_val (rk_load1 (.of rfl) (At.lit .here rfl)) rfl ?_;refine any_val (rk_len_slice (.of rfl)) rfl ?_;refine any_val (rk_gtr (.of rfl) (.of rfl)) rfl ?_;refine any_call (rk_call (.of rfl) (.cons (.of rfl) (.cons (.of rfl) .nil)) inferInstance normc_) rfl (fun w' hm'=>(when_q _ 5 w')) ?_;refine a_f rfl rfl norm0_ ?_;refine any_val (rk_load1 (.of rfl) (At.lit .here rfl)) rfl ?_;refine any_val (rk_len_slice (.of rfl)) rfl ?_;refine any_val (rk_gtr (.of rfl) (.of rfl)) rfl ?_;refine any_call (rk_call (.of rfl) (.cons (.of rfl) (.cons (.of rfl) .nil)) inferInstance normc_) rfl (fun w' hm'=>(when_q _ 5 w')) ?_;refine a_f rfl rfl norm0_ ?_;refine any_val (rk_load1 (.of rfl) (At.lit .here rfl)) rfl ?_;refine any_val (rk_len_slice (.of rfl)) rfl ?_;refine any_val (rk_gtr (.of rfl) (.of rfl)) rfl ?_;refine any_call (rk_call (.of rfl) (.cons (.of rfl) (.cons (.of rfl) .nil)) inferInstance normc_) rfl (fun w' hm'=>(when_q _ 5 w')) ?_)
  with_reducible refine any_end ?_
  (refine tr_new (rk_sliceLit (.cons (.of rfl) (.cons (.of rfl) (.cons (.of rfl) (.cons (.of rfl) .nil)))) rfl rfl rfl rfl) rfl (fun _ _=>?_);refine tr_callV (rk_call (.of rfl) (.cons (.of rfl) .nil) inferInstance normc_) rfl (fun w' hm'=>(first_qB (Mem.rdBlk hm' .here rfl rfl) (IntL.cons (IntL.cons (IntL.cons (IntL.cons IntL.nil)))))) ?_;refine a_s rfl rfl ?_;refine n_r ?_;refine m_v rfl rfl ?_;refine tr_val (rk_neq (.of rfl) (.of rfl)) rfl ?_;refine n_t ?_;refine c_d rfl (fun hcd=>?_) (fun hcd=>?_);refine s_r ?_;refine m_v rfl rfl ?_;refine a_s rfl rfl ?_;refine n_t ?_;refine r_t ?_;refine tr_retE rfl (ends1 rfl rfl) ?_;rotate_left;refine s_t ?_;refine tr_seq ?_;refine s_r ?_;refine a_s rfl rfl ?_;refine n_t ?_;refine tr_block ?_;rotate_right)
  · have hne:br0 b ≠ 0:=hcd
    have hE:brE b = br0 b:=by simp [brE,firstF,hne]
    rw [hE];rfl
  have hz0:br0 b = 0:=Decidable.not_not.1 hcd
  have hz1:=hz0
  unfold br0 at hz1
  rw [firstF_zero] at hz1
  simp only [List.mem_cons,List.not_mem_nil,or_false,forall_eq_or_imp,forall_eq] at hz1
  rw [whenF_zero (by decide),whenF_zero (by decide),whenF_zero (by decide)] at hz1
  simp only [decide_eq_false_iff_not] at hz1
  have hl8:b.sp.length ≤ 8:=by omega
  have hm8:b.cm.length ≤ 8:=by omega
  have hx16:b.ex.length ≤ 16:=by omega
  rename_i b1 hb1 bq hbq
  refine tr_for (ι:=Nat) (fun k=>k ≤ b.sp.length ∧ ∀ i,i < k → spE b i = 0) (fun k=>[(4,.int .i64 k),(1,.pointer (some ⟨b1,0,none⟩))])
    (fun _=>[blk b1 (.cells #[.int .i64 b.n,.slice a b.sp.length cap,.slice a2 b.cm.length cap2,.slice a3 b.ex.length cap3] 83 (0,0))]) (fun k=>b.sp.length - k) ?_ ?_
  · apply tr_start (0:Nat) ⟨Nat.zero_le _,fun i h=>by omega⟩
    case hs1=>exact .cons rfl (.cons rfl .nil)
    case ht=>(try simp only [List.take_zero,List.map_nil,List.nil_append]);exact .cons (.there .here) .nil
  rintro k ⟨hk,hf⟩
  by_cases hlt:k < b.sp.length
  · have ha':=ha (spsL_ne hlt)
    have hcell:=(hc k _ (spsL_get hlt)).2
    have heq:=spE_q b k
    unfold Sp.cells at hcell
    (refine tr_seq ?_;refine s_r ?_;refine m_v rfl rfl ?_;refine f_a rfl rfl norm0_ ?_;refine tr_val (rk_load1 (.of rfl) (At.lit .here rfl)) rfl ?_;refine tr_val (rk_len_slice (.of rfl)) rfl ?_;refine tr_val (rk_lss (.of rfl) (.of rfl)) rfl ?_;refine n_t ?_;refine c_d rfl (fun hcd=>?_) (fun _=>by omega);refine s_t ?_;refine tr_seq ?_;refine tr_block ?_;refine s_r ?_;refine f_a rfl rfl norm0_ ?_;refine tr_val (rk_load1 (.of rfl) (At.lit .here rfl)) rfl ?_;refine m_v rfl rfl ?_;refine tr_val (rk_indexAddr (.of rfl) (.of rfl) ha' (by omega) hcd norm1_) rfl ?_;refine tr_val (rk_loadN (.of rfl) (Ats.base hcell rfl) rfl) rfl ?_;refine tr_new (rk_alloc rfl) rfl (fun _ _=>?_);refine tr_store (.of rfl) (.of rfl) .here rfl rfl (okc_cons rfl (okc_cons rfl (okc_cons rfl (okc_cons rfl okc_nil)))) (lenb rfl) norm_ ?_;refine n_t ?_;refine tr_seq ?_)
    with_reducible refine tr_draw 20 (by kernel_rfl) ?_
    (refine a_f rfl rfl norm0_ ?_;refine any_val (rk_load1 (.of rfl) (At.lit .here rfl)) rfl ?_;refine any_call (rk_call (.of rfl) (.cons (.of rfl) .nil) inferInstance normc_) rfl (fun w' hm'=>(nm_q _ w')) ?_;refine any_val (rk_loadB (.of rfl) (.there .here) norm_ (by rfl)) rfl ?_;refine a_f rfl rfl norm0_ ?_;refine any_val (rk_load1 (.of rfl) (At.lit .here rfl)) rfl ?_;refine a_m rfl rfl ?_;refine any_call (rk_call (.of rfl) (.cons (.of rfl) (.cons (.of rfl) (.cons (.of rfl) .nil))) inferInstance normc_) rfl (fun w' hm'=>(findSQ_c _ k (Rd.keeps h1' (Mem.keeps hm')) hone2 hone3 hk)) ?_;refine any_val (rk_geq (.of rfl) (.of rfl)) rfl ?_;refine any_call (rk_call (.of rfl) (.cons (.of rfl) (.cons (.of rfl) .nil)) inferInstance normc_) rfl (fun w' hm'=>(when_q _ 9 w')) ?_;refine any_val (rk_loadB (.of rfl) (.there .here) norm_ (by rfl)) rfl ?_;refine a_f rfl rfl norm0_ ?_;refine any_val (rk_load1 (.of rfl) (At.lit .here rfl)) rfl ?_;refine any_call (rk_call (.of rfl) (.cons (.of rfl) (.cons (.of rfl) .nil)) inferInstance normc_) rfl (fun w' hm'=>(campQ_c _ hone1 (Rd.keeps h2' (Mem.keeps hm')) hone3)) ?_;refine a_f rfl rfl norm0_ ?_;refine any_val (rk_load1 (.of rfl) (At.lit .here rfl)) rfl ?_;refine any_call (rk_call (.of rfl) (.cons (.of rfl) (.cons (.of rfl) (.cons (.of rfl) .nil))) inferInstance normc_) rfl (fun w' hm'=>(range_q _ 1 100000 w')) ?_;refine a_f rfl rfl norm0_ ?_;refine any_val (rk_load1 (.of rfl) (At.lit .here rfl)) rfl ?_;refine any_call (rk_call (.of rfl) (.cons (.of rfl) (.cons (.of rfl) (.cons (.of rfl) .nil))) inferInstance normc_) rfl (fun w' hm'=>(range_q _ 0 1000000 w')) ?_)
    with_reducible refine any_end ?_
    (refine tr_new (rk_sliceLit (.cons (.of rfl) (.cons (.of rfl) (.cons (.of rfl) (.cons (.of rfl) (.cons (.of rfl) .nil))))) rfl rfl rfl rfl) rfl (fun _ _=>?_);refine tr_callV (rk_call (.of rfl) (.cons (.of rfl) .nil) inferInstance normc_) rfl (fun w' hm'=>(first_qB (Mem.rdBlk hm' .here rfl rfl) (IntL.cons (IntL.cons (IntL.cons (IntL.cons (IntL.cons IntL.nil))))))) ?_;refine a_s rfl rfl ?_;refine n_r ?_;refine m_v rfl rfl ?_;refine tr_val (rk_neq (.of rfl) (.of rfl)) rfl ?_;refine n_t ?_;refine c_d rfl (fun hcd=>?_) (fun hcd=>?_);refine s_r ?_;refine m_v rfl rfl ?_;refine a_s rfl rfl ?_;refine n_t ?_;refine tr_ret ?_;refine tr_blk_ret ?_;refine tr_then_ret ?_;refine tr_then_ret ?_;refine tr_blk_ret ?_;refine tr_then_ret ?_;refine tr_retE rfl (ends1 rfl rfl) ?_;rotate_left;refine tr_skip ?_;refine tr_blk_normal ?_;refine tr_then ?_;refine tr_region ?_;refine m_v rfl rfl ?_;refine tr_val (rk_add (.of rfl) (.of rfl) (ini (by omega))) rfl ?_;refine a_s rfl rfl ?_;refine n_t ?_;rotate_right)
    · have hne:spE b k ≠ 0:=by rw [← heq];exact hcd
      have hb:errE (spE b) b.sp.length = spE b k:=errE_bad hf hlt hne
      have hE:brE b = spE b k:=by rw [brE,hz0,hb];simp [firstF,hne]
      rw [hE,← heq]
    · have hz:spE b k = 0:=by rw [← heq];exact Decidable.not_not.1 hcd
      apply tr_next (k + 1) ⟨by omega,fun i hi=>by
        by_cases e:i = k
        · rw [e];exact hz
        · exact hf i (by omega)⟩ (by omega)
      case hs1=>exact .cons rfl (.cons rfl .nil)
      case ht=>(try simp only [List.take_zero,List.map_nil,List.nil_append]);exact .cons (.there (.there .here)) .nil
  obtain rfl:k = b.sp.length:=by omega
  have hz2:errE (spE b) b.sp.length = 0:=errE_ok.2 hf
  (refine tr_seq ?_;refine s_r ?_;refine m_v rfl rfl ?_;refine f_a rfl rfl norm0_ ?_;refine tr_val (rk_load1 (.of rfl) (At.lit .here rfl)) rfl ?_;refine tr_val (rk_len_slice (.of rfl)) rfl ?_;refine tr_val (rk_lss (.of rfl) (.of rfl)) rfl ?_;refine n_t ?_;refine c_d rfl (fun _=>by omega) (fun hcd=>?_);refine x_t ?_;refine tr_then_exit ?_;refine tr_blk_exit ?_;refine tr_then ?_;refine tr_seq ?_;refine s_r ?_;refine a_s rfl rfl ?_;refine n_t ?_;refine tr_block ?_)
  refine tr_for (ι:=Nat) (fun k=>k ≤ b.cm.length ∧ ∀ i (hi:i < k) (hl:i < b.cm.length),fewF b.cm[i] = 0) (fun k=>[(7,.int .i64 k),(1,.pointer (some ⟨b1,0,none⟩))])
    (fun _=>[blk b1 (.cells #[.int .i64 b.n,.slice a b.sp.length cap,.slice a2 b.cm.length cap2,.slice a3 b.ex.length cap3] 83 (0,0))]) (fun k=>b.cm.length - k) ?_ ?_
  · apply tr_start (0:Nat) ⟨Nat.zero_le _,fun i h=>by omega⟩
    case hs1=>exact .cons rfl (.cons rfl .nil)
    case ht=>(try simp only [List.take_zero,List.map_nil,List.nil_append]);exact .cons .here .nil
  rintro k ⟨hk,hfm⟩
  by_cases hlt:k < b.cm.length
  · have ha2':=ha2 (ints_ne hlt)
    have c0:w.cell? ⟨bb2,o2 + k * 1,none⟩ = some (.int .i64 b.cm[k]):=(hc2 k _ (ints_nth hlt)).2 0 _ rfl
    (refine tr_seq ?_;refine s_r ?_;refine m_v rfl rfl ?_;refine f_a rfl rfl norm0_ ?_;refine tr_val (rk_load1 (.of rfl) (At.lit .here rfl)) rfl ?_;refine tr_val (rk_len_slice (.of rfl)) rfl ?_;refine tr_val (rk_lss (.of rfl) (.of rfl)) rfl ?_;refine n_t ?_;refine c_d rfl (fun hcd=>?_) (fun _=>by omega);refine s_t ?_;refine tr_seq ?_;refine tr_block ?_;refine s_r ?_;refine f_a rfl rfl norm0_ ?_;refine tr_val (rk_load1 (.of rfl) (At.lit .here rfl)) rfl ?_;refine m_v rfl rfl ?_;refine tr_val (rk_indexAddr (.of rfl) (.of rfl) ha2' (by omega) hcd norm1_) rfl ?_;refine tr_val (rk_load1 (.of rfl) (At.base c0 rfl)) rfl ?_;refine tr_callV (rk_call (.of rfl) (.cons (.of rfl) (.cons (.of rfl) (.cons (.of rfl) .nil))) inferInstance normc_) rfl (fun w' hm'=>(range_q _ 0 8 w')) ?_;refine a_s rfl rfl ?_;refine n_r ?_;refine m_v rfl rfl ?_;refine tr_val (rk_neq (.of rfl) (.of rfl)) rfl ?_;refine n_t ?_;refine c_d rfl (fun hcd=>?_) (fun hcd=>?_);refine s_r ?_;refine m_v rfl rfl ?_;refine a_s rfl rfl ?_;refine n_t ?_;refine tr_ret ?_;refine tr_blk_ret ?_;refine tr_then_ret ?_;refine tr_then_ret ?_;refine tr_blk_ret ?_;refine tr_then_ret ?_;refine tr_retE rfl (ends1 rfl rfl) ?_;rotate_left;refine tr_skip ?_;refine tr_blk_normal ?_;refine tr_then ?_;refine tr_region ?_;refine m_v rfl rfl ?_;refine tr_val (rk_add (.of rfl) (.of rfl) (ini (by omega))) rfl ?_;refine a_s rfl rfl ?_;refine n_t ?_;rotate_right)
    · have hne:fewF b.cm[k] ≠ 0:=hcd
      have hq:=firstF_hit (f:=fewF) hlt (fun i hi=>hfm i hi _) hne
      have hE:brE b = fewF b.cm[k]:=by rw [brE,hz0,hz2,hq];simp [firstF,hne]
      rw [hE];rfl
    · have hz:fewF b.cm[k] = 0:=Decidable.not_not.1 hcd
      apply tr_next (k + 1) ⟨by omega,fun i hi hl=>by
        by_cases e:i = k
        · subst e;exact hz
        · exact hfm i (by omega) hl⟩ (by omega)
      case hs1=>exact .cons rfl (.cons rfl .nil)
      case ht=>(try simp only [List.take_zero,List.map_nil,List.nil_append]);exact .cons .here .nil
  obtain rfl:k = b.cm.length:=by omega
  have hz3:firstF (b.cm.map fewF) = 0:=firstF_nil' fun x hx=>by
    obtain ⟨i,hi,rfl⟩:=List.getElem_of_mem hx
    exact hfm i hi hi
  have hE:brE b = firstF (b.ex.map (prE b.cm.length)):=by rw [brE];exact firstF4 _ _ _ _ hz0 hz2 hz3
  rw [hE]
  (refine tr_seq ?_;refine s_r ?_;refine m_v rfl rfl ?_;refine f_a rfl rfl norm0_ ?_;refine tr_val (rk_load1 (.of rfl) (At.lit .here rfl)) rfl ?_;refine tr_val (rk_len_slice (.of rfl)) rfl ?_;refine tr_val (rk_lss (.of rfl) (.of rfl)) rfl ?_;refine n_t ?_;refine c_d rfl (fun _=>by omega) (fun hcd=>?_);refine x_t ?_;refine tr_then_exit ?_;refine tr_blk_exit ?_;refine tr_then ?_;refine tr_seq ?_;refine s_r ?_;refine a_s rfl rfl ?_;refine n_t ?_;refine tr_block ?_)
  refine tr_for (ι:=Nat) (fun k=>k ≤ b.ex.length ∧ ∀ i (hi:i < k) (hl:i < b.ex.length),prE b.cm.length b.ex[i] = 0) (fun k=>[(9,.int .i64 k),(1,.pointer (some ⟨b1,0,none⟩))])
    (fun _=>[blk b1 (.cells #[.int .i64 b.n,.slice a b.sp.length cap,.slice a2 b.cm.length cap2,.slice a3 b.ex.length cap3] 83 (0,0))]) (fun k=>b.ex.length - k) ?_ ?_
  · apply tr_start (0:Nat) ⟨Nat.zero_le _,fun i h=>by omega⟩
    case hs1=>exact .cons rfl (.cons rfl .nil)
    case ht=>(try simp only [List.take_zero,List.map_nil,List.nil_append]);exact .cons .here .nil
  rintro k ⟨hk,hfx⟩
  by_cases hlt:k < b.ex.length
  · have ha3':=ha3 (prsL_ne hlt)
    have hcell:=(hc3 k _ (prsL_get hlt)).2
    unfold prV at hcell
    (refine tr_seq ?_;refine s_r ?_;refine m_v rfl rfl ?_;refine f_a rfl rfl norm0_ ?_;refine tr_val (rk_load1 (.of rfl) (At.lit .here rfl)) rfl ?_;refine tr_val (rk_len_slice (.of rfl)) rfl ?_;refine tr_val (rk_lss (.of rfl) (.of rfl)) rfl ?_;refine n_t ?_;refine c_d rfl (fun hcd=>?_) (fun _=>by omega);refine s_t ?_;refine tr_seq ?_;refine tr_block ?_;refine s_r ?_;refine f_a rfl rfl norm0_ ?_;refine tr_val (rk_load1 (.of rfl) (At.lit .here rfl)) rfl ?_;refine m_v rfl rfl ?_;refine tr_val (rk_indexAddr (.of rfl) (.of rfl) ha3' (by omega) hcd norm1_) rfl ?_;refine tr_val (rk_loadN (.of rfl) (Ats.base hcell rfl) rfl) rfl ?_;refine tr_new (rk_alloc rfl) rfl (fun _ _=>?_);refine tr_store (.of rfl) (.of rfl) .here rfl rfl (okc_cons rfl (okc_cons rfl okc_nil)) (lenb rfl) norm_ ?_;refine n_t ?_;refine tr_seq ?_)
    with_reducible refine tr_draw 14 (by kernel_rfl) ?_
    (refine any_val (rk_loadB (.of rfl) (.there .here) norm_ (by rfl)) rfl ?_;refine any_val (rk_indexAddrA (.of rfl) (.of rfl) (by omega) (by omega) norm1_) rfl ?_;refine any_val (rk_load1 (.of rfl) (At.lit .here rfl)) rfl ?_;refine any_call (rk_call (.of rfl) (.cons (.of rfl) (.cons (.of rfl) .nil)) inferInstance normc_) rfl (fun w' hm'=>(campQ_c _ hone1 (Rd.keeps h2' (Mem.keeps hm')) hone3)) ?_;refine any_val (rk_loadB (.of rfl) (.there .here) norm_ (by rfl)) rfl ?_;refine any_val (rk_indexAddrA (.of rfl) (.of rfl) (by omega) (by omega) norm1_) rfl ?_;refine any_val (rk_load1 (.of rfl) (At.lit .here rfl)) rfl ?_;refine any_call (rk_call (.of rfl) (.cons (.of rfl) (.cons (.of rfl) .nil)) inferInstance normc_) rfl (fun w' hm'=>(campQ_c _ hone1 (Rd.keeps h2' (Mem.keeps hm')) hone3)) ?_;refine any_val (rk_indexAddrA (.of rfl) (.of rfl) (by omega) (by omega) norm1_) rfl ?_;refine any_val (rk_load1 (.of rfl) (At.lit .here rfl)) rfl ?_;refine any_val (rk_indexAddrA (.of rfl) (.of rfl) (by omega) (by omega) norm1_) rfl ?_;refine any_val (rk_load1 (.of rfl) (At.lit .here rfl)) rfl ?_;refine any_val (rk_eql (.of rfl) (.of rfl)) rfl ?_;refine any_call (rk_call (.of rfl) (.cons (.of rfl) (.cons (.of rfl) .nil)) inferInstance normc_) rfl (fun w' hm'=>(when_q _ 24 w')) ?_)
    with_reducible refine any_end ?_
    (refine tr_new (rk_sliceLit (.cons (.of rfl) (.cons (.of rfl) (.cons (.of rfl) .nil))) rfl rfl rfl rfl) rfl (fun _ _=>?_);refine tr_callV (rk_call (.of rfl) (.cons (.of rfl) .nil) inferInstance normc_) rfl (fun w' hm'=>(first_qB (Mem.rdBlk hm' .here rfl rfl) (IntL.cons (IntL.cons (IntL.cons IntL.nil))))) ?_;refine a_s rfl rfl ?_;refine n_r ?_;refine m_v rfl rfl ?_;refine tr_val (rk_neq (.of rfl) (.of rfl)) rfl ?_;refine n_t ?_;refine c_d rfl (fun hcd=>?_) (fun hcd=>?_);refine s_r ?_;refine m_v rfl rfl ?_;refine a_s rfl rfl ?_;refine n_t ?_;refine tr_ret ?_;refine tr_blk_ret ?_;refine tr_then_ret ?_;refine tr_then_ret ?_;refine tr_blk_ret ?_;refine tr_then_ret ?_;refine tr_retE rfl (ends1 rfl rfl) ?_;rotate_left;refine tr_skip ?_;refine tr_blk_normal ?_;refine tr_then ?_;refine tr_region ?_;refine m_v rfl rfl ?_;refine tr_val (rk_add (.of rfl) (.of rfl) (ini (by omega))) rfl ?_;refine a_s rfl rfl ?_;refine n_t ?_;rotate_right)
    · have hne:prE b.cm.length b.ex[k] ≠ 0:=hcd
      rw [firstF_hit hlt (fun i hi=>hfx i hi _) hne];rfl
    · have hz:prE b.cm.length b.ex[k] = 0:=Decidable.not_not.1 hcd
      apply tr_next (k + 1) ⟨by omega,fun i hi hl=>by
        by_cases e:i = k
        · subst e;exact hz
        · exact hfx i (by omega) hl⟩ (by omega)
      case hs1=>exact .cons rfl (.cons rfl .nil)
      case ht=>(try simp only [List.take_zero,List.map_nil,List.nil_append]);exact .cons (.there (.there .here)) .nil
  obtain rfl:k = b.ex.length:=by omega
  (refine tr_seq ?_;refine s_r ?_;refine m_v rfl rfl ?_;refine f_a rfl rfl norm0_ ?_;refine tr_val (rk_load1 (.of rfl) (At.lit .here rfl)) rfl ?_;refine tr_val (rk_len_slice (.of rfl)) rfl ?_;refine tr_val (rk_lss (.of rfl) (.of rfl)) rfl ?_;refine n_t ?_;refine c_d rfl (fun _=>by omega) (fun hcd=>?_);refine x_t ?_;refine tr_then_exit ?_;refine tr_blk_exit ?_;refine tr_then ?_;refine s_r ?_;refine a_s rfl rfl ?_;refine n_t ?_;refine tr_ret ?_;refine tr_retE rfl (ends1 rfl rfl) ?_)
  rw [firstF_nil' fun x hx=>by
    obtain ⟨i,hi,rfl⟩:=List.getElem_of_mem hx
    exact hfx i hi hi]
end Go.Proofs.A1
namespace Go.Proofs.A1
open Go Go.SL
theorem ints_c {lv:Value} {l:List Int} {w:World} (h:Rd w lv 1 (ints l)) (hl:l.length ≤ 1000) :
    Gives Tryz.prog 53 [lv] w [] (fun _:Value=>True) id (fun v=>[row 3 1 v l.length (ints l).flatten]):=by
  refine gives_of_tr Tryz.func53 rfl rfl ?_
  (refine s_r ?_;refine a_s rfl rfl ?_;refine n_r ?_;refine tr_new (rk_sliceLit .nil rfl rfl rfl rfl) rfl (fun _ _=>?_);refine m_v rfl rfl ?_)
  rename_i bq hbq
  refine tr_rowLitE (g:=bq) (E:=3) (ys:=[]) 0 1 (by exact .here) rfl rfl rfl ?_
  skip
  with_reducible apply tr_appendR
  case hx=>exact Is.of rfl
  case hy=>exact Is.of rfl
  case ht=>exact .here
  case hsrc=>exact fun w' hm'=>h.keeps hm'.keeps
  case h1=>exact ints_one l
  case hz=>exact rfl
  case hsz=>exact rfl
  case hb0=>exact rfl
  case hb=>rw [ints_length];omega
  case hd=>rfl
  intro v'
  rw [ints_length,Nat.zero_add,List.nil_append]
  (refine a_s rfl rfl ?_;refine n_t ?_;refine tr_ret ?_)
  first | with_reducible apply tr_retM | with_reducible apply tr_endM
  case he=>exact ends1 rfl rfl
  case hR=>
    intro w' hm'
    exact gives_end v' trivial (show Takes _ [row 3 1 v' l.length (ints l).flatten] _ by exact .cons .here .nil) hm' rfl
end Go.Proofs.A1
namespace Go.Proofs.A1
open Go Go.SL
end Go.Proofs.A1
namespace Go.Proofs.A1
open Go Go.SL
end Go.Proofs.A1
