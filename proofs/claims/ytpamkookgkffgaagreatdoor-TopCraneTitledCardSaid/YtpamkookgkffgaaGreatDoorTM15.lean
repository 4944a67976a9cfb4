/- Parts of the proof: UTp EW1 EW2 EW3 ES31 EW4. -/
import Derived.Test.YtpamkookgkffgaaGreatDoorTM11
import Derived.Test.YtpamkookgkffgaaGreatDoorTM10
import Derived.Test.YtpamkookgkffgaaGreatDoorTM14
import Derived.Test.YtpamkookgkffgaaGreatDoorTM09
import Derived.Test.YtpamkookgkffgaaGreatDoorTM06
import Derived.Test.YtpamkookgkffgaaGreatDoorTM07
set_option linter.unusedSectionVars false
set_option linter.unusedVariables false
set_option linter.unusedSimpArgs false
namespace Go.Proofs.A1
open Go Go.SL
theorem okB_in {c:Int} (h:okB c = true):33 ≤ c ∧ c ≤ 126:=by
  simp only [okB,isL,isD,Bool.or_eq_true,Bool.and_eq_true,decide_eq_true_eq] at h
  omega
theorem name_in {s:ByteArray} (h:nameF s = true):0 < s.size ∧ s.size ≤ 24 ∧ ∀ i,i < s.size → 33 ≤ bt s i ∧ bt s i ≤ 126:=by
  simp only [nameF,Bool.and_eq_true,decide_eq_true_eq] at h
  obtain ⟨⟨⟨h1,h2⟩,h3⟩,h4⟩:=h
  refine ⟨h1,h2,fun i hi=>okB_in ?_⟩
  by_cases e:i = 0
  · subst e;simp [okB,h3]
  · unfold okF at h4
    rw [List.all_eq_true] at h4
    exact h4 i (List.mem_range'.2 ⟨i - 1,by omega,by omega⟩)
def cpT (es:List En) (k:Nat):Cp:=⟨fr es k,to es k,((k % 2:Nat):Int),0,(nth es k).nm⟩
def cpTL (es:List En) (n:Nat):List Cp:=(List.range n).map (cpT es)
theorem cpTL_len (es:List En) (n:Nat):(cpTL es n).length = n:=by simp [cpTL]
theorem cpTL_succ (es:List En) (n:Nat):cpTL es (n + 1) = cpTL es n++[cpT es n]:=by simp [cpTL,List.range_succ]
theorem cpTL_get {es:List En} {n k:Nat} (h:k < n):nthC (cpTL es n) k = cpT es k:=by
  rw [nthC_get (by rw [cpTL_len];exact h)];simp [cpTL]
theorem cpT_apart {es:List En} (h:Sound es) {j k:Nat} (hjk:j + 2 ≤ k) (hk:k < es.length):to es j ≤ fr es k:=by
  have h3:=h.third (k:=j) (by omega)
  by_cases e:j + 2 = k
  · rw [e] at h3;exact h3
  · have:=h.fr_lt (i:=j + 2) (k:=k) (by omega) hk;omega
theorem cpT_ok {es:List En} (h:Sound es) (h24:es.length ≤ 24):CapOk (cpTL es es.length):=by
  refine ⟨by rw [cpTL_len];omega,fun k hk=>?_,fun k hk j hj=>?_⟩
  · rw [cpTL_len] at hk
    rw [cpTL_get hk]
    have hn:=h.fr_nn hk
    obtain ⟨a1,a2,a3⟩:=name_in (h.all.ok k hk).nm
    refine ⟨hn,?_,?_,a1,?_,fun i hi=>?_⟩
    · show 0 ≤ ((k % 2:Nat):Int) ∧ ((k % 2:Nat):Int) ≤ 7;omega
    · exact ⟨Int.le_refl _,(by decide:(0:Int) ≤ 31)⟩
    · show 0 + ((nth es k).nm.size:Int) ≤ 32;omega
    · have:=a3 i hi;exact ⟨by show 32 ≤ bt (nth es k).nm i;omega,this.2⟩
  · rw [cpTL_len] at hk
    rw [cpTL_get hk,cpTL_get (by omega)]
    rw [← Bool.not_eq_true]
    intro hc
    simp only [cflQ,Bool.and_eq_true,decide_eq_true_eq] at hc
    have h1:((k % 2:Nat):Int) = ((j % 2:Nat):Int):=hc.1
    have h2:fr es k < to es j:=hc.2.1
    have:=cpT_apart h (j:=j) (k:=k) (by omega) hk
    omega
def lnB (s:ByteArray) (k:Nat):Int:=if k < s.size then bt s k else 32
def lineT (s:ByteArray):ByteArray:=strB ((List.range 32).map (lnB s))
theorem lineT_inj {a b:ByteArray} (ha:a.size ≤ 32) (hb:b.size ≤ 32) (h1:∀ i,i < a.size → 33 ≤ bt a i ∧ bt a i ≤ 126) (h2:∀ i,i < b.size → 33 ≤ bt b i ∧ bt b i ≤ 126) (h:lineT a = lineT b):a = b:=by
  have hr:∀ {s:ByteArray},(∀ i,i < s.size → 33 ≤ bt s i ∧ bt s i ≤ 126) → ∀ x ∈ (List.range 32).map (lnB s),0 ≤ x ∧ x ≤ 255:=fun {s} hs x hx=>by
    obtain ⟨k,_,rfl⟩:=List.mem_map.1 hx
    unfold lnB
    split
    · rename_i hk;have:=hs k hk;omega
    · omega
  have e:=strB_inj (hr h1) (hr h2) h
  have key:∀ k,k < 32 → lnB a k = lnB b k:=fun k hk=>by
    have:=congrArg (·[k]?) e
    simpa [hk] using this
  have hs:a.size = b.size:=by
    apply Classical.byContradiction
    intro hne
    rcases Nat.lt_or_gt_of_ne hne with hlt | hlt
    · have h3:=key a.size (by omega)
      have h4:=h2 a.size hlt
      unfold lnB at h3
      rw [if_neg (by omega),if_pos hlt] at h3
      omega
    · have h3:=key b.size (by omega)
      have h4:=h1 b.size hlt
      unfold lnB at h3
      rw [if_pos hlt,if_neg (by omega)] at h3
      omega
  rw [← strB_all a,← strB_all b,hs]
  congr 1
  refine List.map_congr_left fun k hk=>?_
  rw [List.mem_range] at hk
  have h3:=key k (by omega)
  unfold lnB at h3
  rwa [if_pos (by omega),if_pos hk] at h3
def wnt (es:List En) (L:List Nat) (r:Nat):ByteArray:=L.foldl (fun s i=>if i % 2 = r then lineT (nth es i).nm else s) (lineT ⟨#[]⟩)
def wB (es:List En) (L:List Nat) (r k:Nat):Int:=L.foldl (fun b i=>if i % 2 = r then lnB (nth es i).nm k else b) 32
theorem wnt_eq (es:List En) (L:List Nat) (r:Nat):wnt es L r = strB ((List.range 32).map (wB es L r)):=by
  have key:∀ (L:List Nat) (g:Nat → Int),L.foldl (fun s i=>if i % 2 = r then lineT (nth es i).nm else s) (strB ((List.range 32).map g)) = strB ((List.range 32).map fun k=>L.foldl (fun b i=>if i % 2 = r then lnB (nth es i).nm k else b) (g k)):=fun L=>by
    induction L with
    | nil=>intro g;rfl
    | cons i L ih =>
      intro g
      rw [List.foldl_cons]
      by_cases h:i % 2 = r
      · rw [if_pos h,lineT,ih]
        simp only [List.foldl_cons,if_pos h]
      · rw [if_neg h,ih]
        simp only [List.foldl_cons,if_neg h]
  unfold wnt wB
  exact key L fun _=>32
theorem wB_none {es:List En} {r k:Nat}:∀ {L:List Nat},(∀ i ∈ L,i % 2 ≠ r) → wB es L r k = 32:=fun {L}=>by
  unfold wB
  generalize (32:Int) = b
  induction L with
  | nil=>intro _;rfl
  | cons i L ih =>
    intro h
    rw [List.foldl_cons,if_neg (h i List.mem_cons_self)]
    exact ih fun j hj=>h j (List.mem_cons_of_mem _ hj)
theorem shB_cpT {es:List En} (h:Sound es) (f:Int) (r k:Nat):∀ n,n ≤ es.length → shB (cpTL es n) f (r:Int) k = wB es (onL es f n) r k
  | 0,_=>rfl
  | n + 1, hn => by
    rw [cpTL_succ,shB_snoc,shB_cpT h f r k n (by omega),onL_succ]
    unfold shS cov onC
    have e0:((k:Int) - (cpT es n).co).toNat = k:=by show ((k:Int) - 0).toNat = k;omega
    have eo:(decide ((cpT es n).fr ≤ f) && decide (f < (cpT es n).to)) = onB es f n:=rfl
    rw [e0,eo]
    have er:(decide ((cpT es n).rw = (r:Int))) = decide (n % 2 = r):=by
      show decide (((n % 2:Nat):Int) = (r:Int)) = _
      rw [decide_eq_decide];omega
    have ec:(decide ((cpT es n).co ≤ (k:Int)) && decide ((k:Int) < (cpT es n).co + ((cpT es n).tx.size:Int))) = decide (k < (nth es n).nm.size):=by
      show (decide ((0:Int) ≤ (k:Int)) && decide ((k:Int) < 0 + ((nth es n).nm.size:Int))) = _
      rw [← Bool.decide_and,decide_eq_decide];omega
    have et:bt (cpT es n).tx k = bt (nth es n).nm k:=rfl
    rw [er,ec,et]
    cases hb:onB es f n with
    | false=>simp
    | true =>
      have hap:∀ L:List Nat,wB es (L++[n]) r k = if n % 2 = r then lnB (nth es n).nm k else wB es L r k:=fun L=>by unfold wB;rw [List.foldl_append];rfl
      simp only [if_true]
      rw [hap]
      by_cases hr:n % 2 = r
      · rw [if_pos hr]
        by_cases hk:k < (nth es n).nm.size
        · simp [hr,hk,lnB]
        · rw [if_neg (by simp [hk])]
          unfold lnB
          rw [if_neg hk]
          refine wB_none fun i hi=>?_
          have hi':=List.mem_filter.1 hi
          rw [List.mem_range] at hi'
          have:=h.two hi'.1 (by omega) hi'.2 hb
          omega
      · simp [hr]
theorem scr_cpT {es:List En} (h:Sound es) (f:Int):scrL (cpTL es es.length) f = (List.range 8).map (wnt es (onL es f es.length)):=by
  unfold scrL
  refine List.map_congr_left fun r _=>?_
  rw [wnt_eq]
  congr 1
  unfold rowB
  exact List.map_congr_left fun k _=>shB_cpT h f r k _ (Nat.le_refl _)
theorem wnt_mem (es:List En) (L:List Nat) (r:Nat):wnt es L r = lineT ⟨#[]⟩ ∨ ∃ j ∈ L,wnt es L r = lineT (nth es j).nm:=by
  have key:∀ (L:List Nat) (s:ByteArray),L.foldl (fun s i=>if i % 2 = r then lineT (nth es i).nm else s) s = s ∨ ∃ j ∈ L,L.foldl (fun s i=>if i % 2 = r then lineT (nth es i).nm else s) s = lineT (nth es j).nm:=fun L=>by
    induction L with
    | nil=>intro s;exact .inl rfl
    | cons i L ih =>
      intro s
      rw [List.foldl_cons]
      by_cases hr:i % 2 = r
      · rw [if_pos hr]
        rcases ih (lineT (nth es i).nm) with e | ⟨j,hj,e⟩
        · exact .inr ⟨i,List.mem_cons_self,e⟩
        · exact .inr ⟨j,List.mem_cons_of_mem _ hj,e⟩
      · rw [if_neg hr]
        rcases ih s with e | ⟨j,hj,e⟩
        · exact .inl e
        · exact .inr ⟨j,List.mem_cons_of_mem _ hj,e⟩
  exact key L _
theorem wnt_on {es:List En} (h:Sound es) {f:Int} {i:Nat} (hi:i < es.length) (hb:onB es f i = true):wnt es (onL es f es.length) (i % 2) = lineT (nth es i).nm:=by
  have hm:i ∈ onL es f es.length:=List.mem_filter.2 ⟨List.mem_range.2 hi,hb⟩
  rcases h.onL f es.length (Nat.le_refl _) with e | ⟨a,_,_,e⟩ | ⟨a,_,_,_,e⟩
  · rw [e] at hm;cases hm
  · rw [e] at hm ⊢
    rw [List.mem_singleton] at hm
    subst hm
    unfold wnt;simp
  · rw [e] at hm ⊢
    simp only [List.mem_cons,List.not_mem_nil,or_false] at hm
    rcases hm with rfl | rfl
    · unfold wnt;simp;omega
    · unfold wnt;simp
theorem wnt_off {es:List En} (h:Sound es) {f:Int} {i r:Nat} (hi:i < es.length) (hb:onB es f i = false):wnt es (onL es f es.length) r ≠ lineT (nth es i).nm:=by
  intro he
  have hn:=name_in (h.all.ok i hi).nm
  rcases wnt_mem es (onL es f es.length) r with e | ⟨j,hj,e⟩
  · have:=lineT_inj (a:=⟨#[]⟩) (b:=(nth es i).nm) (by decide) (by omega) (fun i hi=>absurd hi (by show ¬ i < 0;omega)) hn.2.2 (e.symm.trans he)
    rw [← this] at hn
    exact absurd hn.1 (by decide)
  · have hj':=List.mem_filter.1 hj
    rw [List.mem_range] at hj'
    have hnj:=name_in (h.all.ok j hj'.1).nm
    have e2:=lineT_inj (by omega) (by omega) hnj.2.2 hn.2.2 (e.symm.trans he)
    have hij:j ≠ i:=by rintro rfl;rw [hb] at hj';exact absurd hj'.2 (by decide)
    rcases Nat.lt_or_gt_of_ne hij with hlt | hlt
    · have:=h.dup i hi
      unfold dup at this
      rw [List.any_eq_false] at this
      exact this j (List.mem_range.2 hlt) (by simp [e2])
    · have:=h.dup j hj'.1
      unfold dup at this
      rw [List.any_eq_false] at this
      exact this i (List.mem_range.2 hlt) (by simp [e2])
theorem end_mem {es:List En} {x:Int}:endB (cpTL es es.length) x = true ↔ ∃ i,i < es.length ∧ (fr es i = x ∨ to es i = x):=by
  unfold endB cpTL
  rw [List.any_eq_true]
  constructor
  · rintro ⟨c,hc,h2⟩
    obtain ⟨i,hi,rfl⟩:=List.mem_map.1 hc
    rw [List.mem_range] at hi
    have h3:(decide (fr es i = x) || decide (to es i = x)) = true:=h2
    exact ⟨i,hi,by simpa only [Bool.or_eq_true,decide_eq_true_eq] using h3⟩
  · rintro ⟨i,hi,h2⟩
    have h3:(decide (fr es i = x) || decide (to es i = x)) = true:=by simpa only [Bool.or_eq_true,decide_eq_true_eq] using h2
    exact ⟨cpT es i,List.mem_map_of_mem (List.mem_range.2 hi),h3⟩
theorem ch_all {es:List En} (h:Sound es) {x:Int} (he:endB (cpTL es es.length) x = true):chB (cpTL es es.length) x = true:=by
  obtain ⟨i,hi,hx⟩:=end_mem.1 he
  unfold chB
  rw [decide_eq_true_eq,scr_cpT h,scr_cpT h]
  intro e
  have hn:=h.fr_nn hi
  have hrow:wnt es (onL es x es.length) (i % 2) = wnt es (onL es (x - 1) es.length) (i % 2):=by
    have:=congrArg (·[i % 2]?) e
    have h8:i % 2 < 8:=by omega
    simpa [h8] using this
  rcases hx with rfl | rfl
  · have h1:onB es (fr es i) i = true:=by simp [onB];omega
    have h2:onB es (fr es i - 1) i = false:=by simp [onB];omega
    exact wnt_off h hi h2 (hrow.symm.trans (wnt_on h hi h1))
  · have h1:onB es (to es i) i = false:=by simp [onB]
    have h2:onB es (to es i - 1) i = true:=by simp [onB];omega
    exact wnt_off h hi h1 (hrow.trans (wnt_on h hi h2))
theorem chT_mem {es:List En} (h:Sound es) {n:Nat}:n ∈ chL (cpTL es es.length) ↔ endB (cpTL es es.length) (n:Int) = true:=by
  rw [chL_mem]
  exact ⟨fun x=>x.1,fun x=>⟨x,ch_all h x⟩⟩
theorem chT_in {es:List En} (h:Sound es) {n:Nat} (hn:n ∈ chL (cpTL es es.length)):n ≤ 10000000:=by
  obtain ⟨i,hi,hx⟩:=end_mem.1 ((chT_mem h).1 hn)
  have:=h.fr_nn hi
  omega
theorem chT_len {es:List En} (h:Sound es) {m:List (Int × Value)} (hm:EndM (cpTL es es.length) es.length m):m.length = (chL (cpTL es es.length)).length:=by
  have hN:((chL (cpTL es es.length)).map fun (n:Nat)=>(n:Int)).Nodup:=by
    rw [List.Nodup,List.pairwise_map]
    exact (chL_inc _).imp fun h=>by omega
  have hp:List.Perm (keysM m) ((chL (cpTL es es.length)).map fun (n:Nat)=>(n:Int)):=(List.perm_ext_iff_of_nodup hm.nd hN).2 fun x=>by
    rw [hm.mem,List.take_of_length_le (by rw [cpTL_len];exact Nat.le_refl _),List.mem_map]
    constructor
    · intro hx
      obtain ⟨i,hi,h2⟩:=end_mem.1 hx
      have:=h.fr_nn hi
      have h0:0 ≤ x:=by omega
      exact ⟨x.toNat,(chT_mem h).2 (by rw [Int.toNat_of_nonneg h0];exact hx),Int.toNat_of_nonneg h0⟩
    · rintro ⟨k,hk,rfl⟩
      exact (chT_mem h).1 hk
  have:=hp.length_eq
  rwa [List.length_map,keysM,List.length_map] at this
def AllT (m:List (Int × Value)):Prop:=∀ p ∈ m,p.2 = .bool true
theorem AllT.nil:AllT []:=fun p hp=>by cases hp
theorem AllT.set {m:List (Int × Value)} (h:AllT m) (k:Int):AllT (aset k (.bool true) m):=by
  induction m with
  | nil=>intro p hp;simp [aset] at hp;subst hp;rfl
  | cons y m ih =>
    obtain ⟨a,b⟩:=y
    unfold aset
    split
    · intro p hp
      rcases List.mem_cons.1 hp with rfl | hp
      · rfl
      · exact h p (List.mem_cons_of_mem _ hp)
    · intro p hp
      rcases List.mem_cons.1 hp with rfl | hp
      · exact h _ List.mem_cons_self
      · exact ih (fun q hq=>h q (List.mem_cons_of_mem _ hq)) p hp
theorem AllT.look {m:List (Int × Value)} (h:AllT m) {k:Int} (hk:k ∈ keysM m):alook k m = some (.bool true):=by
  induction m with
  | nil=>cases hk
  | cons y m ih =>
    obtain ⟨a,b⟩:=y
    unfold alook
    split
    · have:b = .bool true:=h (a,b) List.mem_cons_self
      rw [this]
    · rename_i hne
      refine ih (fun q hq=>h q (List.mem_cons_of_mem _ hq)) ?_
      simp only [keysM,List.map_cons,List.mem_cons] at hk
      rcases hk with rfl | hk
      · exact absurd rfl hne
      · exact hk
end Go.Proofs.A1
namespace Go.Proofs.A1
open Go Go.SL
theorem strB_snocT (l:List Int) (b:Int):strB (l++[b]) = strB l++⟨#[UInt8.ofNat b.toNat]⟩:=by
  apply ByteArray.ext
  apply Array.ext'
  show (List.map _ (l++[b])) = (strB l++(⟨#[UInt8.ofNat b.toNat]⟩:ByteArray)).data.toList
  rw [List.map_append,ByteArray.data_append,Array.toList_append]
  rfl
def padT (s:ByteArray) (j:Nat):ByteArray:=strB ((List.range (s.size + j)).map (lnB s))
theorem padT_size (s:ByteArray) (j:Nat):(padT s j).size = s.size + j:=by unfold padT;rw [strB_size,List.length_map,List.length_range]
theorem padT_zero (s:ByteArray):padT s 0 = s:=by
  unfold padT
  rw [Nat.add_zero]
  conv=>rhs;rw [← strB_all s]
  congr 1
  refine List.map_congr_left fun k hk=>?_
  rw [List.mem_range] at hk
  unfold lnB;rw [if_pos hk]
theorem padT_next (s:ByteArray) (j:Nat):padT s j++⟨#[32]⟩ = padT s (j + 1):=by
  unfold padT
  rw [← Nat.add_assoc,List.range_succ,List.map_append,List.map_singleton,strB_snocT]
  congr 2
  unfold lnB;rw [if_neg (by omega)];rfl
theorem padT_end {s:ByteArray} (h:s.size ≤ 32):padT s (32 - s.size) = lineT s:=by
  unfold padT lineT;rw [show s.size + (32 - s.size) = 32 by omega]
theorem line_c (s:ByteArray) (hs:s.size ≤ 32) (w:World):GivesV Tryz.prog 25 [.string s] w (.string (lineT s)):=by
  refine givesV_of_tr Tryz.func25 rfl rfl ?_
  (refine s_r ?_;refine a_s rfl rfl ?_;refine n_t ?_;refine tr_seq ?_;refine tr_block ?_)
  refine tr_for (fun j:Nat=>j ≤ 32 - s.size) (fun j=>[(0,.string (padT s j)),(2,.string ⟨#[]⟩)]) (fun _=>[]) (fun j=>32 - s.size - j) ?_ ?_
  · apply tr_start 0 (show 0 ≤ 32 - s.size from Nat.zero_le _)
    case hs1=>
      rw [padT_zero]
      exact .cons rfl (.cons rfl .nil)
    case ht=>exact .nil
  intro j hj
  have hz:=padT_size s j
  have hn:=padT_next s j
  by_cases hlt:j < 32 - s.size
  · (refine tr_seq ?_;refine s_r ?_;refine m_v rfl rfl ?_;refine tr_val (rk_len_string (.of rfl)) rfl ?_;refine tr_val (rk_lss (.of rfl) (.of rfl)) rfl ?_;refine n_t ?_;refine c_d rfl (fun hcd=>?_) (fun _=>by omega);refine s_t ?_;refine tr_block ?_;refine tr_region ?_;refine m_v rfl rfl ?_)
    refine tr_val (rk_cat (a:=padT s j) (b:=⟨#[32]⟩) (.of rfl) (.of rfl) (by show _ + 1 ≤ 9223372036854775807;omega)) rfl ?_
    rw [hn]
    (refine a_s rfl rfl ?_;refine tr_nil ?_;refine tr_blk_normal ?_;refine tr_then ?_)
    apply tr_next (j + 1) (show j + 1 ≤ 32 - s.size by omega) (show 32 - s.size - (j + 1) < 32 - s.size - j by omega)
    case hs1=>exact .cons rfl (.cons rfl .nil)
    case ht=>(try simp only [List.take_zero,List.map_nil,List.nil_append]);exact .nil
  · obtain rfl:j = 32 - s.size:=by omega
    rw [padT_end hs] at *
    have hz2:(lineT s).size = 32:=by unfold lineT;rw [strB_size,List.length_map,List.length_range]
    (refine tr_seq ?_;refine s_r ?_;refine m_v rfl rfl ?_;refine tr_val (rk_len_string (.of rfl)) rfl ?_;refine tr_val (rk_lss (.of rfl) (.of rfl)) rfl ?_;refine n_t ?_;refine c_d rfl (fun _=>by omega) (fun hcd=>?_);refine x_t ?_;refine tr_then_exit ?_;refine tr_blk_exit ?_;refine tr_then ?_;refine s_r ?_;refine m_v rfl rfl ?_;refine a_s rfl rfl ?_;refine n_t ?_;refine tr_ret ?_;refine tr_retE rfl (ends1 rfl rfl) ?_)
    rfl
end Go.Proofs.A1
namespace Go.Proofs.A1
open Go Go.SL
def enR (es:List En):Nat → List Value
  | 0=>[]
  | k + 1=>enR es k++(nth es k).cells
theorem enR_tab (es:List En):∀ n,enR es n = tab n (fun k=>(nth es k).cells)
  | 0=>rfl
  | n + 1=>by rw [enR,enR_tab es n,tab_eq_map,tab_eq_map,List.range_succ];simp
theorem enR_flat (es:List En):enR es es.length = (ensL es).flatten:=by
  rw [enR_tab,tab_eq_map,ensL]
  congr 1
  apply List.ext_getElem
  · simp
  · intro i h1 h2
    simp only [List.length_map,List.length_range] at h1
    simp [nth_eq h1]
theorem rdEn {c:Cx} {hs hs':List Asn} {w:World} {E:TypeId} {es:List En} {v:Value} (hm:Mem c hs w) (ht:Take hs (row E 6 v es.length (enR es es.length)) hs'):Rd w v 6 (ensL es):=
  hm.rdRow ht (enR_flat es) (ensL_sz es) (ensL_length es)
theorem craneS_c {sv:Value} {es:List En} {w:World} (h1:Rd w sv 6 (ensL es)) (hfew:es.length ≤ 1000) :
    Gives Tryz.prog 8 [.agg #[sv]] w [] (fun _:Value=>True) (fun v=>.agg #[v]) (fun v=>[row 67 6 v es.length (enR es es.length)]):=by
  obtain ⟨a,cap,b,o,rfl,hcap,hmax,ha,hc⟩:=h1
  rw [ensL_length] at *
  unfold maxLen at hmax
  refine gives_of_tr Tryz.func8 rfl rfl ?_
  (refine s_r ?_;refine tr_new (rk_box (.of rfl) rfl) rfl (fun _ _=>?_);refine tr_new (rk_alloc rfl) rfl (fun _ _=>?_);refine n_r ?_;refine tr_new (rk_alloc rfl) rfl (fun _ _=>?_);refine n_t ?_;refine tr_seq ?_;refine s_r ?_;refine f_a rfl rfl norm0_ ?_;refine tr_val (rk_load1 (.of rfl) (At.lit (.there (.there .here)) rfl)) rfl ?_;refine tr_val (rk_len_slice (.of rfl)) rfl ?_;refine m_v rfl rfl ?_;refine n_t ?_;refine tr_block ?_)
  rename_i b1 hb1 b2 hb2 b3 hb3
  refine tr_rowNil 67 6 ?_
  refine tr_for (ι:=Nat × Value) (fun x=>x.1 ≤ es.length) (fun x=>[(9,.int .i64 x.1),(8,.int .i64 es.length),(7,.slice a es.length cap),(2,.pointer (some ⟨b2,0,none⟩)),(3,.pointer (some ⟨b3,0,none⟩))])
    (fun x=>[row 67 6 x.2 x.1 (enR es x.1),blk b3 (.cells #[x.2] 40 (0,0)),blk b2 (.cells #[.slice none 0 0] 40 (0,0))]) (fun x=>es.length - x.1) ?_ ?_
  · apply tr_start (0,.slice none 0 0) (Nat.zero_le _)
    case hs1=>exact .cons rfl (.cons rfl (.cons rfl (.cons rfl (.cons rfl .nil))))
    case ht=>
      show Takes _ [row 67 6 (.slice none 0 0) 0 [],blk b3 (.cells #[.slice none 0 0] 40 (0,0)),blk b2 (.cells #[.slice none 0 0] 40 (0,0))] _
      exact .cons .here (.cons .here (.cons .here .nil))
  rintro ⟨k,v⟩ hk
  dsimp only at hk ⊢
  by_cases hlt:k < es.length
  · have ha':=ha (ensL_ne hlt)
    have hcell:=(hc k _ (ensL_get hlt)).2
    unfold En.cells at hcell
    (refine s_r ?_;refine tr_val (rk_lss (.of rfl) (.of rfl)) rfl ?_;refine n_t ?_;refine tr_seq ?_;refine c_d rfl (fun hcd=>?_) (fun _=>by omega);refine s_t ?_;refine tr_seq ?_;refine tr_block ?_;refine s_r ?_;refine tr_val (rk_indexAddr (.of rfl) (.of rfl) ha' (by omega) hcd norm1_) rfl ?_;refine tr_val (rk_loadN (.of rfl) (Ats.base hcell rfl) rfl) rfl ?_;refine tr_new (rk_alloc rfl) rfl (fun _ _=>?_);refine tr_store (.of rfl) (.of rfl) .here rfl rfl (okc_cons rfl (okc_cons rfl (okc_cons rfl (okc_cons rfl (okc_cons rfl (okc_cons rfl okc_nil)))))) (lenb rfl) norm_ ?_;refine n_t ?_;refine tr_region ?_;refine f_a rfl rfl norm0_ ?_;refine tr_val (rk_load1 (.of rfl) (At.lit (.there (.there .here)) rfl)) rfl ?_;refine f_a rfl rfl norm0_ ?_;refine tr_val (rk_load1 (.of rfl) (At.lit .here rfl)) rfl ?_;refine f_a rfl rfl norm0_ ?_;refine tr_val (rk_load1 (.of rfl) (At.lit .here rfl)) rfl ?_;refine f_a rfl rfl norm0_ ?_;refine tr_val (rk_loadB (.of rfl) .here norm_ (by rfl)) rfl ?_;refine f_a rfl rfl norm0_ ?_;refine tr_val (rk_load1 (.of rfl) (At.lit .here rfl)) rfl ?_;refine f_a rfl rfl norm0_ ?_;refine tr_val (rk_load1 (.of rfl) (At.lit .here rfl)) rfl ?_;refine tr_val (rk_buildL (.cons (.of rfl) (.cons (.of rfl) (.cons (.of rfl) (.cons (.of rfl) (.cons (.of rfl) .nil))))) norm_) rfl ?_;refine tr_new (rk_sliceLitN (.cons (.of rfl) .nil) rfl rfl normp_ normp_ norm_) rfl (fun _ _=>?_))
    refine tr_appendB (.of rfl) (.of rfl) (.there (.there .here)) .here norm_ (by rfl) (okc_cons rfl (okc_cons rfl (okc_cons rfl (okc_cons rfl (okc_cons rfl (okc_cons rfl okc_nil)))))) (by rfl) (by rfl) (by rfl) lenx_ (by rfl) ?_
    intro v'
    refine tr_rowSl (E:=67) (sz:=6) (by exact .here) fun a' cap' e=>?_
    subst e
    (refine f_a rfl rfl norm0_ ?_;refine tr_store (.of rfl) (.of rfl) (.there (.there (.there .here))) rfl rfl (okc_cons rfl okc_nil) (lenb rfl) norm_ ?_;refine tr_nil ?_;refine tr_blk_normal ?_;refine tr_then ?_;refine tr_region ?_;refine tr_val (rk_add (.of rfl) (.of rfl) (ini (by omega))) rfl ?_;refine m_v rfl rfl ?_;refine n_t ?_)
    apply tr_next (k + 1,.slice a' (k + 1) cap') (by show k + 1 ≤ es.length;omega) (by show es.length - (k + 1) < es.length - k;omega)
    case hs1=>exact .cons rfl (.cons rfl (.cons rfl (.cons rfl (.cons rfl .nil))))
    case ht=>
      show Takes _ [row 67 6 (.slice a' (k + 1) cap') (k + 1) (enR es k++(nth es k).cells),blk b3 (.cells #[.slice a' (k + 1) cap'] 40 (0,0)),_] _
      unfold En.cells
      exact .cons (.there .here) (.cons .here (.cons (.there (.there .here)) .nil))
  · obtain rfl:k = es.length:=by omega
    refine tr_rowSl (E:=67) (sz:=6) (by exact .here) fun a' cap' e=>?_
    subst e
    (refine s_r ?_;refine tr_val (rk_lss (.of rfl) (.of rfl)) rfl ?_;refine n_t ?_;refine tr_seq ?_;refine c_d rfl (fun _=>by omega) (fun hcd=>?_);refine x_t ?_;refine tr_then_exit ?_;refine tr_blk_exit ?_;refine tr_then ?_;refine s_r ?_;refine tr_val (rk_loadB (.of rfl) (.there .here) norm_ (by rfl)) rfl ?_;refine tr_store (.of rfl) (.of rfl) (.there (.there .here)) rfl rfl (okc_cons rfl okc_nil) (lenb rfl) norm_ ?_;refine n_t ?_;refine tr_ret ?_)
    first | with_reducible apply tr_retM | with_reducible apply tr_endM
    case he=>exact ends1cB rfl inferInstance rfl .here norm_ (by rfl)
    case hR=>
      intro w' hm'
      exact gives_end (.slice a' es.length cap') trivial (show Takes _ [row 67 6 (.slice a' es.length cap') es.length (enR es es.length)] _ by exact .cons (.there .here) .nil) hm' rfl
end Go.Proofs.A1
namespace Go.Proofs.A1
open Go Go.SL
theorem ind0 {α:Type} {l:List Oper} {i:Nat} {v:α}:Indep l i (fun _=>v):=fun _ _ _=>rfl
theorem tr_rowAs {c:Cx} {D:List Nat} {sl:Slots} {hs hs':List Asn} {X:Act → World → Prop} {E:TypeId} {sz:Nat} {v:Value} {n m:Nat} {xs ys:List Value} (ht:Take hs (row E sz v n xs) hs') (hx:xs = ys) (hn:n = m)
    (k:Tr c D sl (row E sz v m ys :: hs') X):Tr c D sl hs X:=by
  subst hx hn
  exact fun a w hst=>k a w (hst.heap (hst.mem.take (ht.append _)))
theorem pure_at {l:List Oper} {p d k:Nat} {x:Operand} {ty:TypeId} {pos:String} {af:Array Edge} (h:l[p]? = some ⟨some d,.extract x k,ty,pos,af,none⟩) (h2:Region.noSelect l.toArray = true) (h3:Region.free .any l.toArray ((List.range l.length).map fun j=>((masks l []).getD p 0).testBit j).toArray p = true):PureAt l p:=⟨d,x,k,ty,pos,af,h,h2,h3⟩
def esD:List En:=[⟨⟨#[97]⟩,⟨#[109]⟩,⟨#[102,105,120,101,100]⟩,1790,20,0⟩,⟨⟨#[98]⟩,⟨#[109]⟩,⟨#[109,97,110,117,97,108]⟩,1830,5,0⟩]
theorem esD_ok:chkF esD = 0:=by decide +kernel
theorem esD_t:tmL esD = [(1790,1810),(1830,1835)]:=by decide +kernel
theorem esD_g:gpsL esD = [(0,1810,1830)]:=by decide +kernel
theorem lbD_a:lofF ⟨30,true⟩ 1790 = ⟨0,0,59,20⟩ ∧ lofE ⟨30,true⟩ 1790 = 0:=⟨by apply lb_ext <;> decide +kernel,by decide +kernel⟩
theorem lbD_b:lofF ⟨30,true⟩ 1810 = ⟨0,1,0,12⟩ ∧ lofE ⟨30,true⟩ 1810 = 0:=⟨by apply lb_ext <;> decide +kernel,by decide +kernel⟩
theorem craneD_c (w:World) (hG:GlobR w) (hN:Glob w):GivesV Tryz.prog 4 [] w (.bool true):=by
  have hl1790:∀ w',GlobR w' → GivesV Tryz.prog 17 [.agg #[.int .i64 30,.bool true],.int .i64 1790] w' (.tuple #[.agg #[.int .i64 0,.int .i64 0,.int .i64 59,.int .i64 20],.int .i64 0]):=fun w' h=>by
    have h1:=labelOf_c ⟨30,true⟩ 1790 w' h
    rw [lbD_a.1,lbD_a.2] at h1
    exact h1
  have hl1810:∀ w',GlobR w' → GivesV Tryz.prog 17 [.agg #[.int .i64 30,.bool true],.int .i64 1810] w' (.tuple #[.agg #[.int .i64 0,.int .i64 1,.int .i64 0,.int .i64 12],.int .i64 0]):=fun w' h=>by
    have h1:=labelOf_c ⟨30,true⟩ 1810 w' h
    rw [lbD_b.1,lbD_b.2] at h1
    exact h1
  refine givesV_of_tr Tryz.func4 rfl rfl ?_
  (refine s_r ?_;refine a_s rfl rfl ?_;refine n_r ?_;refine tr_val (rk_buildL (.cons (.of rfl) (.cons (.of rfl) .nil)) norm_) rfl ?_;refine tr_new (rk_alloc rfl) rfl (fun _ _=>?_);refine tr_store (.of rfl) (.of rfl) .here rfl rfl (okc_cons rfl (okc_cons rfl okc_nil)) (lenb rfl) norm_ ?_;refine n_r ?_;refine tr_val (rk_buildL (.cons (.of rfl) (.cons (.of rfl) .nil)) norm_) rfl ?_;refine tr_val (rk_buildL (.cons (.of rfl) (.cons (.of rfl) (.cons (.of rfl) (.cons (.of rfl) .nil)))) norm_) rfl ?_;refine tr_val (rk_buildL (.cons (.of rfl) (.cons (.of rfl) .nil)) norm_) rfl ?_;refine tr_val (rk_buildL (.cons (.of rfl) (.cons (.of rfl) (.cons (.of rfl) (.cons (.of rfl) .nil)))) norm_) rfl ?_;refine tr_new (rk_sliceLitN (.cons (.of rfl) (.cons (.of rfl) .nil)) rfl rfl normp_ normp_ norm_) rfl (fun _ _=>?_);refine tr_val (rk_buildL (.cons (.of rfl) .nil) norm_) rfl ?_;refine tr_new (rk_alloc rfl) rfl (fun _ _=>?_);refine tr_store (.of rfl) (.of rfl) .here rfl rfl (okc_cons rfl okc_nil) (lenb rfl) norm_ ?_;refine n_r ?_;refine tr_val (rk_loadB (.of rfl) .here norm_ (by rfl)) rfl ?_)
  rename_i b1 hb1 bq hbq b2 hb2
  refine tr_rowLitE9 (g:=bq) (E:=67) (ys:=[.string ⟨#[97]⟩,.string ⟨#[109]⟩,.string ⟨#[102,105,120,101,100]⟩,.int .i64 1790,.int .i64 20,.int .i64 0,.string ⟨#[98]⟩,.string ⟨#[109]⟩,.string ⟨#[109,97,110,117,97,108]⟩,.int .i64 1830,.int .i64 5,.int .i64 0]) 2 6 (by exact Take.there .here) rfl rfl rfl ?_
  refine tr_rowAs (E:=67) (sz:=6) (v:=.slice (some ⟨bq,0,none⟩) 2 2) (ys:=enR esD esD.length) (m:=esD.length) (by exact .here) (by exact rfl) (by exact rfl) ?_
  with_reducible apply tr_call
  case hr=>exact rk_call (.of rfl) (.cons (.of rfl) .nil) inferInstance normc_
  case hd=>rfl
  case ht=>exact Takes.nil
  case hc=>
    intro w1 fp hm1 _ hs1
    obtain rfl:fp = []:=hs1
    exact times_c (rdEn (E:=67) (v:=.slice (some ⟨bq,0,none⟩) 2 2) hm1 (by exact .here)) (hN.keeps hm1.keeps)
  intro tv _
  dsimp only [id_eq,List.cons_append,List.nil_append]
  rw [esD_ok,esD_t]
  refine tr_rowAs (E:=45) (sz:=2) (v:=tv) (ys:=[.int .i64 1790,.int .i64 1810,.int .i64 1830,.int .i64 1835]) (m:=2) (by exact .here) (by exact rfl) (by exact rfl) ?_
  refine tr_rowOpen (E:=45) (sz:=2) (v:=tv) (by exact .here) (show 0 < 2 by omega) ?_
  rintro gt ct curt rfl hct hmt hzt hxt
  (refine m_v rfl rfl ?_;refine tr_val (rk_extract (.of rfl) rfl) rfl ?_;refine tr_val (rk_extract (.of rfl) rfl) rfl ?_;refine a_s rfl rfl ?_;refine a_s rfl rfl ?_;refine n_r ?_;refine tr_val (rk_loadB (.of rfl) (.there (.there .here)) norm_ (by rfl)) rfl ?_)
  with_reducible apply tr_call
  case hr=>exact rk_call (.of rfl) (.cons (.of rfl) .nil) inferInstance normc_
  case hd=>rfl
  case ht=>exact Takes.nil
  case hc=>
    intro w1 fp hm1 _ hs1
    obtain rfl:fp = []:=hs1
    exact gapsX_c (rdEn (E:=67) (v:=.slice (some ⟨bq,0,none⟩) 2 2) hm1 (by exact Take.there .here)) (hN.keeps hm1.keeps)
  intro gv _
  dsimp only [id_eq,List.cons_append,List.nil_append]
  rw [esD_ok,esD_g]
  refine tr_rowAs (E:=74) (sz:=3) (v:=gv) (ys:=[.int .i64 0,.int .i64 1810,.int .i64 1830]) (m:=1) (by exact .here) (by exact rfl) (by exact rfl) ?_
  refine tr_rowOpen (E:=74) (sz:=3) (v:=gv) (by exact .here) (show 0 < 1 by omega) ?_
  rintro gg cg curg rfl hcg hmg hzg hxg
  have hq:cellsAt ([.int .i64 0,.int .i64 1810,.int .i64 1830]++curg) (0 * 3) 3 = [.int .i64 0,.int .i64 1810,.int .i64 1830]:=by rw [cellsAt_app (by decide)];rfl
  (refine m_v rfl rfl ?_;refine tr_val (rk_extract (.of rfl) rfl) rfl ?_;refine tr_val (rk_extract (.of rfl) rfl) rfl ?_;refine a_s rfl rfl ?_;refine a_s rfl rfl ?_;refine n_t ?_;refine tr_seq ?_;refine s_r ?_;refine m_v rfl rfl ?_;refine tr_val (rk_neq (.of rfl) (.of rfl)) rfl ?_;refine m_v rfl rfl ?_;refine v_g rfl rfl rfl rfl ?_;refine tr_vG1 rfl rfl inferInstance (fun hg hgp=>(rk_neq (.ofg hg rfl) (.of rfl))) rfl ?_;refine tr_val (rk_pick_or (.of rfl) rfl) rfl ?_;refine m_v rfl rfl ?_;refine v_g rfl rfl rfl rfl ?_;refine tr_vG1 rfl rfl inferInstance (fun hg hgp=>(rk_len_slice (.ofg hg rfl))) rfl ?_;refine tr_vG1 rfl rfl inferInstance (fun hg hgp=>(rk_neq (.ofg hg rfl) (.of rfl))) rfl ?_;refine tr_val (rk_pick_or (.of rfl) rfl) rfl ?_;refine m_v rfl rfl ?_;refine v_g rfl rfl rfl rfl ?_;refine tr_vG1 rfl rfl inferInstance (fun hg hgp=>(rk_len_slice (.ofg hg rfl))) rfl ?_;refine tr_vG1 rfl rfl inferInstance (fun hg hgp=>(rk_neq (.ofg hg rfl) (.of rfl))) rfl ?_;refine tr_val (rk_pick_or (.of rfl) rfl) rfl ?_;refine m_v rfl rfl ?_;refine v_g rfl rfl rfl rfl ?_;refine tr_vG1 rfl rfl inferInstance (fun hg hgp=>(rk_indexAddr (.ofg hg rfl) (.of rfl) rfl (by omega) (by omega) norm1_)) rfl ?_;refine tr_vG1 rfl rfl inferInstance (fun hg hgp=>(rk_loadB (.ofg hg rfl) .here hq rfl)) rfl ?_;refine tr_vG1 rfl rfl inferInstance (fun hg hgp=>(rk_buildL (.cons (.of rfl) (.cons (.of rfl) .nil)) norm_)) rfl ?_;refine tr_vG1 rfl rfl inferInstance (fun hg hgp=>(rk_buildL (.cons (.of rfl) (.cons (.ofg hg rfl) .nil)) norm_)) rfl ?_;refine tr_vG1 rfl rfl inferInstance (fun hg hgp=>(rk_neqA (.ofg hg rfl) (.ofg hg rfl) (okL_int (okL_int (okL_int okL_nil))) rfl)) rfl ?_;refine tr_val (rk_pick_or (.of rfl) rfl) rfl ?_;refine n_t ?_;refine tr_cond_f (.of rfl) ?_;refine s_t ?_;refine tr_seq ?_)
  with_reducible refine tr_drawP 10 8 (by kernel_rfl) (pure_at rfl (by kernel_rfl) (by kernel_rfl)) ?_
  (refine am_val (fun β=>(rk_loadB (.of rfl) (.there (.there (.there (.there .here)))) norm_ (by rfl))) ind0 rfl ?_;refine am_val (fun β=>(rk_move (.of rfl))) ind0 rfl ?_;refine am_val (fun β=>(rk_indexAddr (.of rfl) (.of rfl) rfl (by omega) (by omega) norm1_)) ind0 rfl ?_;refine am_val (fun β=>(rk_fieldAddr (.of rfl) norm0_)) ind0 rfl ?_;refine am_val (fun β=>(rk_load1 (.of rfl) (At.lit (.there .here) rfl))) ind0 rfl ?_)
  try dsimp only [Nat.zero_add,Nat.reduceAdd]
  with_reducible apply am_callV (B:=[]) (F:=fun _=>.tuple #[.agg #[.int .i64 0,.int .i64 0,.int .i64 59,.int .i64 20],.int .i64 0]) (args:=fun _=>[.agg #[.int .i64 30,.bool true],.int .i64 1790])
  case hB=>rfl
  case hr=>exact fun β=>rk_call (.of rfl) (.cons (.of rfl) (.cons (.of rfl) .nil)) inferInstance rfl
  case hi=>exact ind0
  case hd=>rfl
  case hc=>exact fun β w' hb=>hl1790 w' (hG.keeps hb.mem.keeps)
  try dsimp only [Nat.reduceAdd]
  (refine am_val (fun β=>(rk_move (.of rfl))) ind0 rfl ?_;refine am_val (fun β=>(rk_extract (.of rfl) rfl)) ind0 rfl ?_;refine am_val (fun β=>(rk_extract (.of rfl) rfl)) ind0 rfl ?_)
  refine am_new (fun β=>(rk_alloc rfl)) (fun _ _ _=>rfl) rfl ?_
  refine am_end fun β=>?_
  dsimp only [resAll,List.nil_append,List.cons_append,List.append_eq,Nat.reduceAdd]
  generalize gnat (β 9) = b9
  clear β
  refine left_ready (rs:=[10]) (by kernel_rfl) (by simp) (List.forall_mem_cons.2 ⟨?_,fun _ h=>absurd h List.not_mem_nil⟩)
  refine next_step rfl ?_
  (refine tr_store (.of rfl) (.of rfl) .here rfl rfl (okc_cons rfl (okc_cons rfl (okc_cons rfl (okc_cons rfl okc_nil)))) (lenb rfl) norm_ ?_;refine n_t ?_)
  refine left_ready (rs:=[11]) (by kernel_rfl) (by simp) (List.forall_mem_cons.2 ⟨?_,fun _ h=>absurd h List.not_mem_nil⟩)
  refine next_step rfl ?_
  (refine a_s rfl rfl ?_;refine n_t ?_)
  with_reducible refine left_done (by kernel_rfl) ?_
  (refine tr_then ?_;refine tr_seq ?_)
  with_reducible refine tr_drawP 10 8 (by kernel_rfl) (pure_at rfl (by kernel_rfl) (by kernel_rfl)) ?_
  (refine am_val (fun β=>(rk_loadB (.of rfl) (.there (.there (.there (.there (.there .here))))) norm_ (by rfl))) ind0 rfl ?_;refine am_val (fun β=>(rk_move (.of rfl))) ind0 rfl ?_;refine am_val (fun β=>(rk_indexAddr (.of rfl) (.of rfl) rfl (by omega) (by omega) norm1_)) ind0 rfl ?_;refine am_val (fun β=>(rk_fieldAddr (.of rfl) norm0_)) ind0 rfl ?_;refine am_val (fun β=>(rk_load1 (.of rfl) (At.lit (.there (.there .here)) rfl))) ind0 rfl ?_)
  try dsimp only [Nat.zero_add,Nat.reduceAdd]
  with_reducible apply am_callV (B:=[]) (F:=fun _=>.tuple #[.agg #[.int .i64 0,.int .i64 1,.int .i64 0,.int .i64 12],.int .i64 0]) (args:=fun _=>[.agg #[.int .i64 30,.bool true],.int .i64 1810])
  case hB=>rfl
  case hr=>exact fun β=>rk_call (.of rfl) (.cons (.of rfl) (.cons (.of rfl) .nil)) inferInstance rfl
  case hi=>exact ind0
  case hd=>rfl
  case hc=>exact fun β w' hb=>hl1810 w' (hG.keeps hb.mem.keeps)
  try dsimp only [Nat.reduceAdd]
  (refine am_val (fun β=>(rk_move (.of rfl))) ind0 rfl ?_;refine am_val (fun β=>(rk_extract (.of rfl) rfl)) ind0 rfl ?_;refine am_val (fun β=>(rk_extract (.of rfl) rfl)) ind0 rfl ?_)
  refine am_new (fun β=>(rk_alloc rfl)) (fun _ _ _=>rfl) rfl ?_
  refine am_end fun β=>?_
  dsimp only [resAll,List.nil_append,List.cons_append,List.append_eq,Nat.reduceAdd]
  generalize gnat (β 9) = b9
  clear β
  refine left_ready (rs:=[10]) (by kernel_rfl) (by simp) (List.forall_mem_cons.2 ⟨?_,fun _ h=>absurd h List.not_mem_nil⟩)
  refine next_step rfl ?_
  (refine tr_store (.of rfl) (.of rfl) .here rfl rfl (okc_cons rfl (okc_cons rfl (okc_cons rfl (okc_cons rfl okc_nil)))) (lenb rfl) norm_ ?_;refine n_t ?_)
  refine left_ready (rs:=[11]) (by kernel_rfl) (by simp) (List.forall_mem_cons.2 ⟨?_,fun _ h=>absurd h List.not_mem_nil⟩)
  refine next_step rfl ?_
  (refine a_s rfl rfl ?_;refine n_t ?_)
  with_reducible refine left_done (by kernel_rfl) ?_
  (refine tr_then ?_;refine s_r ?_;refine m_v rfl rfl ?_;refine tr_val (rk_eql (.of rfl) (.of rfl)) rfl ?_;refine m_v rfl rfl ?_;refine v_g rfl rfl rfl rfl ?_;refine tr_vG1 rfl rfl inferInstance (fun hg hgp=>(rk_eql (.ofg hg rfl) (.of rfl))) rfl ?_;refine tr_val (rk_pick_and (.of rfl) rfl) rfl ?_;refine m_v rfl rfl ?_;refine tr_vG1 rfl rfl inferInstance (fun hg hgp=>(rk_loadB (.of rfl) (.there .here) norm_ (by rfl))) rfl ?_;refine tr_vG1 rfl rfl inferInstance (fun hg hgp=>(rk_buildL (.cons (.of rfl) (.cons (.of rfl) .nil)) norm_)) rfl ?_;refine tr_vG1 rfl rfl inferInstance (fun hg hgp=>(rk_eqlA (.ofg hg rfl) (.ofg hg rfl) (okL_int (okL_int (okL_int (okL_int okL_nil)))) rfl)) rfl ?_;refine tr_val (rk_pick_and (.of rfl) rfl) rfl ?_;refine m_v rfl rfl ?_;refine tr_vG1 rfl rfl inferInstance (fun hg hgp=>(rk_loadB (.of rfl) .here norm_ (by rfl))) rfl ?_;refine tr_vG1 rfl rfl inferInstance (fun hg hgp=>(rk_buildL (.cons (.of rfl) (.cons (.of rfl) .nil)) norm_)) rfl ?_;refine tr_vG1 rfl rfl inferInstance (fun hg hgp=>(rk_eqlA (.ofg hg rfl) (.ofg hg rfl) (okL_int (okL_int (okL_int (okL_int okL_nil)))) rfl)) rfl ?_;refine tr_val (rk_pick_and (.of rfl) rfl) rfl ?_;refine a_s rfl rfl ?_;refine n_t ?_;refine tr_ret ?_;refine tr_retE rfl (ends1 rfl rfl) ?_)
  rfl
end Go.Proofs.A1
namespace Go.Proofs.A1
open Go Go.SL
theorem firstF4 (a b c d:Int) (ha:a = 0) (hb:b = 0) (hc:c = 0):firstF [a,b,c,d] = d:=by
  subst ha hb hc
  by_cases h:d = 0
  · subst h;rfl
  · simp [firstF,h]
set_option maxHeartbeats 1000000 in
theorem brk_c {b:Br} {sv cv xv:Value} {w:World} (h1:Rd w sv 4 (spsL b.sp)) (h2:Rd w cv 1 (ints b.cm)) (h3:Rd w xv 2 (prsL b.ex)) :
    GivesV Tryz.prog 33 [.agg #[.int .i64 b.n,sv,cv,xv]] w (.int .i64 (brE b)):=by
  have h2':=h2
  have h3':=h3
  obtain ⟨a,cap,bb,o,rfl,hcap,hmax,ha,hc⟩:=h1
  obtain ⟨a2,cap2,bb2,o2,rfl,hcap2,hmax2,ha2,hc2⟩:=h2
  obtain ⟨a3,cap3,bb3,o3,rfl,hcap3,hmax3,ha3,hc3⟩:=h3
  rw [spsL_length] at *
  rw [ints_length] at *
  rw [prsL_length] at *
  unfold maxLen at hmax hmax2 hmax3
  refine givesV_of_tr Tryz.func33 rfl rfl ?_
  (refine s_r ?_;refine tr_new (rk_box (.of rfl) rfl) rfl (fun _ _=>?_);refine a_s rfl rfl ?_;refine n_t ?_;refine tr_seq ?_;refine tr_seq ?_)
  with_reducible refine tr_draw 18 (by kernel_rfl) ?_
  (refine a_f rfl rfl norm0_ ?_;refine any_val (rk_load1 (.of rfl) (At.lit .here rfl)) rfl ?_;refine any_call (rk_call (.of rfl) (.cons (.of rfl) (.cons (.of rfl) (.cons (.of rfl) .nil))) inferInstance normc_) rfl (fun w' hm'=>(within9_c _ 0 100000 w')) ?_;refine a_f rfl rfl norm0_ ?_;refine any_val (rk_load1 (.of rfl) (At.lit .here rfl)) rfl ?_;refine any_val (rk_len_slice (.of rfl)) rfl ?_;refine any_val (rk_gtr (.of rfl) (.of rfl)) rfl ?_;refine any_call (rk_call (.of rfl) (.cons (.of rfl) (.cons (.of rfl) .nil)) inferInstance normc_) rfl (fun w' hm'=>(when9_c _ 5 w')) ?_;refine a_f rfl rfl norm0_ ?_;refine any_val (rk_load1 (.of rfl) (At.lit .here rfl)) rfl ?_;refine any_val (rk_len_slice (.of rfl)) rfl ?_;refine any_val (rk_gtr (.of rfl) (.of rfl)) rfl ?_;refine any_call (rk_call (.of rfl) (.cons (.of rfl) (.cons (.of rfl) .nil)) inferInstance normc_) rfl (fun w' hm'=>(when9_c _ 5 w')) ?_;refine a_f rfl rfl norm0_ ?_;refine any_val (rk_load1 (.of rfl) (At.lit .here rfl)) rfl ?_;refine any_val (rk_len_slice (.of rfl)) rfl ?_;refine any_val (rk_gtr (.of rfl) (.of rfl)) rfl ?_;refine any_call (rk_call (.of rfl) (.cons (.of rfl) (.cons (.of rfl) .nil)) inferInstance normc_) rfl (fun w' hm'=>(when9_c _ 5 w')) ?_)
  with_reducible refine any_end ?_
  (refine tr_new (rk_sliceLit (.cons (.of rfl) (.cons (.of rfl) (.cons (.of rfl) (.cons (.of rfl) .nil)))) rfl rfl rfl rfl) rfl (fun _ _=>?_);refine tr_callV (rk_call (.of rfl) (.cons (.of rfl) .nil) inferInstance normc_) rfl (fun w' hm'=>(first_pB9 (Mem.rdBlk hm' .here rfl rfl) (IntL.cons (IntL.cons (IntL.cons (IntL.cons IntL.nil)))))) ?_;refine a_s rfl rfl ?_;refine n_r ?_;refine m_v rfl rfl ?_;refine tr_val (rk_neq (.of rfl) (.of rfl)) rfl ?_;refine n_t ?_;refine c_d rfl (fun hcd=>?_) (fun hcd=>?_);refine s_r ?_;refine m_v rfl rfl ?_;refine a_s rfl rfl ?_;refine n_t ?_;refine r_t ?_;refine tr_retE rfl (ends1 rfl rfl) ?_;rotate_left;refine s_t ?_;refine s_r ?_;refine tr_val (rk_makeFunc' .nil (.cons (.of rfl) .nil)) rfl ?_;refine tr_new (rk_alloc rfl) rfl (fun _ _=>?_);refine tr_store (.of rfl) (.of rfl) .here rfl rfl (okc_cons rfl okc_nil) (lenb rfl) norm_ ?_;refine n_r ?_;rotate_right)
  · have hne:br0 b ≠ 0:=hcd
    have hE:brE b = br0 b:=by simp [brE,firstF,hne]
    rw [hE];rfl
  have hz0:br0 b = 0:=Decidable.not_not.1 hcd
  have hz1:=hz0
  unfold br0 at hz1
  rw [firstF_zero] at hz1
  simp only [List.mem_cons,List.not_mem_nil,or_false,forall_eq_or_imp,forall_eq] at hz1
  rw [whenF_zero (by decide),whenF_zero (by decide),whenF_zero (by decide)] at hz1
  simp only [decide_eq_false_iff_not] at hz1
  have hl8:b.sp.length ≤ 8:=by omega
  have hm8:b.cm.length ≤ 8:=by omega
  have hx16:b.ex.length ≤ 16:=by omega
  rename_i b1 hb1 bq hbq b4 hb4
  refine tr_makeMapS rfl ?_
  intro bm hbm
  (refine a_s rfl rfl ?_;refine n_t ?_;refine tr_seq ?_;refine s_r ?_;refine f_a rfl rfl norm0_ ?_;refine tr_val (rk_load1 (.of rfl) (At.lit (.there (.there (.there .here))) rfl)) rfl ?_;refine tr_val (rk_len_slice (.of rfl)) rfl ?_;refine m_v rfl rfl ?_;refine n_t ?_;refine tr_block ?_)
  refine tr_for (ι:=Nat × List (ByteArray × Value)) (fun x=>x.1 ≤ b.sp.length ∧ (∀ i,i < x.1 → spE b i = 0) ∧ ∀ s,(alook s x.2).getD (.bool false) = .bool (knwS b.sp x.1 s))
    (fun x=>[(38,.int .i64 x.1),(37,.int .i64 b.sp.length),(36,.slice a b.sp.length cap),(5,.map (some bm)),(1,.pointer (some ⟨b1,0,none⟩)),(4,.pointer (some ⟨b4,0,none⟩))])
    (fun x=>[mp (fun s:ByteArray=>Value.string s) bm x.2,blk b1 (.cells #[.int .i64 b.n,.slice a b.sp.length cap,.slice a2 b.cm.length cap2,.slice a3 b.ex.length cap3] 58 (0,0)),blk b4 (.cells #[.func (.func 67) #[] #[.pointer (some ⟨b1,0,none⟩)]] 142 (0,0))]) (fun x=>b.sp.length - x.1) ?_ ?_
  · apply tr_start (0,[]) ⟨Nat.zero_le _,fun i h=>by omega,fun s=>rfl⟩
    case hs1=>exact .cons rfl (.cons rfl (.cons rfl (.cons rfl (.cons rfl (.cons rfl .nil)))))
    case ht=>(try simp only [List.take_zero,List.map_nil,List.nil_append]);exact .cons .here (.cons (.there (.there .here)) (.cons .here .nil))
  rintro ⟨k,l⟩ ⟨hk,hf,hm⟩
  dsimp only at hk hf hm ⊢
  by_cases hlt:k < b.sp.length
  · have ha':=ha (spsL_ne hlt)
    have hcell:=(hc k _ (spsL_get hlt)).2
    have hmk:=hm (nthS9 b.sp k).nm
    unfold Sp.cells at hcell
    (refine s_r ?_;refine tr_val (rk_lss (.of rfl) (.of rfl)) rfl ?_;refine n_t ?_;refine tr_seq ?_;refine c_d rfl (fun hcd=>?_) (fun _=>by omega);refine s_t ?_;refine tr_seq ?_;refine tr_block ?_;refine s_r ?_;refine tr_val (rk_indexAddr (.of rfl) (.of rfl) ha' (by omega) hcd norm1_) rfl ?_;refine tr_val (rk_loadN (.of rfl) (Ats.base hcell rfl) rfl) rfl ?_;refine tr_new (rk_alloc rfl) rfl (fun _ _=>?_);refine tr_store (.of rfl) (.of rfl) .here rfl rfl (okc_cons rfl (okc_cons rfl (okc_cons rfl (okc_cons rfl okc_nil)))) (lenb rfl) norm_ ?_;refine n_t ?_;refine tr_seq ?_;refine tr_seq ?_)
    with_reducible refine tr_draw 18 (by kernel_rfl) ?_
    (refine a_f rfl rfl norm0_ ?_;refine any_val (rk_load1 (.of rfl) (At.lit .here rfl)) rfl ?_;refine any_call (rk_call (.of rfl) (.cons (.of rfl) .nil) inferInstance normc_) rfl (fun w' hm'=>(nm_p _ w')) ?_;refine a_m rfl rfl ?_;refine a_f rfl rfl norm0_ ?_;refine any_val (rk_load1 (.of rfl) (At.lit .here rfl)) rfl ?_;refine any_val (rk_lookup keyS (.of rfl) (.of rfl) (Looks.mp (.there .here))) rfl ?_)
    rw [hmk]
    (refine any_call (rk_call (.of rfl) (.cons (.of rfl) (.cons (.of rfl) .nil)) inferInstance normc_) rfl (fun w' hm'=>(when9_c _ 9 w')) ?_;refine any_val (rk_load1 (.of rfl) (At.lit (.there (.there (.there .here))) rfl)) rfl ?_;refine a_f rfl rfl norm0_ ?_;refine any_val (rk_load1 (.of rfl) (At.lit .here rfl)) rfl ?_;refine any_call (rk_call (.of rfl) (.cons (.of rfl) .nil) inferInstance normc_) rfl (fun w' hm'=>(camp_c _ (At.lit (.there (.there .here)) rfl w' hm') (by omega))) ?_;refine a_f rfl rfl norm0_ ?_;refine any_val (rk_load1 (.of rfl) (At.lit .here rfl)) rfl ?_;refine any_call (rk_call (.of rfl) (.cons (.of rfl) (.cons (.of rfl) (.cons (.of rfl) .nil))) inferInstance normc_) rfl (fun w' hm'=>(within9_c _ 1 100000 w')) ?_;refine a_f rfl rfl norm0_ ?_;refine any_val (rk_load1 (.of rfl) (At.lit .here rfl)) rfl ?_;refine any_call (rk_call (.of rfl) (.cons (.of rfl) (.cons (.of rfl) (.cons (.of rfl) .nil))) inferInstance normc_) rfl (fun w' hm'=>(within9_c _ 0 1000000 w')) ?_)
    with_reducible refine any_end ?_
    (refine tr_new (rk_sliceLit (.cons (.of rfl) (.cons (.of rfl) (.cons (.of rfl) (.cons (.of rfl) (.cons (.of rfl) .nil))))) rfl rfl rfl rfl) rfl (fun _ _=>?_);refine tr_callV (rk_call (.of rfl) (.cons (.of rfl) .nil) inferInstance normc_) rfl (fun w' hm'=>(first_pB9 (Mem.rdBlk hm' .here rfl rfl) (IntL.cons (IntL.cons (IntL.cons (IntL.cons (IntL.cons IntL.nil))))))) ?_;refine a_s rfl rfl ?_;refine n_r ?_;refine m_v rfl rfl ?_;refine tr_val (rk_neq (.of rfl) (.of rfl)) rfl ?_;refine n_t ?_;refine c_d rfl (fun hcd=>?_) (fun hcd=>?_);refine s_r ?_;refine m_v rfl rfl ?_;refine a_s rfl rfl ?_;refine n_t ?_;refine r_t ?_;refine tr_blk_ret ?_;refine tr_then_ret ?_;refine tr_then_ret ?_;refine tr_blk_ret ?_;refine tr_then_ret ?_;refine tr_retE rfl (ends1 rfl rfl) ?_;rotate_left;refine s_t ?_;refine tr_region ?_;refine m_v rfl rfl ?_;refine f_a rfl rfl norm0_ ?_;refine tr_val (rk_load1 (.of rfl) (At.lit (.there .here) rfl)) rfl ?_;rotate_right)
    · have hne:spE b k ≠ 0:=hcd
      have hb:errE (spE b) b.sp.length = spE b k:=errE_bad hf hlt hne
      have hE:brE b = spE b k:=by rw [brE,hz0,hb];simp [firstF,hne]
      rw [hE];rfl
    · have hz:spE b k = 0:=Decidable.not_not.1 hcd
      refine tr_mapUpdate keyS (.of rfl) (.of rfl) (.of rfl) (.there (.there .here)) ?_
      (refine tr_nil ?_;refine tr_blk_normal ?_;refine tr_then ?_;refine tr_region ?_;refine tr_val (rk_add (.of rfl) (.of rfl) (ini (by omega))) rfl ?_;refine m_v rfl rfl ?_;refine n_t ?_)
      have hm2:∀ s,(alook s (aset (nthS9 b.sp k).nm (.bool true) l)).getD (.bool false) = .bool (knwS b.sp (k + 1) s):=by
        intro s
        rw [alook_aset,knwS_succ]
        by_cases e:s = (nthS9 b.sp k).nm
        · simp [e]
        · have e':¬ (nthS9 b.sp k).nm = s:=fun h=>e h.symm
          rw [if_neg e,hm];simp [e']
      apply tr_next (k + 1,aset (nthS9 b.sp k).nm (.bool true) l) ⟨by show k + 1 ≤ b.sp.length;omega,fun i hi=>by
        by_cases e:i = k
        · rw [e];exact hz
        · exact hf i (by omega),hm2⟩ (by show b.sp.length - (k + 1) < b.sp.length - k;omega)
      case hs1=>exact .cons rfl (.cons rfl (.cons rfl (.cons rfl (.cons rfl (.cons rfl .nil)))))
      case ht=>exact .cons .here (.cons (.there (.there .here)) (.cons (.there (.there .here)) .nil))
  · obtain rfl:k = b.sp.length:=by omega
    have hz2:errE (spE b) b.sp.length = 0:=errE_ok.2 hf
    (refine s_r ?_;refine tr_val (rk_lss (.of rfl) (.of rfl)) rfl ?_;refine n_t ?_;refine tr_seq ?_;refine c_d rfl (fun _=>by omega) (fun hcd=>?_);refine x_t ?_;refine tr_then_exit ?_;refine tr_blk_exit ?_;refine tr_then ?_;refine tr_seq ?_;refine s_r ?_;refine f_a rfl rfl norm0_ ?_;refine tr_val (rk_load1 (.of rfl) (At.lit (.there .here) rfl)) rfl ?_)
    with_reducible apply tr_call
    case hr=>exact rk_call (.of rfl) (.cons (.of rfl) (.cons (.of rfl) .nil)) inferInstance normc_
    case hd=>rfl
    case ht=>exact Takes.nil
    case hc=>
      intro w1 fp hm1 _ hs1
      obtain rfl:fp = []:=hs1
      refine mapInt (f:=70) (first:=[]) (cap:=[]) (img:=b.cm.map fewF) (h2'.keeps hm1.keeps) rfl (by rw [lenV,ints_length]) (by rw [ints_length];omega) (ints_one _) ?_
      intro i r e hr he w' hk'
      simp only [ints,List.getElem?_map,Option.map_eq_some_iff] at hr he
      obtain ⟨x,hx,rfl⟩:=hr
      obtain ⟨y,hy,rfl⟩:=he
      rw [hx] at hy;cases hy
      exact few_c x w'
    intro v _
    dsimp only [id_eq,List.cons_append,List.nil_append]
    with_reducible apply tr_callV
    case hr=>exact rk_call (.of rfl) (.cons (.of rfl) .nil) inferInstance normc_
    case hd=>rfl
    case hc=>
      intro w' hm'
      exact first_pB9 (Mem.rdRow1 hm' (by exact .here) (by rw [lenV,lenV,ints_length])) (IntL.map _)
    (refine a_s rfl rfl ?_;refine n_r ?_;refine m_v rfl rfl ?_;refine tr_val (rk_neq (.of rfl) (.of rfl)) rfl ?_;refine n_t ?_;refine c_d rfl (fun hcd=>?_) (fun hcd=>?_);refine s_r ?_;refine m_v rfl rfl ?_;refine a_s rfl rfl ?_;refine n_t ?_;refine r_t ?_;refine tr_retE rfl (ends1 rfl rfl) ?_;rotate_left;refine s_t ?_;refine s_r ?_;refine f_a rfl rfl norm0_ ?_;refine tr_val (rk_load1 (.of rfl) (At.lit (.there (.there .here)) rfl)) rfl ?_;refine tr_val (rk_makeFunc' .nil (.cons (.of rfl) .nil)) rfl ?_;rotate_right)
    · have hne:firstF (b.cm.map fewF) ≠ 0:=hcd
      have hE:brE b = firstF (b.cm.map fewF):=by
        rw [brE,hz0,hz2];generalize firstF (b.cm.map fewF) = q at hne;simp [firstF,hne]
      rw [hE]
    have hz3:firstF (b.cm.map fewF) = 0:=Decidable.not_not.1 hcd
    have hE:brE b = firstF (b.ex.map (prE b.cm.length)):=by rw [brE];exact firstF4 _ _ _ _ hz0 hz2 hz3
    rw [hE]
    with_reducible apply tr_call
    case hr=>exact rk_call (.of rfl) (.cons (.of rfl) (.cons (.of rfl) .nil)) inferInstance normc_
    case hd=>rfl
    case ht=>exact Takes.nil
    case hc=>
      intro w1 fp hm1 _ hs1
      obtain rfl:fp = []:=hs1
      refine mapPr (f:=72) (first:=[]) (cap:=[.pointer (some ⟨b4,0,none⟩)]) (img:=b.ex.map (prE b.cm.length)) (h3'.keeps hm1.keeps) rfl (by rw [lenV,prsL_length]) (by rw [prsL_length];omega) (prsL_one _) ?_
      intro i r e hr he w' hk'
      have hm':=hm1.keepsOn hk'
      simp only [prsL,List.getElem?_map,Option.map_eq_some_iff] at hr he
      obtain ⟨x,hx,rfl⟩:=hr
      obtain ⟨y,hy,rfl⟩:=he
      rw [hx] at hy;cases hy
      exact prC_c x ((At.lit (by exact Take.there (.there (.there .here))) (by exact rfl) _ hm')) ((At.lit (by exact Take.there (.there .here)) (by exact rfl) _ hm')) (by omega)
    intro v2 _
    dsimp only [id_eq,List.cons_append,List.nil_append]
    with_reducible apply tr_callV
    case hr=>exact rk_call (.of rfl) (.cons (.of rfl) .nil) inferInstance normc_
    case hd=>rfl
    case hc=>
      intro w' hm'
      exact first_pB9 (Mem.rdRow1 hm' (by exact .here) (by rw [lenV,lenV,prsL_length])) (IntL.map _)
    (refine a_s rfl rfl ?_;refine n_t ?_;refine tr_ret ?_;refine tr_retE rfl (ends1 rfl rfl) ?_)
    rfl
end Go.Proofs.A1
namespace Go.Proofs.A1
open Go Go.SL
theorem spsL_take {l:List Sp} {k:Nat} (h:k < l.length):(spsL (l.take (k + 1))).flatten = (spsL (l.take k)).flatten++(nthS9 l k).cells:=by
  rw [nthS_eq h,List.take_add_one,List.getElem?_eq_getElem h,spsL,List.map_append,List.flatten_append];simp [spsL]
theorem spsL_sz (l:List Sp):∀ r ∈ spsL l,r.length = 4:=by
  intro r hr;obtain ⟨x,_,rfl⟩:=List.mem_map.1 hr;rfl
theorem prsL_sz (l:List (Int × Int)):∀ r ∈ prsL l,r.length = 2:=by
  intro r hr;obtain ⟨x,_,rfl⟩:=List.mem_map.1 hr;rfl
theorem ints_sz (l:List Int):∀ r ∈ ints l,r.length = 1:=by
  intro r hr;obtain ⟨x,_,rfl⟩:=List.mem_map.1 hr;rfl
set_option maxHeartbeats 2000000 in
theorem craneB_c {b:Br} {sv cv xv:Value} {w:World} (h1:Rd w sv 4 (spsL b.sp)) (h2:Rd w cv 1 (ints b.cm)) (h3:Rd w xv 2 (prsL b.ex)) (hl1:b.sp.length ≤ 1000) (hl2:b.cm.length ≤ 1000) (hl3:b.ex.length ≤ 1000) :
    Gives Tryz.prog 13 [.agg #[.int .i64 b.n,sv,cv,xv]] w [] (fun _:Value × Value × Value=>True) (fun x=>.agg #[.int .i64 b.n,x.1,x.2.1,x.2.2])
      (fun x=>[row 112 4 x.1 b.sp.length (spsL b.sp).flatten,rowE 3 1 x.2.1 b.cm.length (ints b.cm).flatten,rowE 52 2 x.2.2 b.ex.length (prsL b.ex).flatten]):=by
  have hone1:=Rd.one h1
  have hone2:=Rd.one h2
  have hone3:=Rd.one h3
  obtain ⟨a,cap,bs,os,rfl,hcap,hmax,ha,hc⟩:=h1
  rw [spsL_length] at *
  unfold maxLen at hmax
  refine gives_of_tr Tryz.func13 rfl rfl ?_
  (refine s_r ?_;refine tr_new (rk_box (.of rfl) rfl) rfl (fun _ _=>?_);refine tr_new (rk_alloc rfl) rfl (fun _ _=>?_);refine n_t ?_;refine tr_seq ?_)
  rename_i b1 hb1 b2 hb2
  with_reducible refine tr_drawM 12 (by kernel_rfl) ?_
  (refine am_val (fun β=>(rk_fieldAddr (.of rfl) norm0_)) ind0 rfl ?_;refine am_val (fun β=>(rk_load1 (.of rfl) (At.lit (.there .here) rfl))) ind0 rfl ?_)
  try dsimp only [Nat.zero_add,Nat.reduceAdd]
  refine am_new (ob:=fun _=>.cells #[] 3 (0,0)) (fun β=>rk_sliceLit0) (fun _ _ _=>rfl) rfl ?_
  (refine am_val (fun β=>(rk_fieldAddr (.of rfl) norm0_)) ind0 rfl ?_;refine am_val (fun β=>(rk_load1 (.of rfl) (At.lit (.there .here) rfl))) ind0 rfl ?_)
  try dsimp only [Nat.reduceAdd]
  with_reducible apply am_append0 (kx:=2) (Vy:=fun _=>cv) (news:=ints b.cm)
  case hS=>rfl
  case hw=>kernel_rfl
  case hx=>exact fun β=>.of rfl
  case hy=>exact fun β=>.of rfl
  case hsrc=>exact fun β w' hm'=>h2.keeps hm'.keeps
  case h1=>exact ints_one _
  case hz=>exact rfl
  case hsz=>exact rfl
  case hb0=>exact rfl
  case hb=>rw [ints_length];omega
  case hd=>rfl
  rw [ints_length]
  try dsimp only [Nat.reduceAdd]
  refine am_new (ob:=fun _=>.cells #[] 52 (0,0)) (fun β=>rk_sliceLit0) (fun _ _ _=>rfl) rfl ?_
  (refine am_val (fun β=>(rk_fieldAddr (.of rfl) norm0_)) ind0 rfl ?_;refine am_val (fun β=>(rk_load1 (.of rfl) (At.lit (.there .here) rfl))) ind0 rfl ?_)
  try dsimp only [Nat.reduceAdd]
  with_reducible apply am_append0 (kx:=6) (Vy:=fun _=>xv) (news:=prsL b.ex)
  case hS=>rfl
  case hw=>kernel_rfl
  case hx=>exact fun β=>.of rfl
  case hy=>exact fun β=>.of rfl
  case hsrc=>exact fun β w' hm'=>h3.keeps hm'.keeps
  case h1=>exact prsL_one _
  case hz=>exact rfl
  case hsz=>exact rfl
  case hb0=>exact rfl
  case hb=>rw [prsL_length];omega
  case hd=>rfl
  rw [prsL_length]
  try dsimp only [Nat.reduceAdd]
  with_reducible apply am_val
  case hr=>
    intro β
    exact rk_buildL (.cons (.of rfl) (.cons (.of rfl) (.cons (.of rfl) .nil))) norm_
  case hi=>exact fun β β' h=>by simp only [h 5 (by kernel_rfl),h 9 (by kernel_rfl)]
  case hd=>rfl
  try dsimp only [Nat.reduceAdd]
  refine am_new (fun β=>(rk_alloc rfl)) (fun _ _ _=>rfl) rfl ?_
  refine am_end fun β=>?_
  dsimp only [resAll,List.nil_append,List.cons_append,List.append_eq,Nat.reduceAdd]
  generalize gsl (β 5) = y4
  generalize gsl (β 9) = y8
  generalize gnat (β 11) = b3
  generalize gnat (β 2) = b5
  generalize gnat (β 6) = b6
  clear β
  obtain ⟨a4,cp4⟩:=y4
  obtain ⟨a8,cp8⟩:=y8
  dsimp only
  refine left_ready (rs:=[12]) (by kernel_rfl) (by simp) (List.forall_mem_cons.2 ⟨?_,fun _ h=>absurd h List.not_mem_nil⟩)
  refine next_step rfl ?_
  (refine tr_store (.of rfl) (.of rfl) (.there (.there (.there (.there .here)))) rfl rfl (okc_cons rfl (okc_cons rfl (okc_cons rfl (okc_cons rfl okc_nil)))) (lenb rfl) norm_ ?_;refine n_t ?_)
  with_reducible refine left_done (by kernel_rfl) ?_
  (refine tr_then ?_;refine tr_seq ?_;refine s_r ?_;refine f_a rfl rfl norm0_ ?_;refine tr_val (rk_load1 (.of rfl) (At.lit (.there (.there (.there (.there (.there (.there .here)))))) rfl)) rfl ?_;refine tr_val (rk_len_slice (.of rfl)) rfl ?_;refine m_v rfl rfl ?_;refine n_t ?_;refine tr_block ?_)
  refine tr_rowNil 112 4 ?_
  refine tr_for (ι:=Nat × Value) (fun x=>x.1 ≤ b.sp.length) (fun x=>[(20,.int .i64 x.1),(19,.int .i64 b.sp.length),(18,.slice a b.sp.length cap),(3,.pointer (some ⟨b3,0,none⟩)),(2,.pointer (some ⟨b2,0,none⟩))])
    (fun x=>[row 112 4 x.2 x.1 (spsL (b.sp.take x.1)).flatten,blk b3 (.cells #[.int .i64 b.n,x.2,.slice a4 b.cm.length cp4,.slice a8 b.ex.length cp8] 58 (0,0)),blk b2 (.cells #[.int .i64 0,.slice none 0 0,.slice none 0 0,.slice none 0 0] 58 (0,0)),rowE 3 1 (.slice a4 b.cm.length cp4) b.cm.length (ints b.cm).flatten,rowE 52 2 (.slice a8 b.ex.length cp8) b.ex.length (prsL b.ex).flatten]) (fun x=>b.sp.length - x.1) ?_ ?_
  · apply tr_start (0,.slice none 0 0) (Nat.zero_le _)
    case hs1=>exact .cons rfl (.cons rfl (.cons rfl (.cons rfl (.cons rfl .nil))))
    case ht=>
      show Takes _ [row 112 4 (.slice none 0 0) 0 [],blk b3 (.cells #[.int .i64 b.n,.slice none 0 0,.slice a4 b.cm.length cp4,.slice a8 b.ex.length cp8] 58 (0,0)),_,_,_] _
      exact .cons .here (.cons .here (.cons (.there (.there (.there (.there .here)))) (.cons (.there .here) (.cons (.there (.there .here)) .nil))))
  rintro ⟨k,v⟩ hk
  dsimp only at hk ⊢
  by_cases hlt:k < b.sp.length
  · have ha':=ha (spsL_ne hlt)
    have hcell:=(hc k _ (spsL_get hlt)).2
    have htk:=spsL_take hlt
    unfold Sp.cells at hcell htk
    refine tr_rowSl (E:=112) (sz:=4) (by exact .here) fun av capv e=>?_
    subst e
    (refine s_r ?_;refine tr_val (rk_lss (.of rfl) (.of rfl)) rfl ?_;refine n_t ?_;refine tr_seq ?_;refine c_d rfl (fun hcd=>?_) (fun _=>by omega);refine s_t ?_;refine tr_seq ?_;refine tr_block ?_;refine s_r ?_;refine tr_val (rk_indexAddr (.of rfl) (.of rfl) ha' (by omega) hcd norm1_) rfl ?_;refine tr_val (rk_loadN (.of rfl) (Ats.base hcell rfl) rfl) rfl ?_;refine tr_new (rk_alloc rfl) rfl (fun _ _=>?_);refine tr_store (.of rfl) (.of rfl) .here rfl rfl (okc_cons rfl (okc_cons rfl (okc_cons rfl (okc_cons rfl okc_nil)))) (lenb rfl) norm_ ?_;refine n_t ?_;refine tr_region ?_;refine f_a rfl rfl norm0_ ?_;refine tr_val (rk_load1 (.of rfl) (At.lit (.there (.there .here)) rfl)) rfl ?_;refine tr_val (rk_loadB (.of rfl) .here norm_ (by rfl)) rfl ?_;refine tr_new (rk_sliceLitN (.cons (.of rfl) .nil) rfl rfl normp_ normp_ norm_) rfl (fun _ _=>?_))
    refine tr_appendB (.of rfl) (.of rfl) (.there (.there .here)) .here norm_ (by rfl) (okc_cons rfl (okc_cons rfl (okc_cons rfl (okc_cons rfl okc_nil)))) (by rfl) (by rfl) (by rfl) lenx_ (by rfl) ?_
    intro v'
    refine tr_rowSl (E:=112) (sz:=4) (by exact .here) fun a' cap' e=>?_
    subst e
    (refine f_a rfl rfl norm0_ ?_;refine tr_store (.of rfl) (.of rfl) (.there (.there (.there .here))) rfl rfl (okc_cons rfl okc_nil) (lenb rfl) norm_ ?_;refine tr_nil ?_;refine tr_blk_normal ?_;refine tr_then ?_;refine tr_region ?_;refine tr_val (rk_add (.of rfl) (.of rfl) (ini (by omega))) rfl ?_;refine m_v rfl rfl ?_;refine n_t ?_)
    apply tr_next (k + 1,.slice a' (k + 1) cap') (by show k + 1 ≤ b.sp.length;omega) (by show b.sp.length - (k + 1) < b.sp.length - k;omega)
    case hs1=>exact .cons rfl (.cons rfl (.cons rfl (.cons rfl (.cons rfl .nil))))
    case ht=>
      show Takes _ [row 112 4 (.slice a' (k + 1) cap') (k + 1) (spsL (b.sp.take (k + 1))).flatten,blk b3 (.cells #[.int .i64 b.n,.slice a' (k + 1) cap',.slice a4 b.cm.length cp4,.slice a8 b.ex.length cp8] 58 (0,0)),_,_,_] _
      rw [htk]
      exact .cons (.there .here) (.cons .here (.cons (.there (.there .here)) (.cons (.there (.there .here)) (.cons (.there (.there .here)) .nil))))
  obtain rfl:k = b.sp.length:=by omega
  rw [List.take_length]
  refine tr_rowSl (E:=112) (sz:=4) (by exact .here) fun a' cap' e=>?_
  subst e
  (refine s_r ?_;refine tr_val (rk_lss (.of rfl) (.of rfl)) rfl ?_;refine n_t ?_;refine tr_seq ?_;refine c_d rfl (fun _=>by omega) (fun hcd=>?_);refine x_t ?_;refine tr_then_exit ?_;refine tr_blk_exit ?_;refine tr_then ?_;refine s_r ?_;refine tr_val (rk_loadB (.of rfl) (.there .here) norm_ (by rfl)) rfl ?_;refine tr_store (.of rfl) (.of rfl) (.there (.there .here)) rfl rfl (okc_cons rfl (okc_cons rfl (okc_cons rfl (okc_cons rfl okc_nil)))) (lenb rfl) norm_ ?_;refine n_t ?_;refine tr_ret ?_)
  first | with_reducible apply tr_retM | with_reducible apply tr_endM
  case he=>exact ends1cB rfl inferInstance rfl .here norm_ (by rfl)
  case hR=>
    intro w' hm'
    exact gives_end (.slice a' b.sp.length cap',.slice a4 b.cm.length cp4,.slice a8 b.ex.length cp8) trivial (show Takes _ [row 112 4 (.slice a' b.sp.length cap') b.sp.length (spsL b.sp).flatten,rowE 3 1 (.slice a4 b.cm.length cp4) b.cm.length (ints b.cm).flatten,rowE 52 2 (.slice a8 b.ex.length cp8) b.ex.length (prsL b.ex).flatten] _ by exact .cons (.there .here) (.cons (.there (.there .here)) (.cons (.there (.there .here)) .nil))) hm' rfl
end Go.Proofs.A1
