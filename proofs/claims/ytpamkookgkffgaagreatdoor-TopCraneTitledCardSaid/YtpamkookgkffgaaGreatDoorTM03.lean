/- Parts of the proof: GkReg GkEq GkPlan. -/
import Derived.Test.YtpamkookgkffgaaGreatDoorTM02
import Derived.Laws.StructEq
set_option linter.unusedSectionVars false
set_option linter.unusedVariables false
set_option linter.unusedSimpArgs false
namespace Go.SL
open Go
section
variable {P:Program} {r:Option Nat} {c:Cx} {D:List Nat} {sl sl':Slots} {rl':RSlots} {hs:List Asn} {Q:Exit → Act → World → Prop} {l:List Oper} {m:Nat} {S:List Rel}
def Ls (listed:Array Bool) (i:Nat):Prop:=listed.getD i false = true
theorem not_Ls (n i:Nat):¬ Ls (Array.replicate n false) i:=by
  unfold Ls
  rw [Array.getD_eq_getD_getElem?,Array.getElem?_replicate]
  split <;> simp
theorem getD_set {listed:Array Bool} {i j:Nat} (hi:i < listed.size):Ls (listed.setIfInBounds i true) j ↔ (j = i ∨ Ls listed j):=by
  unfold Ls
  by_cases h:i = j
  · subst h
    simp [Array.getD_eq_getD_getElem?,hi]
  · have h':¬ j = i:=fun e=>h e.symm
    simp [Array.getD_eq_getD_getElem?,Array.getElem?_setIfInBounds_ne h,h']
theorem getD_tf {listed:Array Bool} {i:Nat} (hi:i < listed.size):listed.getD i true = false ↔ ¬ Ls listed i:=by
  unfold Ls
  simp [Array.getD_eq_getD_getElem?,hi]
theorem mem_ready' {listed:Array Bool} (hsz:listed.size = l.length) {i:Nat}:i ∈ Region.ready .any l.toArray listed ↔ ∃ o,l[i]? = some o ∧ ¬ Ls listed i ∧ ∀ e ∈ o.after,bnd e = true → Ls listed e.on:=by
  rw [mem_ready]
  constructor
  · rintro ⟨h1,o,ho,h2⟩
    have ho':l[i]? = some o:=by simpa using ho
    have hi:i < listed.size:=by rw [hsz];exact (List.getElem?_eq_some_iff.1 ho').1
    exact ⟨o,ho',(getD_tf hi).1 h1,h2⟩
  · rintro ⟨o,ho,h1,h2⟩
    have hi:i < listed.size:=by rw [hsz];exact (List.getElem?_eq_some_iff.1 ho).1
    exact ⟨(getD_tf hi).2 h1,o,by simpa using ho,h2⟩
theorem least_ready {listed:Array Bool} (hsz:listed.size = l.length) (hac:acyc l 0 = true) (h:∃ i,i < l.length ∧ ¬ Ls listed i):∃ i,i ∈ Region.ready .any l.toArray listed:=by
  obtain ⟨i,hi,hn⟩:=h
  induction i using Nat.strongRecOn with
  | _ i ih =>
    by_cases hall:∀ j,j < i → Ls listed j
    · refine ⟨i,(mem_ready' hsz).2 ⟨l[i],List.getElem?_eq_getElem hi,hn,fun e he hb=>hall _ ?_⟩⟩
      have:=acyc_spec hac (List.getElem?_eq_getElem hi) e he hb
      omega
    · have:∃ j,j < i ∧ ¬ Ls listed j:=by
        apply Classical.byContradiction
        intro hc
        exact hall fun j hj=>Classical.byContradiction fun hn'=>hc ⟨j,hj,hn'⟩
      obtain ⟨j,hj,hnj⟩:=this
      exact ih j hj (by omega) hnj
theorem tailOk_spec {ms:List Nat}:∀ {ks:List Nat},tailOk ms ks = true → ∀ k ∈ ks,∀ i,i < k → (ms.getD k 0).testBit i = true
  | [],_,k,hk=>by cases hk
  | x :: ks, h, k, hk => by
    simp only [tailOk,Bool.and_eq_true,List.all_eq_true,List.mem_range] at h
    rcases List.mem_cons.1 hk with e | hk
    · subst e;exact h.1
    · exact tailOk_spec h.2 k hk
structure Chk (l:List Oper) (m:Nat):Prop where
  op:∀ o ∈ l,opOk o = true
  ac:acyc l 0 = true
  pairs:pairsOk l.toArray (l.take m) 0 = true
  tail:∀ k,m ≤ k → k < l.length → ∀ i,i < k → ((masks l []).getD k 0).testBit i = true
  le:m ≤ l.length
theorem regOk_spec (h:regOk l m = true):Chk l m:=by
  simp only [regOk,Bool.and_eq_true,List.all_eq_true] at h
  obtain ⟨⟨⟨⟨⟨h1,h2⟩,h3⟩,_⟩,h5⟩,h6⟩:=h
  refine ⟨h1,h2,h3,fun k hk hlt=>tailOk_spec h5 k ?_,by simpa using h6⟩
  rw [List.mem_range'_1]
  omega
theorem ready_mask (hc:Chk l m) {listed:Array Bool} (hsz:listed.size = l.length) (hdc:DC l (Ls listed)) {i:Nat} (hi:i ∈ Region.ready .any l.toArray listed) (hm:m ≤ i):∀ j,j < i → Ls listed j:=by
  intro j hj
  obtain ⟨o,ho,hn,hd⟩:=(mem_ready' hsz).1 hi
  have hlt:i < l.length:=(List.getElem?_eq_some_iff.1 ho).1
  have hdc':DC l (fun k=>k = i ∨ Ls listed k):=by
    intro k ok hk hL e he hb
    rcases hL with e' | hL
    · subst e'
      rw [ho] at hk;cases hk
      exact .inr (hd e he hb)
    · exact .inr (hdc k ok hk hL e he hb)
  rcases masks_sound hdc' hc.ac i hlt (.inl rfl) j (hc.tail i hm hlt j hj) with h | h
  · omega
  · exact h
theorem wl_of_wpOp {o:Oper} {rest:List Oper} {i:Nat} {ops:Array Oper} {K:Act → World → Prop} {a:Act} {w:World} (hi:ops[i]? = some o) (hK:∀ a w,WL P r ops Q rest a w → K a w) (h:WL P r ops Q (o :: rest) a w):wpOpIn (FR r) 0 P ops Q i K a w:=by
  unfold wpOpIn
  simp only [hi]
  unfold WL at h
  split
  · rename_i hw
    rw [if_pos hw] at h
    exact Oper.wpIn_mono hK h
  · rename_i hw
    rw [if_neg hw] at h
    exact ⟨fun _ _=>trivial,hK _ _ h⟩
theorem phase2 (hc:Chk l m):∀ (fuel k:Nat) (listed:Array Bool) (a:Act) (w:World),m ≤ k → k + fuel = l.length → listed.size = l.length → (∀ i,i < l.length → (Ls listed i ↔ i < k)) →
    WL P r l.toArray Q (l.drop k) a w → wpAnyIn (FR r) 0 P .any l.toArray Q fuel listed a w
  | 0, k, listed, a, w, _, hk, hsz, hL, h => by
    refine ⟨?_,by rw [List.drop_of_length_le (by omega)] at h;exact h⟩
    apply List.eq_nil_iff_forall_not_mem.2
    intro i hi
    obtain ⟨o,ho,hn,_⟩:=(mem_ready' hsz).1 hi
    have hlt:=(List.getElem?_eq_some_iff.1 ho).1
    exact hn ((hL i hlt).2 (by omega))
  | fuel + 1, k, listed, a, w, hmk, hk, hsz, hL, h => by
    have hdc:DC l (Ls listed):=fun k' o' ho' hLk e he hb=>by
      have hlt:=(List.getElem?_eq_some_iff.1 ho').1
      have:=acyc_spec hc.ac ho' e he hb
      exact (hL e.on (by omega)).2 (by have:=(hL k' hlt).1 hLk;omega)
    have hkl:k < l.length:=by omega
    refine ⟨fun h0=>?_,fun i hi=>?_⟩
    · obtain ⟨i,hi⟩:=least_ready hsz hc.ac ⟨k,hkl,fun hh=>by have:=(hL k hkl).1 hh;omega⟩
      rw [h0] at hi;cases hi
    · obtain ⟨o,ho,hn,_⟩:=(mem_ready' hsz).1 hi
      have hlt:=(List.getElem?_eq_some_iff.1 ho).1
      have hki:k ≤ i:=Nat.le_of_not_lt fun hh=>hn ((hL i hlt).2 hh)
      have:i = k:=by
        rcases Nat.lt_or_ge k i with hh | hh
        · have:=(hL k hkl).1 (ready_mask hc hsz hdc hi (by omega) k hh)
          omega
        · omega
      subst this
      rw [List.drop_eq_getElem_cons hlt] at h
      have ho':l[i] = o:=by rw [List.getElem?_eq_getElem hlt] at ho;exact Option.some.inj ho
      rw [ho'] at h
      refine wl_of_wpOp (by simpa using ho) (fun a' w' h'=>phase2 hc fuel (i + 1) _ a' w' (by omega) (by omega) (by simpa using hsz) (fun j hj=>?_) h') h
      rw [getD_set (by omega)]
      have:=hL j hj
      constructor
      · rintro (e | hh)
        · omega
        · have:=this.1 hh;omega
      · intro hh
        by_cases e:j = i
        · exact .inl e
        · exact .inr (this.2 (by omega))
structure Inv1 (c:Cx) (D:List Nat) (hs:List Asn) (l:List Oper) (m:Nat) (S:List Rel) (a0:Act) (fuel:Nat) (listed:Array Bool) (a:Act) (w:World):Prop where
  sz:listed.size = l.length
  dc:DC l (Ls listed)
  hi:∀ k,m ≤ k → ¬ Ls listed k
  mem:Mem c (hs++mks D) w
  defers:a.defers = D.map mark
  size:a.tmps.size = c.nt
  old:∀ t,(∀ (j:Nat) (o:Oper),l[j]? = some o → Ls listed j → o.dst ≠ some t) → a.tmps[t]? = a0.tmps[t]?
  new:∀ (j:Nat) (o:Oper),l[j]? = some o → Ls listed j → ∀ d R,o.dst = some d → S[j]? = some R → ∃ v,a.tmps[d]? = some v ∧ R.p v w
  left:∃ U:List Nat,U.Nodup ∧ (∀ i,i ∈ U ↔ i < l.length ∧ ¬ Ls listed i) ∧ U.length = fuel
theorem pair_at (hc:Chk l m) {i j:Nat} {x y:Oper} (hij:i < j) (hj:j < m) (hx:l[i]? = some x) (hy:l[j]? = some y):pairOk l.toArray x y i = true:=by
  have:=pairsOk_spec hc.pairs (i:=i) (j:=j) hij (by rw [List.getElem?_take,if_pos (by omega)];exact hx) (by rw [List.getElem?_take,if_pos hj];exact hy)
  simpa using this
theorem pair_spec {ops:Array Oper} {x y:Oper} {i d e:Nat} (h:pairOk ops x y i = true) (hx:x.dst = some d) (hy:y.dst = some e):d ≠ e ∧ ((d ∈ y.looksAt ops ∨ e ∈ x.looksAt ops) → waitsOn y i = true):=by
  simp only [pairOk,hx,hy,Bool.and_eq_true,Bool.not_eq_true',Bool.or_eq_true] at h
  obtain ⟨h1,h2⟩:=h
  refine ⟨fun e'=>by subst e';simp at h1,fun h3=>?_⟩
  rcases h2 with ⟨h4,h5⟩ | h2
  · rcases h3 with h3 | h3
    · rw [has_iff.2 h3] at h4;cases h4
    · rw [has_iff.2 h3] at h5;cases h5
  · exact h2
theorem waitsOn_spec {o:Oper} {i:Nat} (h:waitsOn o i = true):∃ e ∈ o.after,bnd e = true ∧ e.on = i:=by
  simp only [waitsOn,List.any_eq_true,Bool.and_eq_true] at h
  obtain ⟨e,he,hb,hon⟩:=h
  exact ⟨e,by simpa using he,hb,Nat.eq_of_beq_eq_true hon⟩
theorem inv_step (hc:Chk l m) (hl:m ≤ l.length) {a0 a:Act} {w w':World} {fuel i d:Nat} {listed:Array Bool} {o:Oper} {R:Rel} {v:Value} (hI:Inv1 c D hs l m S a0 (fuel + 1) listed a w)
    (hi:i ∈ Region.ready .any l.toArray listed) (him:i < m) (ho:l[i]? = some o) (hd:o.dst = some d) (hdn:d < c.nt) (hSi:S[i]? = some R)
    (hdst:∀ (j:Nat) (oj:Oper),j < m → l[j]? = some oj → ∃ e,oj.dst = some e) (hk:Keeps [] w w') (hv:R.p v w'):Inv1 c D hs l m S a0 fuel (listed.setIfInBounds i true) (a.put o.dst v) w':=by
  obtain ⟨o',ho',hn,hdeps⟩:=(mem_ready' hI.sz).1 hi
  rw [ho] at ho';cases ho'
  have hil:i < listed.size:=by rw [hI.sz];omega
  have _:=hdst
  have hdist:∀ (j:Nat) (oj:Oper) (e:Nat),l[j]? = some oj → j < m → j ≠ i → oj.dst = some e → e ≠ d:=by
    intro j oj e hj hjm hne he
    rcases Nat.lt_or_ge j i with h | h
    · exact (pair_spec (pair_at hc h him hj ho) he hd).1
    · exact fun e'=>(pair_spec (pair_at hc (show i < j by omega) hjm ho hj) hd he).1 e'.symm
  rw [hd]
  refine ⟨by simpa using hI.sz,?_,?_,hI.mem.keepsOn hk,hI.defers,by simpa [Act.put] using hI.size,?_,?_,?_⟩
  · intro k ok hk' hL e he hb
    rw [getD_set hil] at hL ⊢
    rcases hL with e' | hL
    · subst e'
      rw [ho] at hk';cases hk'
      exact .inr (hdeps e he hb)
    · exact .inr (hI.dc k ok hk' hL e he hb)
  · intro k hk' hL
    rw [getD_set hil] at hL
    rcases hL with e | hL
    · omega
    · exact hI.hi k hk' hL
  · intro t ht
    have h1:d ≠ t:=fun e=>by subst e;exact ht i o ho ((getD_set hil).2 (.inl rfl)) hd
    simp only [Act.put,Array.getElem?_setIfInBounds_ne h1]
    exact hI.old t fun j oj hj hL=>ht j oj hj ((getD_set hil).2 (.inr hL))
  · intro j oj hj hL e Rj he hRj
    rw [getD_set hil] at hL
    by_cases hji:j = i
    · subst hji
      rw [ho] at hj;cases hj
      rw [hd] at he;cases he
      rw [hSi] at hRj;cases hRj
      exact ⟨v,by simp [Act.put,hI.size,hdn],hv⟩
    · have hL':=hL.resolve_left hji
      obtain ⟨u,hu,hp⟩:=hI.new j oj hj hL' e Rj he hRj
      have hjm:j < m:=Nat.lt_of_not_le fun h=>hI.hi j h hL'
      have hne:e ≠ d:=hdist j oj e hj hjm hji he
      refine ⟨u,?_,Rj.st hp hk⟩
      simp only [Act.put,Array.getElem?_setIfInBounds_ne (Ne.symm hne)]
      exact hu
  · obtain ⟨U,hU1,hU2,hU3⟩:=hI.left
    have hiU:i ∈ U:=(hU2 i).2 ⟨by omega,hn⟩
    refine ⟨U.erase i,hU1.erase i,fun j=>?_,by rw [List.length_erase_of_mem hiU,hU3];rfl⟩
    rw [hU1.mem_erase_iff,hU2 j,getD_set hil]
    constructor
    · rintro ⟨h1,h2,h3⟩
      exact ⟨h2,fun h=>h.elim h1 h3⟩
    · rintro ⟨h1,h2⟩
      exact ⟨fun e=>h2 (.inl e),h1,fun h=>h2 (.inr h)⟩
def RelsOk (rl:RSlots) (a:Act) (w:World):Prop:=∀ d R,(d,R) ∈ rl → ∃ v,a.tmps[d]? = some v ∧ R.p v w
theorem phase1 (hc:Chk l m) (hp:Plan P c hs l.toArray (l.take m) sl [] S sl' rl') {a0:Act} (h0:SlotsOk sl a0) (hn0:a0.tmps.size = c.nt)
    (tail:∀ a w,St c D sl' hs a w → RelsOk rl' a w → WL P r l.toArray Q (l.drop m) a w) :
    ∀ (fuel:Nat) (listed:Array Bool) (a:Act) (w:World),Inv1 c D hs l m S a0 fuel listed a w → wpAnyIn (FR r) 0 P .any l.toArray Q fuel listed a w:=by
  have hend:=hp.end_
  have htake:∀ (j:Nat) (o:Oper),j < m → l[j]? = some o → (l.take m)[j]? = some o:=fun j o hj ho=>by rw [List.getElem?_take,if_pos hj];exact ho
  have htake':∀ (j:Nat) (o:Oper),(l.take m)[j]? = some o → j < m ∧ l[j]? = some o:=fun j o ho=>by
    rw [List.getElem?_take] at ho
    split at ho
    · exact ⟨by assumption,ho⟩
    · cases ho
  have hfin:∀ fuel listed a w,Inv1 c D hs l m S a0 fuel listed a w → (∀ i,i < m → Ls listed i) → wpAnyIn (FR r) 0 P .any l.toArray Q fuel listed a w:=by
    intro fuel listed a w hI hall
    have hL:∀ i,i < l.length → (Ls listed i ↔ i < m):=fun i _=>⟨fun h=>Nat.lt_of_not_le fun hm=>hI.hi i hm h,hall i⟩
    obtain ⟨U,hU1,hU2,hU3⟩:=hI.left
    have hperm:U.Perm (List.range' m (l.length - m)):=by
      rw [List.perm_ext_iff_of_nodup hU1 (List.nodup_range')]
      intro i
      rw [hU2 i,List.mem_range'_1]
      constructor
      · rintro ⟨h1,h2⟩
        exact ⟨Nat.le_of_not_lt fun h=>h2 (hall i h),by omega⟩
      · rintro ⟨h1,h2⟩
        exact ⟨by omega,hI.hi i h1⟩
    have hlen:fuel = l.length - m:=by rw [← hU3,hperm.length_eq,List.length_range']
    refine phase2 hc fuel m listed a w (Nat.le_refl _) (by have:=hc.le;omega) hI.sz hL (tail a w ⟨hI.mem,?_,hI.size,hI.defers⟩ ?_)
    · intro t v hv
      rcases hend.1 t v hv with ⟨j,oj,hj,hdj,hSj⟩ | ⟨hno,hv'⟩
      · obtain ⟨hjm,hj'⟩:=htake' j oj hj
        obtain ⟨u,hu,hp'⟩:=hI.new j oj hj' (hall j hjm) t _ hdj hSj
        rw [hu,show u = v from hp']
      · rw [hI.old t fun j oj hj hLj=>hno j oj (htake j oj (Nat.lt_of_not_le fun hm=>hI.hi j hm hLj) hj)]
        exact h0 t v hv'
    · intro d R hm
      rcases hend.2.1 d R hm with ⟨j,oj,hj,hdj,hSj⟩ | hm'
      · obtain ⟨hjm,hj'⟩:=htake' j oj hj
        exact hI.new j oj hj' (hall j hjm) d R hdj hSj
      · cases hm'
  intro fuel
  induction fuel with
  | zero =>
    intro listed a w hI
    obtain ⟨U,_,hU2,hU3⟩:=hI.left
    have hU:U = []:=List.length_eq_zero_iff.1 hU3
    refine hfin 0 listed a w hI fun i hi=>Classical.byContradiction fun hn=>?_
    have:=(hU2 i).2 ⟨by have:=hc.le;omega,hn⟩
    rw [hU] at this;cases this
  | succ fuel ih =>
    intro listed a w hI
    by_cases hall:∀ i,i < m → Ls listed i
    · exact hfin _ listed a w hI hall
    · have hex:∃ i,i < m ∧ ¬ Ls listed i:=Classical.byContradiction fun hh=>hall fun i hi=>Classical.byContradiction fun hn=>hh ⟨i,hi,hn⟩
      obtain ⟨i0,hi0,hn0'⟩:=hex
      refine ⟨fun hr=>?_,fun i hi=>?_⟩
      · obtain ⟨i,hi⟩:=least_ready hI.sz hc.ac ⟨i0,by have:=hc.le;omega,hn0'⟩
        rw [hr] at hi;cases hi
      · have him:i < m:=Nat.lt_of_not_le fun hm=>hn0' (ready_mask hc hI.sz hI.dc hi hm i0 (by omega))
        obtain ⟨o,ho,hn,hdeps⟩:=(mem_ready' hI.sz).1 hi
        obtain ⟨sli,rli,R,hRi,hstep,hs1,hs2⟩:=hp.at_ i o (htake i o him ho)
        obtain ⟨d,R',hd,hdn,hSi⟩:=hend.2.2 i o (htake i o him ho)
        rw [hRi] at hSi;cases hSi
        have hwait:∀ (j:Nat),waitsOn o j = true → Ls listed j:=fun j hw=>by
          obtain ⟨e,he,hb,hon⟩:=waitsOn_spec hw
          rw [← hon];exact hdeps e he hb
        have hback:∀ (j t:Nat) (oj:Oper),j < i → (l.take m)[j]? = some oj → oj.dst = some t → t ∈ o.looksAt l.toArray → Ls listed j:=by
          intro j t oj hj hlj hdj ht
          obtain ⟨hjm,hj'⟩:=htake' j oj hlj
          exact hwait j ((pair_spec (pair_at hc hj him hj' ho) hdj hd).2 (.inl ht))
        have hT:∀ t ∈ o.looksAt l.toArray,∀ v,sget sli t = some v → a.tmps[t]? = some v:=by
          intro t ht v hv
          rcases hs1 t v hv with ⟨j,oj,hj,hlj,hdj,hSj⟩ | ⟨hno,hv'⟩
          · obtain ⟨u,hu,hp'⟩:=hI.new j oj (htake' j oj hlj).2 (hback j t oj hj hlj hdj ht) t _ hdj hSj
            rw [hu,show u = v from hp']
          · rw [hI.old t fun j oj hj hLj hdj=>?_]
            · exact h0 t v hv'
            · have hjm:j < m:=Nat.lt_of_not_le fun hm=>hI.hi j hm hLj
              rcases Nat.lt_trichotomy j i with h | h | h
              · exact hno j oj h (htake j oj hjm hj) hdj
              · subst h;exact hn hLj
              · have hw:=(pair_spec (pair_at hc h hjm ho hj) hd hdj).2 (.inr ht)
                obtain ⟨e,he,hb,hon⟩:=waitsOn_spec hw
                have:=hI.dc j oj hj hLj e he hb
                rw [hon] at this
                exact hn this
        have hkey:∀ t v,sget sli t = some v → t < c.nt:=by
          intro t v hv
          rcases hs1 t v hv with ⟨j,oj,_,hlj,hdj,_⟩ | ⟨_,hv'⟩
          · obtain ⟨d',_,hd',hdn',_⟩:=hend.2.2 j oj hlj
            rw [hdj] at hd';cases hd'
            exact hdn'
          · have:=h0 t v hv'
            rw [← hn0]
            exact (Array.getElem?_eq_some_iff.1 this).1
        obtain ⟨a',ha1,ha2,_⟩:=fill_act hI.size hkey hT
        have hrel:RelsAt (o.looksAt l.toArray) rli a' w:=by
          intro t Rt hm ht
          rcases hs2 t Rt hm with ⟨j,oj,hj,hlj,hdj,hSj⟩ | hm'
          · obtain ⟨v,hv,hp'⟩:=hI.new j oj (htake' j oj hlj).2 (hback j t oj hj hlj hdj ht) t _ hdj hSj
            exact ⟨v,by rw [ha2 t ht];exact hv,hp'⟩
          · cases hm'
        have hq:=hstep a' w ha1 hrel hI.mem.dropTail
        have hoo:opOk o = true:=hc.op o (List.mem_of_getElem? ho)
        have hex:=exec_of_same (o:=o) (ops:=l.toArray) hoo ha2
        rw [wanted_of_same ha2] at hq
        have hnext:∀ v w',Keeps [] w w' → R.p v w' → wpAnyIn (FR r) 0 P .any l.toArray Q fuel (listed.setIfInBounds i true) (a.put o.dst v) w':=fun v w' hk hv=>
          ih _ _ _ (inv_step hc hc.le hI hi him ho hd hdn hRi (fun j oj hj hlj=>let ⟨e,_,he,_⟩:=hend.2.2 j oj (htake j oj hj hlj);⟨e,he⟩) hk hv)
        unfold wpOpIn
        rw [show l.toArray[i]? = some o from by simpa using ho]
        simp only []
        split
        · rename_i hw
          rw [if_pos hw] at hq
          refine ⟨fr_about _ _ _ _ _,?_⟩
          rw [Oper.semAt_eq _ _ _ (fun cc he=>by simp [opOk,he] at hoo),← hex]
          unfold QRun at hq
          revert hq
          generalize (execOp a'.eval o).run P w = res
          intro hq
          match res,hq with
          | .ok (.value v) w',⟨hk,hv⟩=>exact hnext v w' hk hv
          | .ok (.enter f args) w', ⟨e, hcall⟩ =>
            subst e
            refine ⟨by simp [FR,Fence.wide],(calls_wide hcall).mono fun e w'' h=>?_⟩
            obtain ⟨v,rfl,hk,hv⟩:=h
            exact hnext v w'' hk hv
        · rename_i hw
          rw [if_neg hw] at hq
          exact ⟨fun _ _=>trivial,hnext undef w (.refl _ _) hq⟩
theorem tr_draw_plan {id:Nat} (hmix:P.follows .mixedOrders = true) (hck:regOk l m = true) (hp:Plan P c hs l.toArray (l.take m) sl [] S sl' rl')
    (tail:∀ a w,St c D sl' hs a w → RelsOk rl' a w → WL P r l.toArray Q (l.drop m) a w):Tr c D sl hs (WP P r (.region id l.toArray true) Q):=fun a w hst=>by
  unfold WP
  refine wpIn_region_any hmix ?_
  refine phase1 (regOk_spec hck) hp hst.slots hst.size tail l.toArray.size _ a _ ⟨by simp,?_,?_,?_,hst.defers,hst.size,fun t _=>rfl,?_,List.range l.length,List.nodup_range,?_,by simp⟩
  · exact fun k o _ hL=>absurd hL (not_Ls _ _)
  · exact fun k _ hL=>not_Ls _ _ hL
  · exact hst.mem.drew
  · exact fun j o _ hL=>absurd hL (not_Ls _ _)
  · exact fun i=>⟨fun h=>⟨by simpa using h,not_Ls _ _⟩,fun h=>by simpa using h.1⟩
end
end Go.SL
namespace Go.SL
open Go
def leq:Value → Value → Option Bool
  | .int k a,.int k' b=>if k = k' then some (decide (a = b)) else none
  | .string a,.string b=>some (decide (a = b))
  | .bool a,.bool b=>some (a == b)
  | _,_=>none
def eqL:List Value → List Value → Option Bool
  | [],[]=>some true
  | x :: xs, y :: ys => match leq x y, eqL xs ys with
    | some p,some q=>some (p && q)
    | _,_=>none
  | _,_=>none
def isLeaf:Option TypeDesc → Bool
  | some (.int _) | some .string | some .bool=>true
  | _=>false
section
variable {P:Program} {w:World}
theorem leq_run {d:Nat} {t:TypeId} {x y:Value} {b:Bool} (hl:isLeaf (P.underlying t) = true) (hk:∀ k,P.underlying t = some (.int k) → ∃ a,x = .int k a) (hs:P.underlying t = some .string → ∃ a,x = .string a) (hb:P.underlying t = some .bool → ∃ a,x = .bool a)
    (h:leq x y = some b):(Op.equalIn (d + 1) t x y).run P w = .ok b w:=by
  cases hu:P.underlying t with
  | none=>rw [hu] at hl;cases hl
  | some D =>
    rw [hu] at hl
    cases D with
    | int k =>
      obtain ⟨a,rfl⟩:=hk k hu
      cases y <;> simp only [leq] at h <;> try cases h
      rename_i k' b'
      split at h
      · rename_i e;subst e;cases h
        rw [run_equalIn_int w d t k k a b' hu];congr 1
      · cases h
    | string =>
      obtain ⟨a,rfl⟩:=hs hu
      cases y <;> simp only [leq,Option.some.injEq] at h <;> try cases h
      rw [run_equalIn_string w d t a _ hu,str_beq]
    | bool =>
      obtain ⟨a,rfl⟩:=hb hu
      cases y <;> simp only [leq,Option.some.injEq] at h <;> try cases h
      rw [run_equalIn_bool' w d t a _ hu]
    | _=>cases hl
end
def leafOk (D:Option TypeDesc) (x:Value):Bool:=
  match D,x with
  | some (.int k),.int k' _=>decide (k = k')
  | some .string,.string _=>true
  | some .bool,.bool _=>true
  | _,_=>false
def foldF (P:Program) (g:TypeId → Option (List TypeId)) (acc:Option (List TypeId)) (f:Field):Option (List TypeId):=
  match acc,g f.type,P.info? f.type with
  | some a,some m,some i=>if f.offset = a.length ∧ f.name ≠ "_" ∧ i.size = m.length then some (a++m) else none
  | _,_,_=>none
theorem foldF_none (P:Program) (g:TypeId → Option (List TypeId)):∀ (fl:List Field),fl.foldl (foldF P g) none = none
  | []=>rfl
  | f :: fl=>by simp only [List.foldl_cons,foldF];exact foldF_none P g fl
theorem foldF_pre (P:Program) (g:TypeId → Option (List TypeId)):∀ (fl:List Field) (A ts:List TypeId),fl.foldl (foldF P g) (some A) = some ts → ∃ rest,ts = A++rest
  | [],A,ts,h=>⟨[],by simpa using h.symm⟩
  | f :: fl, A, ts, h => by
    simp only [List.foldl_cons] at h
    cases hs:foldF P g (some A) f with
    | none=>rw [hs,foldF_none] at h;cases h
    | some B =>
      rw [hs] at h
      obtain ⟨r,hr⟩:=foldF_pre P g fl B ts h
      unfold foldF at hs
      split at hs
      · rename_i a m i e1 _ _
        cases e1
        split at hs
        · cases hs;exact ⟨m++r,by rw [hr];simp⟩
        · cases hs
      · cases hs
theorem foldF_some {P:Program} {g:TypeId → Option (List TypeId)} {a B:List TypeId} {f:Field} (hs:foldF P g (some a) f = some B) :
    ∃ m i,g f.type = some m ∧ P.info? f.type = some i ∧ f.offset = a.length ∧ f.name ≠ "_" ∧ i.size = m.length ∧ B = a++m:=by
  unfold foldF at hs
  split at hs
  · rename_i a' m i e1 e2 e3
    cases e1
    split at hs
    · rename_i h;cases hs;exact ⟨m,i,e2,e3,h.1,h.2.1,h.2.2,rfl⟩
    · cases hs
  · cases hs
theorem eqL_len:∀ {xs ys:List Value} {b:Bool},eqL xs ys = some b → xs.length = ys.length
  | [],[],_,_=>rfl
  | [],_ :: _,_,h=>by simp [eqL] at h
  | _ :: _,[],_,h=>by simp [eqL] at h
  | x :: xs, y :: ys, b, h => by
    simp only [eqL] at h
    split at h
    · rename_i p q hp hq;simp [eqL_len hq]
    · cases h
def leafTys (P:Program):Nat → TypeId → Option (List TypeId)
  | 0,_=>none
  | d + 1, t =>
    match P.underlying t with
    | some (.int _) | some .string | some .bool=>some [t]
    | some (.struct fs) =>
      if P.stoodInHeld t then none else
      fs.toList.foldl (foldF P (leafTys P d)) (some [])
    | some (.array n e) => match leafTys P d e, P.info? e with
      | some m,some i=>if i.size = m.length then some ((List.replicate n m).flatten) else none
      | _,_=>none
    | _=>none
def okL (P:Program):List TypeId → List Value → Bool
  | [],[]=>true
  | t :: ts,x :: xs=>leafOk (P.underlying t) x && okL P ts xs
  | _,_=>false
section
variable {P:Program}
theorem okL_length:∀ {ts:List TypeId} {xs:List Value},okL P ts xs = true → xs.length = ts.length
  | [],[],_=>rfl
  | [],_ :: _,h=>by cases h
  | _ :: _,[],h=>by cases h
  | t :: ts, x :: xs, h => by
    simp only [okL,Bool.and_eq_true] at h
    simp [okL_length h.2]
theorem okL_append:∀ {ts us:List TypeId} {xs:List Value},okL P (ts++us) xs = true → okL P ts (xs.take ts.length) = true ∧ okL P us (xs.drop ts.length) = true
  | [],us,xs,h=>by simpa [okL] using h
  | t :: ts,us,[],h=>by simp [okL] at h
  | t :: ts, us, x :: xs, h => by
    simp only [List.cons_append,okL,Bool.and_eq_true] at h
    have:=okL_append h.2
    simp [okL,h.1,this]
theorem eqL_append:∀ {n:Nat} {xs ys:List Value} {b:Bool},n ≤ xs.length → eqL xs ys = some b → ∃ p q,eqL (xs.take n) (ys.take n) = some p ∧ eqL (xs.drop n) (ys.drop n) = some q ∧ b = (p && q)
  | 0,xs,ys,b,_,h=>⟨true,b,by simp [eqL],by simpa using h,by simp⟩
  | n + 1,[],ys,b,hn,h=>by simp at hn
  | n + 1,x :: xs,[],b,_,h=>by simp [eqL] at h
  | n + 1, x :: xs, y :: ys, b, hn, h => by
    simp only [eqL] at h
    split at h
    · rename_i p q hp hq
      cases h
      obtain ⟨p',q',h1,h2,e⟩:=eqL_append (n:=n) (by simpa using hn) hq
      exact ⟨p && p',q',by simp [eqL,hp,h1],by simpa using h2,by rw [e,Bool.and_assoc]⟩
    · cases h
theorem leafTys_und {d:Nat} {t:TypeId} {m:List TypeId} (h:leafTys P d t = some m):∃ D,P.underlying t = some D ∧ (isAggD D = false → m.length = 1):=by
  cases d with
  | zero=>cases h
  | succ d =>
    unfold leafTys at h
    cases hu:P.underlying t with
    | none=>rw [hu] at h;cases h
    | some D =>
      refine ⟨D,rfl,fun hD=>?_⟩
      rw [hu] at h
      cases D with
      | int k=>cases h;rfl
      | string=>cases h;rfl
      | bool=>cases h;rfl
      | struct fs=>cases hD
      | array n e=>cases hD
      | _=>cases h
theorem part_at {t:TypeId} {D:TypeDesc} {i:TypeInfo} {n o:Nat} {zs:List Value} {w:World} (hu:P.underlying t = some D) (hi:P.info? t = some i) (hn:i.size = n) (h1:isAggD D = false → n = 1) (hz:o + n ≤ zs.length) :
    ∃ v,(part t zs.toArray o).run P w = .ok v w ∧ (isAggD D = true → v = .agg ((zs.drop o).take n).toArray) ∧ (isAggD D = false → (zs.drop o).take n = [v]):=by
  have hag:(isAgg t).run P w = .ok (isAggD D) w:=by
    unfold isAgg;rw [Sem.run_bind,rk_underlying hu,Result.andThen_ok];cases D <;> rfl
  unfold part
  rw [Sem.run_bind,hag,Result.andThen_ok]
  cases hD:isAggD D with
  | true =>
    refine ⟨.agg (zs.toArray.extract o (o + n)),by simp [sizeOf,rk_typeInfo hi,hn],fun _=>?_,fun h=>by cases h⟩
    congr 1
    simp [List.extract_eq_take_drop]
  | false =>
    have e:=h1 hD
    subst e
    refine ⟨zs[o]'(by omega),by simp [show o < zs.length from by omega],fun h=>(by cases h),fun _=>?_⟩
    rw [List.drop_eq_getElem_cons (by omega),List.take_succ_cons,List.take_zero]
theorem leafTys_ok (d k:Nat):∀ (t:TypeId) (ts:List TypeId),leafTys P d t = some ts → ∀ (xs ys:List Value) (b:Bool) (w:World),okL P ts xs = true → eqL xs ys = some b →
    ∀ x y,(isAggD ((P.underlying t).getD .bool) = true → x = .agg xs.toArray ∧ y = .agg ys.toArray) → (isAggD ((P.underlying t).getD .bool) = false → xs = [x] ∧ ys = [y]) → (Op.equalIn (d + k) t x y).run P w = .ok b w:=by
  induction d with
  | zero=>intro t ts h;cases h
  | succ d ih =>
    intro t ts h xs ys b w hok heq x y h1 h2
    rw [show d + 1 + k = (d + k) + 1 from by omega]
    have hleaf:∀ (hl:isLeaf (P.underlying t) = true) (hts:ts = [t]) (hna:isAggD ((P.underlying t).getD .bool) = false),(Op.equalIn (d + k + 1) t x y).run P w = .ok b w:=by
      intro hl hts hna
      obtain ⟨rfl,rfl⟩:=h2 hna
      subst hts
      simp only [okL,Bool.and_true] at hok
      have hq:leq x y = some b:=by
        simp only [eqL] at heq
        split at heq
        · rename_i p q hp hq';cases hq';cases heq;simpa using hp
        · cases heq
      refine leq_run hl (fun kk hu=>?_) (fun hu=>?_) (fun hu=>?_) hq <;> rw [hu] at hok <;> cases x <;> simp_all [leafOk]
    unfold leafTys at h
    split at h
    · rename_i kk hu;exact hleaf (by rw [hu];rfl) (Option.some.inj h).symm (by rw [hu];rfl)
    · rename_i hu;exact hleaf (by rw [hu];rfl) (Option.some.inj h).symm (by rw [hu];rfl)
    · rename_i hu;exact hleaf (by rw [hu];rfl) (Option.some.inj h).symm (by rw [hu];rfl)
    · rename_i fs hu
      split at h
      · cases h
      · rename_i hst
        obtain ⟨rfl,rfl⟩:=h1 (by rw [hu];rfl)
        have hf:P.fieldsOf t = fs:=by simp [Program.fieldsOf,hu]
        rw [run_equalIn_struct w (d + k) t _ _ (by rw [hf];exact hu) (by simpa using hst),hf]
        -- the fields,one after the other
        have key:∀ (fl:List Field) (acc:List TypeId),fl.foldl (foldF P (leafTys P d)) (some acc) = some ts → ∀ c,eqL (xs.drop acc.length) (ys.drop acc.length) = some c → acc.length ≤ xs.length → (Op.eqFields (d + k) xs.toArray ys.toArray fl).run P w = .ok c w:=by
          intro fl
          induction fl with
          | nil =>
            intro acc ha c hc _
            simp only [List.foldl_nil,Option.some.injEq] at ha
            have hlen:=okL_length hok
            rw [ha,← hlen,List.drop_length] at hc
            have:c = true:=by
              cases hy:ys.drop xs.length with
              | nil=>rw [hy] at hc;simpa [eqL] using hc.symm
              | cons=>rw [hy] at hc;simp [eqL] at hc
            simp [Op.eqFields,this]
          | cons f fl ihf =>
            intro acc ha c hc hle
            simp only [List.foldl_cons] at ha
            cases hB:foldF P (leafTys P d) (some acc) f with
            | none=>rw [hB,foldF_none] at ha;cases ha
            | some B =>
              rw [hB] at ha
              obtain ⟨m,i,hm,hi,ho,hn,hsz,rfl⟩:=foldF_some hB
              -- ts = acc++m++..
              have hpre:∃ rest,ts = acc++m++rest:=foldF_pre P _ fl _ _ ha
              obtain ⟨rest,hts⟩:=hpre
              have hlen:=okL_length hok
              have hokm:okL P m ((xs.drop acc.length).take m.length) = true:=by
                rw [hts,List.append_assoc] at hok
                exact (okL_append (okL_append hok).2).1
              have hlx:acc.length + m.length ≤ xs.length:=by rw [hlen,hts];simp
              obtain ⟨p,q,hp,hq,rfl⟩:=eqL_append (n:=m.length) (by simp;omega) hc
              have hly:acc.length + m.length ≤ ys.length:=by have:=eqL_len heq;omega
              obtain ⟨Df,hud,hone⟩:=leafTys_und hm
              obtain ⟨vx,rx,ax,bx⟩:=part_at (w:=w) hud hi hsz hone hlx
              obtain ⟨vy,ry,ay,by'⟩:=part_at (w:=w) hud hi hsz hone hly
              rw [← ho] at rx ry
              have hr:=ih f.type m hm _ _ p w hokm hp vx vy (by rw [hud];exact fun hA=>⟨ax hA,ay hA⟩) (by rw [hud];exact fun hA=>⟨bx hA,by' hA⟩)
              have hrest:=ihf (acc++m) ha q (by simpa [List.drop_drop] using hq) (by simp;omega)
              simp only [Op.eqFields,ne_eq,hn,not_false_eq_true,if_true,Sem.run_bind,rx,Result.andThen_ok,ry,hr]
              cases p
              · simp
              · simpa using hrest
        exact key fs.toList [] h b (by simpa using heq) (by simp)
    · rename_i n e hu
      split at h
      · rename_i m i hm hi
        split at h
        · rename_i hsz
          obtain ⟨rfl,rfl⟩:=h1 (by rw [hu];rfl)
          simp only [Option.some.injEq] at h
          subst h
          have hlen:=okL_length hok
          have hlxy:xs.length = ys.length:=eqL_len heq
          have hL:xs.length = n * m.length:=by rw [hlen];simp
          have hszr:(sizeOf e).run P w = .ok m.length w:=by simp [sizeOf,rk_typeInfo hi,hsz]
          obtain ⟨De,hud,hone⟩:=leafTys_und hm
          have hfor:∀ (c j:Nat) (p:Bool),j + c = n → eqL (xs.drop (j * m.length)) (ys.drop (j * m.length)) = some p → okL P ((List.replicate c m).flatten) (xs.drop (j * m.length)) = true →
              ((forIn (List.range' j c) ((none, ()) : Option Bool × Unit) fun i r => (do
                let a ← part e xs.toArray (i * m.length)
                let b ← part e ys.toArray (i * m.length)
                let r' ← Op.equalIn (d + k) e a b
                if (!r') = true then pure (ForInStep.done (some false,())) else pure (ForInStep.yield (none,()))):Sem (Option Bool × Unit)).run P w) = .ok (bif p then none else some false,()) w:=by
            intro c
            induction c with
            | zero =>
              intro j p hj hp _
              have hz:xs.drop (j * m.length) = []:=by apply List.drop_of_length_le;rw [hL,show j = n from by omega];exact Nat.le_refl _
              have hz':ys.drop (j * m.length) = []:=by apply List.drop_of_length_le;rw [← hlxy,hL,show j = n from by omega];exact Nat.le_refl _
              rw [hz,hz'] at hp
              simp only [eqL,Option.some.injEq] at hp
              subst hp
              simp
            | succ c ihc =>
              intro j p hj hp hokj
              have hb1:j * m.length + m.length ≤ xs.length:=by
                rw [hL,← Nat.succ_mul];exact Nat.mul_le_mul_right _ (by omega)
              obtain ⟨vx,rx,ax,bx⟩:=part_at (w:=w) hud hi hsz hone hb1
              obtain ⟨vy,ry,ay,by'⟩:=part_at (w:=w) hud hi hsz hone (show j * m.length + m.length ≤ ys.length by omega)
              obtain ⟨p1,p2,hp1,hp2,rfl⟩:=eqL_append (n:=m.length) (by simp;omega) hp
              rw [List.replicate_succ,List.flatten_cons] at hokj
              have ho:=okL_append hokj
              have hr:=ih e m hm _ _ p1 w ho.1 hp1 vx vy (by rw [hud];exact fun hA=>⟨ax hA,ay hA⟩) (by rw [hud];exact fun hA=>⟨bx hA,by' hA⟩)
              simp only [List.range'_succ,List.forIn_cons,Sem.run_bind,rx,ry,hr,Result.andThen_ok]
              cases p1
              · simp
              · have hnext:=ihc (j + 1) p2 (by omega) (by rw [Nat.succ_mul,← List.drop_drop,← List.drop_drop];exact hp2) (by rw [Nat.succ_mul,← List.drop_drop];exact ho.2)
                simp only [Bool.not_true,Bool.false_eq_true,if_false,Sem.run_pure,Result.andThen_ok,Bool.true_and]
                exact hnext
          have hf:=hfor n 0 b (by omega) (by simpa using heq) (by simpa using hok)
          simp only [Op.equalIn,Sem.run_bind,rk_underlying hu,Result.andThen_ok,hszr]
          rw [Std.Legacy.Range.forIn_eq_forIn_range']
          simp only [Std.Legacy.Range.size,Nat.sub_zero,Nat.add_sub_cancel,Nat.div_one]
          rw [hf]
          cases b <;> simp
        · cases h
      · cases h
    · cases h
class Leaf (P:Program) (t:TypeId) (ts:outParam (List TypeId)):Prop where
  eq:leafTys P 20 t = some ts
  agg:isAggD ((P.underlying t).getD .bool) = true
  guard:P.eqGuardType P.depth t = false
variable {c:Cx} {sl:Slots} {hs:List Asn} {dst:Option Tmp} {ty:TypeId} {pos:String} {af:Array Edge} {g:Option (Nat × Bool)}
theorem rk_equal_agg {t:TypeId} {ts:List TypeId} [h:Leaf P t ts] {xs ys:List Value} {b:Bool} (hok:okL P ts xs = true) (heq:eqL xs ys = some b) (w:World):(Op.equalIn 10000 t (.agg xs.toArray) (.agg ys.toArray)).run P w = .ok b w:=
  leafTys_ok 20 9980 t ts h.eq xs ys b w hok heq _ _ (fun _=>⟨rfl,rfl⟩) (fun hn=>by rw [h.agg] at hn;cases hn)
theorem rk_eqlA {t u:TypeId} {ts:List TypeId} [h:Leaf P t ts] {x y:Operand} {xs ys:List Value} {b:Bool} (hx:Is sl x (.agg xs.toArray)) (hy:Is sl y (.agg ys.toArray)) (hok:okL P ts xs = true) (heq:eqL xs ys = some b) :
    RunV P c sl hs ⟨dst,.binOp .eql t x y u,ty,pos,af,g⟩ (.bool b):=
  rk_bin hx hy fun w=>by
    rw [Sem.run_bind,run_eqGuard_agg w _ _ _ _ _ _ h.guard,Result.andThen_ok,run_eql_struct,rk_equal_agg hok heq];rfl
theorem rk_neqA {t u:TypeId} {ts:List TypeId} [h:Leaf P t ts] {x y:Operand} {xs ys:List Value} {b:Bool} (hx:Is sl x (.agg xs.toArray)) (hy:Is sl y (.agg ys.toArray)) (hok:okL P ts xs = true) (heq:eqL xs ys = some b) :
    RunV P c sl hs ⟨dst,.binOp .neq t x y u,ty,pos,af,g⟩ (.bool (!b)):=
  rk_bin hx hy fun w=>by
    rw [Sem.run_bind,run_eqGuard_agg w _ _ _ _ _ _ h.guard,Result.andThen_ok,run_neq_struct,rk_equal_agg hok heq];rfl
theorem okL_nil:okL P [] [] = true:=rfl
theorem okL_int {t:TypeId} {k:IntKind} {ts:List TypeId} {n:Int} {xs:List Value} [h:Und P t (.int k)] (hr:okL P ts xs = true):okL P (t :: ts) (.int k n :: xs) = true:=by
  simp [okL,leafOk,h.eq,hr]
theorem okL_string {t:TypeId} {ts:List TypeId} {s:ByteArray} {xs:List Value} [h:Und P t .string] (hr:okL P ts xs = true):okL P (t :: ts) (.string s :: xs) = true:=by
  simp [okL,leafOk,h.eq,hr]
end
end Go.SL
namespace Go.SL
open Go
def ev (sl:Slots):Operand → Option Value
  | .tmp t=>sget sl t
  | .const v=>some v
  | .global g=>some (.pointer (some ⟨g,0,none⟩))
  | .func f=>some (.func (.func f) #[] #[])
theorem Is.of {sl:Slots} {x:Operand} {v:Value} (h:ev sl x = some v):Is sl x v:=fun a ha=>by
  cases x with
  | tmp t=>exact ha.eval h
  | const u=>exact Option.some.inj h
  | global g=>exact Option.some.inj h
  | func f=>exact Option.some.inj h
theorem Is.ofg {sl:Slots} {x:Operand} {c:Bool} {v:Value} (hc:c = true) (h:ev sl x = some (SL.gv c v)):Is sl x v:=(gv_true hc (v:=v)) ▸ Is.of h
class Mix (P:Program):Prop where
  eq:P.follows .mixedOrders = true
section
variable {P:Program} {r:Option Nat} {c:Cx} {D:List Nat} {sl:Slots} {rl:RSlots} {hs hs':List Asn} {Q:Exit → Act → World → Prop} {ops:Array Oper} {m d:Nat} {dst:Option Tmp} {op:Op} {ty:TypeId} {pos:String} {af:Array Edge} {g:Option (Nat × Bool)} {rest:List Oper}
def AnyT (P:Program) (r:Option Nat) (c:Cx) (D:List Nat) (hs:List Asn) (ops:Array Oper) (Q:Exit → Act → World → Prop) (m:Nat) (l:List Oper) (sl:Slots) (rl:RSlots):Prop:=
  ∃ S sl' rl',Plan P c hs ops (l.take m) sl rl S sl' rl' ∧ ∀ a w,St c D sl' hs a w → RelsOk rl' a w → WL P r ops Q (l.drop m) a w
theorem tr_draw {id:Nat} {l:List Oper} (m:Nat) [hmix:Mix P] (hck:regOk l m = true) (k:AnyT P r c D hs l.toArray Q m l sl []):Tr c D sl hs (WP P r (.region id l.toArray true) Q):=by
  obtain ⟨S,sl',rl',hp,ht⟩:=k
  exact tr_draw_plan hmix.eq hck hp ht
theorem any_end {l:List Oper} (k:Tr c D sl hs (WL P r ops Q l)):AnyT P r c D hs ops Q 0 l sl rl:=
  ⟨[],sl,rl,.nil,fun a w hst _=>k a w hst⟩
theorem any_stepV {o:Oper} {V:Value} (ho:o.dst = some d) (hd:Nat.blt d c.nt = true) (h:StepQ P c hs ops sl rl o (.val V)) (k:AnyT P r c D hs ops Q m rest ((d,V) :: sl) rl):AnyT P r c D hs ops Q (m + 1) (o :: rest) sl rl:=by
  obtain ⟨S,sl',rl',hp,ht⟩:=k
  exact ⟨_,_,_,.val ho (by simpa [Nat.blt_eq] using hd) h hp,ht⟩
theorem stepQ_of {o:Oper} {R:Rel} (hg:o.guard = none) (h:∀ a w,SlotsOk sl a → RelsAt (o.looksAt ops) rl a w → Mem c hs w → QRun P o a w R):StepQ P c hs ops sl rl o R:=fun a w h1 h2 h3=>by
  rw [if_pos (by simp [Region.wanted,hg])]
  exact h a w h1 h2 h3
theorem qrun_val {o:Oper} {V:Value} (hr:RunV P c sl hs o V) {a:Act} {w:World} (h1:SlotsOk sl a) (h3:Mem c hs w):QRun P o a w (.val V):=by
  unfold QRun
  rw [hr.2 a w h1 h3]
  exact ⟨.refl _ _,rfl⟩
theorem qrun_call {o:Oper} {f:FuncId} {args:List Value} {V:Value} (hr:RunC P sl o f args) {a:Act} {w:World} (h1:SlotsOk sl a) (hc:GivesV P f args w V):QRun P o a w (.val V):=by
  unfold QRun
  rw [hr.2 a w h1]
  exact ⟨rfl,hc.mono fun e w' ⟨he,hk⟩=>⟨V,he,hk,rfl⟩⟩
theorem any_val {V:Value} (hr:RunV P c sl hs ⟨some d,op,ty,pos,af,none⟩ V) (hd:Nat.blt d c.nt = true) (k:AnyT P r c D hs ops Q m rest ((d,V) :: sl) rl) :
    AnyT P r c D hs ops Q (m + 1) (⟨some d,op,ty,pos,af,none⟩ :: rest) sl rl:=
  any_stepV rfl hd (stepQ_of rfl fun _ _ h1 _ h3=>qrun_val hr h1 h3) k
theorem any_call {f:FuncId} {args:List Value} {V:Value} (hr:RunC P sl ⟨some d,op,ty,pos,af,none⟩ f args) (hd:Nat.blt d c.nt = true) (hc:∀ w,Mem c hs w → GivesV P f args w V) (k:AnyT P r c D hs ops Q m rest ((d,V) :: sl) rl) :
    AnyT P r c D hs ops Q (m + 1) (⟨some d,op,ty,pos,af,none⟩ :: rest) sl rl:=
  any_stepV rfl hd (stepQ_of rfl fun _ w h1 _ h3=>qrun_call hr h1 (hc w h3)) k
theorem stepQ_guard {o:Oper} {V:Value} {j gs:Nat} {want c0 q:Bool} (hg:o.guard = some (j,want)) (hj:((ops[j]?).bind (·.dst)) = some gs) (hq:sget sl gs = some (gv c0 (.bool q)))
    (h:(c0 && (q == want)) = true → ∀ a w,SlotsOk sl a → Mem c hs w → QRun P o a w (.val V)):StepQ P c hs ops sl rl o (.val (gv (c0 && (q == want)) V)):=fun a w h1 _ h3=>by
  rw [wanted_gv hg hj h1 hq]
  by_cases hc:(c0 && (q == want)) = true
  · rw [if_pos hc,gv_true hc]
    exact h hc a w h1 h3
  · rw [if_neg hc,gv_false (by simpa using hc)]
    rfl
theorem any_valG {V:Value} {j gs:Nat} {want c0 q:Bool} (hj:((ops[j]?).bind (·.dst)) = some gs) (hq:sget sl gs = some (gv c0 (.bool q)))
    (hr:(c0 && (q == want)) = true → RunV P c sl hs ⟨some d,op,ty,pos,af,some (j,want)⟩ V) (hd:Nat.blt d c.nt = true) (k:AnyT P r c D hs ops Q m rest ((d,gv (c0 && (q == want)) V) :: sl) rl) :
    AnyT P r c D hs ops Q (m + 1) (⟨some d,op,ty,pos,af,some (j,want)⟩ :: rest) sl rl:=
  any_stepV rfl hd (stepQ_guard rfl hj hq fun hc _ _ h1 h3=>qrun_val (hr hc) h1 h3) k
theorem any_valG1 {V:Value} {j gs:Nat} {want q:Bool} (hj:((ops[j]?).bind (·.dst)) = some gs) (hq:sget sl gs = some (.bool q))
    (hr:(q == want) = true → RunV P c sl hs ⟨some d,op,ty,pos,af,some (j,want)⟩ V) (hd:Nat.blt d c.nt = true) (k:AnyT P r c D hs ops Q m rest ((d,gv (q == want) V) :: sl) rl) :
    AnyT P r c D hs ops Q (m + 1) (⟨some d,op,ty,pos,af,some (j,want)⟩ :: rest) sl rl:=
  any_valG (c0:=true) hj (by rw [hq];rfl) (by simpa using hr) hd (by simpa using k)
theorem any_callG {f:FuncId} {args:List Value} {V:Value} {j gs:Nat} {want c0 q:Bool} (hj:((ops[j]?).bind (·.dst)) = some gs) (hq:sget sl gs = some (gv c0 (.bool q)))
    (hr:(c0 && (q == want)) = true → RunC P sl ⟨some d,op,ty,pos,af,some (j,want)⟩ f args) (hd:Nat.blt d c.nt = true) (hc:(c0 && (q == want)) = true → ∀ w,Mem c hs w → GivesV P f args w V) (k:AnyT P r c D hs ops Q m rest ((d,gv (c0 && (q == want)) V) :: sl) rl) :
    AnyT P r c D hs ops Q (m + 1) (⟨some d,op,ty,pos,af,some (j,want)⟩ :: rest) sl rl:=
  any_stepV rfl hd (stepQ_guard rfl hj hq fun h _ w h1 h3=>qrun_call (hr h) h1 (hc h w h3)) k
theorem any_callG1 {f:FuncId} {args:List Value} {V:Value} {j gs:Nat} {want q:Bool} (hj:((ops[j]?).bind (·.dst)) = some gs) (hq:sget sl gs = some (.bool q))
    (hr:(q == want) = true → RunC P sl ⟨some d,op,ty,pos,af,some (j,want)⟩ f args) (hd:Nat.blt d c.nt = true) (hc:(q == want) = true → ∀ w,Mem c hs w → GivesV P f args w V) (k:AnyT P r c D hs ops Q m rest ((d,gv (q == want) V) :: sl) rl) :
    AnyT P r c D hs ops Q (m + 1) (⟨some d,op,ty,pos,af,some (j,want)⟩ :: rest) sl rl:=
  any_callG (c0:=true) hj (by rw [hq];rfl) (by simpa using hr) hd (by simpa using hc) (by simpa using k)
theorem tr_callVG {f:FuncId} {args:List Value} {V:Value} {j gs:Nat} {want c0 q:Bool} (hj:((ops[j]?).bind (·.dst)) = some gs) (hq:sget sl gs = some (gv c0 (.bool q)))
    (hr:(c0 && (q == want)) = true → RunC P sl ⟨some d,op,ty,pos,af,some (j,want)⟩ f args) (hd:Nat.blt d c.nt = true) (hc:(c0 && (q == want)) = true → ∀ w,Mem c hs w → GivesV P f args w V)
    (k:Tr c D ((d,gv (c0 && (q == want)) V) :: sl) hs (WL P r ops Q rest)):Tr c D sl hs (WL P r ops Q (⟨some d,op,ty,pos,af,some (j,want)⟩ :: rest)):=fun a w hst=>by
  unfold WL
  rw [wanted_gv rfl hj hst.slots hq]
  by_cases h:(c0 && (q == want)) = true
  · rw [if_pos h]
    rw [gv_true h] at k
    refine ⟨fr_about _ _ _ _ _,?_⟩
    rw [Oper.semAt_eq _ _ _ (hr h).1,(hr h).2 a w hst.slots]
    exact ⟨by simp [FR,Fence.wide],(calls_wide (hc h w hst.mem')).mono fun e w' ⟨he,hk⟩=>by
      subst he
      exact k _ _ ((hst.put (by simpa [Nat.blt_eq] using hd) V).heap (hst.mem.keepsOn hk))⟩
  · rw [if_neg h]
    rw [gv_false (by simpa using h)] at k
    exact k _ _ (hst.put (by simpa [Nat.blt_eq] using hd) undef)
theorem tr_callVG1 {f:FuncId} {args:List Value} {V:Value} {j gs:Nat} {want q:Bool} (hj:((ops[j]?).bind (·.dst)) = some gs) (hq:sget sl gs = some (.bool q))
    (hr:(q == want) = true → RunC P sl ⟨some d,op,ty,pos,af,some (j,want)⟩ f args) (hd:Nat.blt d c.nt = true) (hc:(q == want) = true → ∀ w,Mem c hs w → GivesV P f args w V)
    (k:Tr c D ((d,gv (q == want) V) :: sl) hs (WL P r ops Q rest)):Tr c D sl hs (WL P r ops Q (⟨some d,op,ty,pos,af,some (j,want)⟩ :: rest)):=
  tr_callVG (c0:=true) hj (by rw [hq];rfl) (by simpa using hr) hd (by simpa using hc) (by simpa using k)
def relNew (V:Nat → Value) (ob:Obj):Rel:=⟨fun v w=>∃ b,v = V b ∧ w.heap[b]? = some ob,fun ⟨b,e,h⟩ hk=>⟨b,e,by rw [hk.block b (hp_lt h) (by simp)];exact h⟩⟩
theorem rk_results1 {fn:Func} {t:Tmp} (h:fn.results = #[.tmp t]) {sl:Slots} {v:Value} (hv:sget sl t = some v) {a:Act} (ha:SlotsOk sl a) (w:World):(results fn a.tmps).run P w = .ok v w:=by
  have:=ha t v hv
  simp [results,h,Array.getD_eq_getD_getElem?,this]
theorem rk_results2 {fn:Func} {t u:Tmp} (h:fn.results = #[.tmp t,.tmp u]) {sl:Slots} {v x:Value} (hv:sget sl t = some v) (hx:sget sl u = some x) {a:Act} (ha:SlotsOk sl a) (w:World):(results fn a.tmps).run P w = .ok (.tuple #[v,x]) w:=by
  have h1:=ha t v hv
  have h2:=ha u x hx
  simp [results,h,Array.getD_eq_getD_getElem?,h1,h2]
theorem rk_results0 {fn:Func} (h:fn.results = #[]) {a:Act} (w:World):(results fn a.tmps).run P w = .ok (.tuple #[]) w:=by
  simp [results,h]
def Ends (P:Program) (fn:Func) (c:Cx) (sl:Slots) (hs:List Asn) (v:Value):Prop:=∀ a w,SlotsOk sl a → Mem c hs w → (results fn a.tmps).run P w = .ok v w
theorem ends1 {fn:Func} {t:Tmp} {v:Value} (h:fn.results = #[.tmp t]) (hv:sget sl t = some v):Ends P fn c sl hs v:=fun _ w ha _=>rk_results1 h hv ha w
theorem ends2 {fn:Func} {t u:Tmp} {v x:Value} (h:fn.results = #[.tmp t,.tmp u]) (hv:sget sl t = some v) (hx:sget sl u = some x):Ends P fn c sl hs (.tuple #[v,x]):=fun _ w ha _=>rk_results2 h hv hx ha w
theorem ends0 {fn:Func} (h:fn.results = #[]):Ends P fn c sl hs (.tuple #[]):=fun _ w _ _=>rk_results0 h w
theorem ends1c {fn:Func} {t:Tmp} {T:TypeId} {b o n:Nat} {v:Value} [Ty P T false n] (h:fn.results = #[.cell t T]) (hp:sget sl t = some (.pointer (some ⟨b,o,none⟩))) (hv:At c hs b o v):Ends P fn c sl hs v:=fun a w ha hm=>by
  have h1:=ha t _ hp
  simp [results,h,Array.getD_eq_getD_getElem?,h1,asAddr,rk_loadVar1 (hv w hm)]
theorem ends1cN {fn:Func} {t:Tmp} {T:TypeId} {b o n:Nat} {vs:List Value} [Ty P T true n] (h:fn.results = #[.cell t T]) (hp:sget sl t = some (.pointer (some ⟨b,o,none⟩))) (hv:Ats c hs b o vs) (hl:vs.length = n):Ends P fn c sl hs (.agg vs.toArray):=fun a w ha hm=>by
  have h1:=ha t _ hp
  simp [results,h,Array.getD_eq_getD_getElem?,h1,asAddr,rk_loadVarN hl (fun j v h=>hv.get j v h w hm)]
def Loads (P:Program) (c:Cx) (hs:List Asn) (T:TypeId) (b o:Nat) (v:Value):Prop:=∀ w,Mem c hs w → (loadVar T ⟨b,o,none⟩).run P w = .ok v w
theorem loadsN {T:TypeId} {b o n:Nat} {vs:List Value} [Ty P T true n] (hv:Ats c hs b o vs) (hl:vs.length = n):Loads P c hs T b o (.agg vs.toArray):=fun w hm=>rk_loadVarN hl (fun j v h=>hv.get j v h w hm)
inductive RV (P:Program) (c:Cx) (sl:Slots) (hs:List Asn):ResultVar → Value → Prop
  | tmp {t:Tmp} {v:Value} (h:sget sl t = some v):RV P c sl hs (.tmp t) v
  | cell {t:Tmp} {T:TypeId} {b o:Nat} {v:Value} (h:sget sl t = some (.pointer (some ⟨b,o,none⟩))) (hl:Loads P c hs T b o v):RV P c sl hs (.cell t T) v
inductive RVs (P:Program) (c:Cx) (sl:Slots) (hs:List Asn):List ResultVar → List Value → Prop
  | nil:RVs P c sl hs [] []
  | cons {x:ResultVar} {xs:List ResultVar} {v:Value} {vs:List Value} (h:RV P c sl hs x v) (t:RVs P c sl hs xs vs):RVs P c sl hs (x :: xs) (v :: vs)
def rvGet (tmps:Array Value):ResultVar → Sem Value
  | .tmp t=>pure (tmps.getD t undef)
  | .cell a t=>do loadVar t (← asAddr (tmps.getD a undef))
theorem rvs_run {xs:List ResultVar} {vs:List Value} (h:RVs P c sl hs xs vs) {a:Act} {w:World} (ha:SlotsOk sl a) (hm:Mem c hs w):(xs.mapM (rvGet a.tmps)).run P w = .ok vs w:=by
  induction h with
  | nil=>simp
  | cons h _ ih =>
    cases h with
    | tmp h=>simp [rvGet,Array.getD_eq_getD_getElem?,ha _ _ h,ih]
    | cell h hl=>simp [rvGet,Array.getD_eq_getD_getElem?,ha _ _ h,asAddr,hl w hm,ih]
theorem endsL {fn:Func} {xs:List ResultVar} {vs:List Value} (hx:fn.results = xs.toArray) (h:RVs P c sl hs xs vs) (hl:vs.length ≠ 1):Ends P fn c sl hs (.tuple vs.toArray):=fun a w ha hm=>by
  have:=rvs_run h ha hm
  have h2:(Array.mapM (rvGet a.tmps) xs.toArray).run P w = .ok vs.toArray w:=by
    rw [List.mapM_toArray]
    simp [this]
  unfold results
  rw [hx]
  change Sem.run P (Array.mapM (rvGet a.tmps) xs.toArray >>= fun vs=>pure (if h:vs.size = 1 then vs[0] else Value.tuple vs)) w = _
  rw [Sem.run_bind,h2,Result.andThen_ok,Sem.run_pure]
  rw [dif_neg (by simpa using hl)]
theorem tr_retV {fn:Func} {v:Value} (hmd:c.md = []) (he:Ends P fn c sl hs v) :
    Tr c [] sl hs (bodyPostM (FR r) 0 P fn (fun e w'=>e = .returned v ∧ Keeps [] c.w0 w') .ret):=fun a w hst=>by
  have hm:=hst.mem'
  show LeavesInM (FR r) 0 P fn a.tmps _ a.defers .returning w
  rw [hst.defers]
  exact ⟨v,he a w hst.slots hm,rfl,by rw [← hmd];exact hm.keeps⟩
theorem tr_retE {fn:Func} {v v':Value} (hmd:c.md = []) (he:Ends P fn c sl hs v') (hv:v' = v) :
    Tr c [] sl hs (bodyPostM (FR r) 0 P fn (fun e w'=>e = .returned v ∧ Keeps [] c.w0 w') .ret):=hv ▸ tr_retV hmd he
theorem leaves_marks {fn:Func} {v:Value} {R:Ending → World → Prop}:∀ (D:List Nat) (w:World) (a:Act),a.defers = D.map mark → SlotsOk sl a → Mem c (hs++mks D) w → Ends P fn c sl hs v →
    (∀ w',Mem c hs w' → R (.returned v) w') → LeavesInM (FR r) 0 P fn a.tmps R (D.map mark) .returning w
  | [],w,a,_,ha,hm,he,hR=>⟨v,he a w ha (by simpa [mks] using hm),hR w (by simpa [mks] using hm)⟩
  | b :: D, w, a, _, ha, hm, he, hR => by
    have htake:Take (hs++mks (b :: D)) (blk b (.deferred (some []))) (hs++mks D):=by
      clear hm he hR
      induction hs with
      | nil=>exact .here
      | cons A hs ih=>exact .there ih
    have hm2:=hm.take htake
    have hb:w.heap[b]? = some (.deferred (some [])):=hm2.blk .here
    refine ⟨by simp,.inl ⟨b,w.putObj b (.deferred none),rfl,run_takeDeferred hb,?_⟩⟩
    have hk:Keeps [b] w (w.putObj b (.deferred none)):=⟨rfl,rfl,rfl,by simp,fun k _ hn=>World.putObj_heap_other (by simpa using hn)⟩
    have hm3:Mem c (hs++mks D) (w.putObj b (.deferred none)):=(Mem.store hm2 hk (World.putObj_heap_same (hp_lt (w:=w) hb))).dropHead
    exact leaves_marks D _ { a with defers:=D.map mark } rfl ha hm3 he hR
theorem tr_retM {fn:Func} {v:Value} {R:Ending → World → Prop} (he:Ends P fn c sl hs v) (hR:∀ w',Mem c hs w' → R (.returned v) w') :
    Tr c D sl hs (bodyPostM (FR r) 0 P fn R .ret):=fun a w hst=>by
  show LeavesInM (FR r) 0 P fn a.tmps R a.defers .returning w
  rw [hst.defers]
  exact leaves_marks D w a hst.defers hst.slots hst.mem he hR
theorem tr_endM {fn:Func} {v:Value} {R:Ending → World → Prop} (he:Ends P fn c sl hs v) (hR:∀ w',Mem c hs w' → R (.returned v) w') :
    Tr c D sl hs (bodyPostM (FR r) 0 P fn R .normal):=tr_retM (r:=r) he hR
theorem givesV_of_tr {f:FuncId} {fn:Func} {code:Code} {args:List Value} {w:World} {V:Value} (hf:P.funcs[f]? = some fn) (hb:fn.body = some code) (hl:Nat.ble args.length fn.ntmps = true)
    (h:Tr ⟨w,[],fn.ntmps⟩ [] (argSlots 0 args) [] (WP P none code (bodyPostM (FR none) 0 P fn (fun e w'=>e = .returned V ∧ Keeps [] w w')))):GivesV P f args w V:=
  calls_of_tr (hs0:=[]) hf hb (by simpa using hl) ⟨[],List.nodup_nil,rfl,fun _ h=>by cases h⟩ h
theorem gives_of_tr {f:FuncId} {fn:Func} {code:Code} {args:List Value} {w:World} {ι:Type} {Φ:ι → Prop} {val:ι → Value} {own:ι → List Asn} (hf:P.funcs[f]? = some fn) (hb:fn.body = some code) (hl:Nat.ble args.length fn.ntmps = true)
    (h:Tr ⟨w,[],fn.ntmps⟩ [] (argSlots 0 args) [] (WP P none code (bodyPostM (FR none) 0 P fn (fun e w'=>∃ x,e = .returned (val x) ∧ Φ x ∧ Keeps [] w w' ∧ ∃ fp:List Nat,fp.Nodup ∧ Sats (hp w') (own x) fp ∧ ∀ b ∈ fp,b ∈ ([]:List Nat) ∨ w.heap.size ≤ b)))) :
    Gives P f args w [] Φ val own:=
  calls_of_tr (hs0:=[]) hf hb (by simpa using hl) ⟨[],List.nodup_nil,rfl,fun _ h=>by cases h⟩ h
theorem givesM_of_tr {f:FuncId} {fn:Func} {code:Code} {args:List Value} {w:World} {fp0:List Nat} {As:List Asn} {ι:Type} {Φ:ι → Prop} {val:ι → Value} {own:ι → List Asn} (hf:P.funcs[f]? = some fn) (hb:fn.body = some code) (hl:Nat.ble args.length fn.ntmps = true)
    (hn:fp0.Nodup) (hs0:Sats (hp w) As fp0)
    (h:Tr ⟨w,fp0,fn.ntmps⟩ [] (argSlots 0 args) As (WP P none code (bodyPostM (FR none) 0 P fn (fun e w'=>∃ x,e = .returned (val x) ∧ Φ x ∧ Keeps fp0 w w' ∧ ∃ fp:List Nat,fp.Nodup ∧ Sats (hp w') (own x) fp ∧ ∀ b ∈ fp,b ∈ fp0 ∨ w.heap.size ≤ b)))) :
    Gives P f args w fp0 Φ val own:=
  calls_of_tr hf hb (by simpa using hl) ⟨fp0,hn,hs0,fun _ h=>h⟩ h
theorem gives_end {ι:Type} {Φ:ι → Prop} {val:ι → Value} {own:ι → List Asn} (x:ι) (hx:Φ x) {As:List Asn} (ht:Takes hs (own x) As) {w':World} (hm:Mem c hs w') {v:Value} (hv:v = val x) :
    ∃ x,Ending.returned v = .returned (val x) ∧ Φ x ∧ Keeps c.md c.w0 w' ∧ ∃ fp:List Nat,fp.Nodup ∧ Sats (hp w') (own x) fp ∧ ∀ b ∈ fp,b ∈ c.md ∨ c.w0.heap.size ≤ b:=by
  have h2:=(hm.takes ht).dropTail
  obtain ⟨k,fp,hn,hsat,hb⟩:=h2
  exact ⟨x,by rw [hv],hx,k,fp,hn,hsat,fun b hb'=>(hb b hb').symm⟩
end
end Go.SL
