/- Regions that draw their order: the plan serves. -/
import Derived.Test.YtahcjhdepdhipaaGkAny
set_option linter.unusedSectionVars false
set_option linter.unusedVariables false
set_option linter.unusedSimpArgs false
namespace Go.SL
open Go

section
variable {P : Program} {r : Option Nat} {c : Cx} {D : List Nat} {sl sl' : Slots} {rl' : RSlots} {hs : List Asn} {Q : Exit → Act → World → Prop} {l : List Oper} {m : Nat} {S : List Rel}

def Ls (listed : Array Bool) (i : Nat) : Prop := listed.getD i false = true

theorem not_Ls (n i : Nat) : ¬ Ls (Array.replicate n false) i := by
  unfold Ls
  rw [Array.getD_eq_getD_getElem?, Array.getElem?_replicate]
  split <;> simp

theorem getD_set {listed : Array Bool} {i j : Nat} (hi : i < listed.size) : Ls (listed.setIfInBounds i true) j ↔ (j = i ∨ Ls listed j) := by
  unfold Ls
  by_cases h : i = j
  · subst h
    simp [Array.getD_eq_getD_getElem?, hi]
  · have h' : ¬ j = i := fun e => h e.symm
    simp [Array.getD_eq_getD_getElem?, Array.getElem?_setIfInBounds_ne h, h']

theorem getD_tf {listed : Array Bool} {i : Nat} (hi : i < listed.size) : listed.getD i true = false ↔ ¬ Ls listed i := by
  unfold Ls
  simp [Array.getD_eq_getD_getElem?, hi]

theorem mem_ready' {listed : Array Bool} (hsz : listed.size = l.length) {i : Nat} : i ∈ Region.ready .any l.toArray listed ↔ ∃ o, l[i]? = some o ∧ ¬ Ls listed i ∧ ∀ e ∈ o.after, bnd e = true → Ls listed e.on := by
  rw [mem_ready]
  constructor
  · rintro ⟨h1, o, ho, h2⟩
    have ho' : l[i]? = some o := by simpa using ho
    have hi : i < listed.size := by rw [hsz]; exact (List.getElem?_eq_some_iff.1 ho').1
    exact ⟨o, ho', (getD_tf hi).1 h1, h2⟩
  · rintro ⟨o, ho, h1, h2⟩
    have hi : i < listed.size := by rw [hsz]; exact (List.getElem?_eq_some_iff.1 ho).1
    exact ⟨(getD_tf hi).2 h1, o, by simpa using ho, h2⟩

theorem least_ready {listed : Array Bool} (hsz : listed.size = l.length) (hac : acyc l 0 = true) (h : ∃ i, i < l.length ∧ ¬ Ls listed i) : ∃ i, i ∈ Region.ready .any l.toArray listed := by
  obtain ⟨i, hi, hn⟩ := h
  induction i using Nat.strongRecOn with
  | _ i ih =>
    by_cases hall : ∀ j, j < i → Ls listed j
    · refine ⟨i, (mem_ready' hsz).2 ⟨l[i], List.getElem?_eq_getElem hi, hn, fun e he hb => hall _ ?_⟩⟩
      have := acyc_spec hac (List.getElem?_eq_getElem hi) e he hb
      omega
    · have : ∃ j, j < i ∧ ¬ Ls listed j := by
        apply Classical.byContradiction
        intro hc
        exact hall fun j hj => Classical.byContradiction fun hn' => hc ⟨j, hj, hn'⟩
      obtain ⟨j, hj, hnj⟩ := this
      exact ih j hj (by omega) hnj

theorem tailOk_spec {ms : List Nat} : ∀ {ks : List Nat}, tailOk ms ks = true → ∀ k ∈ ks, ∀ i, i < k → (ms.getD k 0).testBit i = true
  | [], _, k, hk => by cases hk
  | x :: ks, h, k, hk => by
    simp only [tailOk, Bool.and_eq_true, List.all_eq_true, List.mem_range] at h
    rcases List.mem_cons.1 hk with e | hk
    · subst e; exact h.1
    · exact tailOk_spec h.2 k hk

structure Chk (l : List Oper) (m : Nat) : Prop where
  op : ∀ o ∈ l, opOk o = true
  ac : acyc l 0 = true
  pairs : pairsOk l.toArray (l.take m) 0 = true
  tail : ∀ k, m ≤ k → k < l.length → ∀ i, i < k → ((masks l []).getD k 0).testBit i = true
  le : m ≤ l.length

theorem regOk_spec (h : regOk l m = true) : Chk l m := by
  simp only [regOk, Bool.and_eq_true, List.all_eq_true] at h
  obtain ⟨⟨⟨⟨⟨h1, h2⟩, h3⟩, _⟩, h5⟩, h6⟩ := h
  refine ⟨h1, h2, h3, fun k hk hlt => tailOk_spec h5 k ?_, by simpa using h6⟩
  rw [List.mem_range'_1]
  omega

/-- An operation that is ready has all before it that its mask names. -/
theorem ready_mask (hc : Chk l m) {listed : Array Bool} (hsz : listed.size = l.length) (hdc : DC l (Ls listed)) {i : Nat} (hi : i ∈ Region.ready .any l.toArray listed) (hm : m ≤ i) : ∀ j, j < i → Ls listed j := by
  intro j hj
  obtain ⟨o, ho, hn, hd⟩ := (mem_ready' hsz).1 hi
  have hlt : i < l.length := (List.getElem?_eq_some_iff.1 ho).1
  have hdc' : DC l (fun k => k = i ∨ Ls listed k) := by
    intro k ok hk hL e he hb
    rcases hL with e' | hL
    · subst e'
      rw [ho] at hk; cases hk
      exact .inr (hd e he hb)
    · exact .inr (hdc k ok hk hL e he hb)
  rcases masks_sound hdc' hc.ac i hlt (.inl rfl) j (hc.tail i hm hlt j hj) with h | h
  · omega
  · exact h

theorem wl_of_wpOp {o : Oper} {rest : List Oper} {i : Nat} {ops : Array Oper} {K : Act → World → Prop} {a : Act} {w : World} (hi : ops[i]? = some o) (hK : ∀ a w, WL P r ops Q rest a w → K a w) (h : WL P r ops Q (o :: rest) a w) : wpOpIn (FR r) 0 P ops Q i K a w := by
  unfold wpOpIn
  simp only [hi]
  unfold WL at h
  split
  · rename_i hw
    rw [if_pos hw] at h
    exact Oper.wpIn_mono hK h
  · rename_i hw
    rw [if_neg hw] at h
    exact ⟨fun _ _ => trivial, hK _ _ h⟩

theorem phase2 (hc : Chk l m) : ∀ (fuel k : Nat) (listed : Array Bool) (a : Act) (w : World), m ≤ k → k + fuel = l.length → listed.size = l.length → (∀ i, i < l.length → (Ls listed i ↔ i < k)) →
    WL P r l.toArray Q (l.drop k) a w → wpAnyIn (FR r) 0 P .any l.toArray Q fuel listed a w
  | 0, k, listed, a, w, _, hk, hsz, hL, h => by
    refine ⟨?_, by rw [List.drop_of_length_le (by omega)] at h; exact h⟩
    apply List.eq_nil_iff_forall_not_mem.2
    intro i hi
    obtain ⟨o, ho, hn, _⟩ := (mem_ready' hsz).1 hi
    have hlt := (List.getElem?_eq_some_iff.1 ho).1
    exact hn ((hL i hlt).2 (by omega))
  | fuel + 1, k, listed, a, w, hmk, hk, hsz, hL, h => by
    have hdc : DC l (Ls listed) := fun k' o' ho' hLk e he hb => by
      have hlt := (List.getElem?_eq_some_iff.1 ho').1
      have := acyc_spec hc.ac ho' e he hb
      exact (hL e.on (by omega)).2 (by have := (hL k' hlt).1 hLk; omega)
    have hkl : k < l.length := by omega
    refine ⟨fun h0 => ?_, fun i hi => ?_⟩
    · obtain ⟨i, hi⟩ := least_ready hsz hc.ac ⟨k, hkl, fun hh => by have := (hL k hkl).1 hh; omega⟩
      rw [h0] at hi; cases hi
    · obtain ⟨o, ho, hn, _⟩ := (mem_ready' hsz).1 hi
      have hlt := (List.getElem?_eq_some_iff.1 ho).1
      have hki : k ≤ i := Nat.le_of_not_lt fun hh => hn ((hL i hlt).2 hh)
      have : i = k := by
        rcases Nat.lt_or_ge k i with hh | hh
        · have := (hL k hkl).1 (ready_mask hc hsz hdc hi (by omega) k hh)
          omega
        · omega
      subst this
      rw [List.drop_eq_getElem_cons hlt] at h
      have ho' : l[i] = o := by rw [List.getElem?_eq_getElem hlt] at ho; exact Option.some.inj ho
      rw [ho'] at h
      refine wl_of_wpOp (by simpa using ho) (fun a' w' h' => phase2 hc fuel (i + 1) _ a' w' (by omega) (by omega) (by simpa using hsz) (fun j hj => ?_) h') h
      rw [getD_set (by omega)]
      have := hL j hj
      constructor
      · rintro (e | hh)
        · omega
        · have := this.1 hh; omega
      · intro hh
        by_cases e : j = i
        · exact .inl e
        · exact .inr (this.2 (by omega))

structure Inv1 (c : Cx) (D : List Nat) (hs : List Asn) (l : List Oper) (m : Nat) (S : List Rel) (a0 : Act) (fuel : Nat) (listed : Array Bool) (a : Act) (w : World) : Prop where
  sz : listed.size = l.length
  dc : DC l (Ls listed)
  hi : ∀ k, m ≤ k → ¬ Ls listed k
  mem : Mem c (hs ++ mks D) w
  defers : a.defers = D.map mark
  size : a.tmps.size = c.nt
  old : ∀ t, (∀ (j : Nat) (o : Oper), l[j]? = some o → Ls listed j → o.dst ≠ some t) → a.tmps[t]? = a0.tmps[t]?
  new : ∀ (j : Nat) (o : Oper), l[j]? = some o → Ls listed j → ∀ d R, o.dst = some d → S[j]? = some R → ∃ v, a.tmps[d]? = some v ∧ R.p v w
  left : ∃ U : List Nat, U.Nodup ∧ (∀ i, i ∈ U ↔ i < l.length ∧ ¬ Ls listed i) ∧ U.length = fuel

theorem pair_at (hc : Chk l m) {i j : Nat} {x y : Oper} (hij : i < j) (hj : j < m) (hx : l[i]? = some x) (hy : l[j]? = some y) : pairOk l.toArray x y i = true := by
  have := pairsOk_spec hc.pairs (i := i) (j := j) hij (by rw [List.getElem?_take, if_pos (by omega)]; exact hx) (by rw [List.getElem?_take, if_pos hj]; exact hy)
  simpa using this

theorem pair_spec {ops : Array Oper} {x y : Oper} {i d e : Nat} (h : pairOk ops x y i = true) (hx : x.dst = some d) (hy : y.dst = some e) : d ≠ e ∧ ((d ∈ y.looksAt ops ∨ e ∈ x.looksAt ops) → waitsOn y i = true) := by
  simp only [pairOk, hx, hy, Bool.and_eq_true, Bool.not_eq_true', Bool.or_eq_true] at h
  obtain ⟨h1, h2⟩ := h
  refine ⟨fun e' => by subst e'; simp at h1, fun h3 => ?_⟩
  rcases h2 with ⟨h4, h5⟩ | h2
  · rcases h3 with h3 | h3
    · rw [has_iff.2 h3] at h4; cases h4
    · rw [has_iff.2 h3] at h5; cases h5
  · exact h2

theorem waitsOn_spec {o : Oper} {i : Nat} (h : waitsOn o i = true) : ∃ e ∈ o.after, bnd e = true ∧ e.on = i := by
  simp only [waitsOn, List.any_eq_true, Bool.and_eq_true] at h
  obtain ⟨e, he, hb, hon⟩ := h
  exact ⟨e, by simpa using he, hb, Nat.eq_of_beq_eq_true hon⟩

theorem inv_step (hc : Chk l m) (hl : m ≤ l.length) {a0 a : Act} {w w' : World} {fuel i d : Nat} {listed : Array Bool} {o : Oper} {R : Rel} {v : Value} (hI : Inv1 c D hs l m S a0 (fuel + 1) listed a w)
    (hi : i ∈ Region.ready .any l.toArray listed) (him : i < m) (ho : l[i]? = some o) (hd : o.dst = some d) (hdn : d < c.nt) (hSi : S[i]? = some R)
    (hdst : ∀ (j : Nat) (oj : Oper), j < m → l[j]? = some oj → ∃ e, oj.dst = some e) (hk : Keeps [] w w') (hv : R.p v w') : Inv1 c D hs l m S a0 fuel (listed.setIfInBounds i true) (a.put o.dst v) w' := by
  obtain ⟨o', ho', hn, hdeps⟩ := (mem_ready' hI.sz).1 hi
  rw [ho] at ho'; cases ho'
  have hil : i < listed.size := by rw [hI.sz]; omega
  have _ := hdst
  have hdist : ∀ (j : Nat) (oj : Oper) (e : Nat), l[j]? = some oj → j < m → j ≠ i → oj.dst = some e → e ≠ d := by
    intro j oj e hj hjm hne he
    rcases Nat.lt_or_ge j i with h | h
    · exact (pair_spec (pair_at hc h him hj ho) he hd).1
    · exact fun e' => (pair_spec (pair_at hc (show i < j by omega) hjm ho hj) hd he).1 e'.symm
  rw [hd]
  refine ⟨by simpa using hI.sz, ?_, ?_, hI.mem.keepsOn hk, hI.defers, by simpa [Act.put] using hI.size, ?_, ?_, ?_⟩
  · intro k ok hk' hL e he hb
    rw [getD_set hil] at hL ⊢
    rcases hL with e' | hL
    · subst e'
      rw [ho] at hk'; cases hk'
      exact .inr (hdeps e he hb)
    · exact .inr (hI.dc k ok hk' hL e he hb)
  · intro k hk' hL
    rw [getD_set hil] at hL
    rcases hL with e | hL
    · omega
    · exact hI.hi k hk' hL
  · intro t ht
    have h1 : d ≠ t := fun e => by subst e; exact ht i o ho ((getD_set hil).2 (.inl rfl)) hd
    simp only [Act.put, Array.getElem?_setIfInBounds_ne h1]
    exact hI.old t fun j oj hj hL => ht j oj hj ((getD_set hil).2 (.inr hL))
  · intro j oj hj hL e Rj he hRj
    rw [getD_set hil] at hL
    by_cases hji : j = i
    · subst hji
      rw [ho] at hj; cases hj
      rw [hd] at he; cases he
      rw [hSi] at hRj; cases hRj
      exact ⟨v, by simp [Act.put, hI.size, hdn], hv⟩
    · have hL' := hL.resolve_left hji
      obtain ⟨u, hu, hp⟩ := hI.new j oj hj hL' e Rj he hRj
      have hjm : j < m := Nat.lt_of_not_le fun h => hI.hi j h hL'
      have hne : e ≠ d := hdist j oj e hj hjm hji he
      refine ⟨u, ?_, Rj.st hp hk⟩
      simp only [Act.put, Array.getElem?_setIfInBounds_ne (Ne.symm hne)]
      exact hu
  · obtain ⟨U, hU1, hU2, hU3⟩ := hI.left
    have hiU : i ∈ U := (hU2 i).2 ⟨by omega, hn⟩
    refine ⟨U.erase i, hU1.erase i, fun j => ?_, by rw [List.length_erase_of_mem hiU, hU3]; rfl⟩
    rw [hU1.mem_erase_iff, hU2 j, getD_set hil]
    constructor
    · rintro ⟨h1, h2, h3⟩
      exact ⟨h2, fun h => h.elim h1 h3⟩
    · rintro ⟨h1, h2⟩
      exact ⟨fun e => h2 (.inl e), h1, fun h => h2 (.inr h)⟩

def RelsOk (rl : RSlots) (a : Act) (w : World) : Prop := ∀ d R, (d, R) ∈ rl → ∃ v, a.tmps[d]? = some v ∧ R.p v w

theorem phase1 (hc : Chk l m) (hp : Plan P c hs l.toArray (l.take m) sl [] S sl' rl') {a0 : Act} (h0 : SlotsOk sl a0) (hn0 : a0.tmps.size = c.nt)
    (tail : ∀ a w, St c D sl' hs a w → RelsOk rl' a w → WL P r l.toArray Q (l.drop m) a w) :
    ∀ (fuel : Nat) (listed : Array Bool) (a : Act) (w : World), Inv1 c D hs l m S a0 fuel listed a w → wpAnyIn (FR r) 0 P .any l.toArray Q fuel listed a w := by
  have hend := hp.end_
  have htake : ∀ (j : Nat) (o : Oper), j < m → l[j]? = some o → (l.take m)[j]? = some o := fun j o hj ho => by rw [List.getElem?_take, if_pos hj]; exact ho
  have htake' : ∀ (j : Nat) (o : Oper), (l.take m)[j]? = some o → j < m ∧ l[j]? = some o := fun j o ho => by
    rw [List.getElem?_take] at ho
    split at ho
    · exact ⟨by assumption, ho⟩
    · cases ho
  have hfin : ∀ fuel listed a w, Inv1 c D hs l m S a0 fuel listed a w → (∀ i, i < m → Ls listed i) → wpAnyIn (FR r) 0 P .any l.toArray Q fuel listed a w := by
    intro fuel listed a w hI hall
    have hL : ∀ i, i < l.length → (Ls listed i ↔ i < m) := fun i _ => ⟨fun h => Nat.lt_of_not_le fun hm => hI.hi i hm h, hall i⟩
    obtain ⟨U, hU1, hU2, hU3⟩ := hI.left
    have hperm : U.Perm (List.range' m (l.length - m)) := by
      rw [List.perm_ext_iff_of_nodup hU1 (List.nodup_range')]
      intro i
      rw [hU2 i, List.mem_range'_1]
      constructor
      · rintro ⟨h1, h2⟩
        exact ⟨Nat.le_of_not_lt fun h => h2 (hall i h), by omega⟩
      · rintro ⟨h1, h2⟩
        exact ⟨by omega, hI.hi i h1⟩
    have hlen : fuel = l.length - m := by rw [← hU3, hperm.length_eq, List.length_range']
    refine phase2 hc fuel m listed a w (Nat.le_refl _) (by have := hc.le; omega) hI.sz hL (tail a w ⟨hI.mem, ?_, hI.size, hI.defers⟩ ?_)
    · intro t v hv
      rcases hend.1 t v hv with ⟨j, oj, hj, hdj, hSj⟩ | ⟨hno, hv'⟩
      · obtain ⟨hjm, hj'⟩ := htake' j oj hj
        obtain ⟨u, hu, hp'⟩ := hI.new j oj hj' (hall j hjm) t _ hdj hSj
        rw [hu, show u = v from hp']
      · rw [hI.old t fun j oj hj hLj => hno j oj (htake j oj (Nat.lt_of_not_le fun hm => hI.hi j hm hLj) hj)]
        exact h0 t v hv'
    · intro d R hm
      rcases hend.2.1 d R hm with ⟨j, oj, hj, hdj, hSj⟩ | hm'
      · obtain ⟨hjm, hj'⟩ := htake' j oj hj
        exact hI.new j oj hj' (hall j hjm) d R hdj hSj
      · cases hm'
  intro fuel
  induction fuel with
  | zero =>
    intro listed a w hI
    obtain ⟨U, _, hU2, hU3⟩ := hI.left
    have hU : U = [] := List.length_eq_zero_iff.1 hU3
    refine hfin 0 listed a w hI fun i hi => Classical.byContradiction fun hn => ?_
    have := (hU2 i).2 ⟨by have := hc.le; omega, hn⟩
    rw [hU] at this; cases this
  | succ fuel ih =>
    intro listed a w hI
    by_cases hall : ∀ i, i < m → Ls listed i
    · exact hfin _ listed a w hI hall
    · have hex : ∃ i, i < m ∧ ¬ Ls listed i := Classical.byContradiction fun hh => hall fun i hi => Classical.byContradiction fun hn => hh ⟨i, hi, hn⟩
      obtain ⟨i0, hi0, hn0'⟩ := hex
      refine ⟨fun hr => ?_, fun i hi => ?_⟩
      · obtain ⟨i, hi⟩ := least_ready hI.sz hc.ac ⟨i0, by have := hc.le; omega, hn0'⟩
        rw [hr] at hi; cases hi
      · have him : i < m := Nat.lt_of_not_le fun hm => hn0' (ready_mask hc hI.sz hI.dc hi hm i0 (by omega))
        obtain ⟨o, ho, hn, hdeps⟩ := (mem_ready' hI.sz).1 hi
        obtain ⟨sli, rli, R, hRi, hstep, hs1, hs2⟩ := hp.at_ i o (htake i o him ho)
        obtain ⟨d, R', hd, hdn, hSi⟩ := hend.2.2 i o (htake i o him ho)
        rw [hRi] at hSi; cases hSi
        have hwait : ∀ (j : Nat), waitsOn o j = true → Ls listed j := fun j hw => by
          obtain ⟨e, he, hb, hon⟩ := waitsOn_spec hw
          rw [← hon]; exact hdeps e he hb
        have hback : ∀ (j t : Nat) (oj : Oper), j < i → (l.take m)[j]? = some oj → oj.dst = some t → t ∈ o.looksAt l.toArray → Ls listed j := by
          intro j t oj hj hlj hdj ht
          obtain ⟨hjm, hj'⟩ := htake' j oj hlj
          exact hwait j ((pair_spec (pair_at hc hj him hj' ho) hdj hd).2 (.inl ht))
        have hT : ∀ t ∈ o.looksAt l.toArray, ∀ v, sget sli t = some v → a.tmps[t]? = some v := by
          intro t ht v hv
          rcases hs1 t v hv with ⟨j, oj, hj, hlj, hdj, hSj⟩ | ⟨hno, hv'⟩
          · obtain ⟨u, hu, hp'⟩ := hI.new j oj (htake' j oj hlj).2 (hback j t oj hj hlj hdj ht) t _ hdj hSj
            rw [hu, show u = v from hp']
          · rw [hI.old t fun j oj hj hLj hdj => ?_]
            · exact h0 t v hv'
            · have hjm : j < m := Nat.lt_of_not_le fun hm => hI.hi j hm hLj
              rcases Nat.lt_trichotomy j i with h | h | h
              · exact hno j oj h (htake j oj hjm hj) hdj
              · subst h; exact hn hLj
              · have hw := (pair_spec (pair_at hc h hjm ho hj) hd hdj).2 (.inr ht)
                obtain ⟨e, he, hb, hon⟩ := waitsOn_spec hw
                have := hI.dc j oj hj hLj e he hb
                rw [hon] at this
                exact hn this
        have hkey : ∀ t v, sget sli t = some v → t < c.nt := by
          intro t v hv
          rcases hs1 t v hv with ⟨j, oj, _, hlj, hdj, _⟩ | ⟨_, hv'⟩
          · obtain ⟨d', _, hd', hdn', _⟩ := hend.2.2 j oj hlj
            rw [hdj] at hd'; cases hd'
            exact hdn'
          · have := h0 t v hv'
            rw [← hn0]
            exact (Array.getElem?_eq_some_iff.1 this).1
        obtain ⟨a', ha1, ha2, _⟩ := fill_act hI.size hkey hT
        have hrel : RelsAt (o.looksAt l.toArray) rli a' w := by
          intro t Rt hm ht
          rcases hs2 t Rt hm with ⟨j, oj, hj, hlj, hdj, hSj⟩ | hm'
          · obtain ⟨v, hv, hp'⟩ := hI.new j oj (htake' j oj hlj).2 (hback j t oj hj hlj hdj ht) t _ hdj hSj
            exact ⟨v, by rw [ha2 t ht]; exact hv, hp'⟩
          · cases hm'
        have hq := hstep a' w ha1 hrel hI.mem.dropTail
        have hoo : opOk o = true := hc.op o (List.mem_of_getElem? ho)
        have hex := exec_of_same (o := o) (ops := l.toArray) hoo ha2
        rw [wanted_of_same ha2] at hq
        have hnext : ∀ v w', Keeps [] w w' → R.p v w' → wpAnyIn (FR r) 0 P .any l.toArray Q fuel (listed.setIfInBounds i true) (a.put o.dst v) w' := fun v w' hk hv =>
          ih _ _ _ (inv_step hc hc.le hI hi him ho hd hdn hRi (fun j oj hj hlj => let ⟨e, _, he, _⟩ := hend.2.2 j oj (htake j oj hj hlj); ⟨e, he⟩) hk hv)
        unfold wpOpIn
        rw [show l.toArray[i]? = some o from by simpa using ho]
        simp only []
        split
        · rename_i hw
          rw [if_pos hw] at hq
          refine ⟨fr_about _ _ _ _ _, ?_⟩
          rw [Oper.semAt_eq _ _ _ (fun cc he => by simp [opOk, he] at hoo), ← hex]
          unfold QRun at hq
          revert hq
          generalize (execOp a'.eval o).run P w = res
          intro hq
          match res, hq with
          | .ok (.value v) w', ⟨hk, hv⟩ => exact hnext v w' hk hv
          | .ok (.enter f args) w', ⟨e, hcall⟩ =>
            subst e
            refine ⟨by simp [FR, Fence.wide], (calls_wide hcall).mono fun e w'' h => ?_⟩
            obtain ⟨v, rfl, hk, hv⟩ := h
            exact hnext v w'' hk hv
        · rename_i hw
          rw [if_neg hw] at hq
          exact ⟨fun _ _ => trivial, hnext undef w (.refl _ _) hq⟩

/-- **A REGION THAT DRAWS ITS ORDER.** -/
theorem tr_draw_plan {id : Nat} (hmix : P.follows .mixedOrders = true) (hck : regOk l m = true) (hp : Plan P c hs l.toArray (l.take m) sl [] S sl' rl')
    (tail : ∀ a w, St c D sl' hs a w → RelsOk rl' a w → WL P r l.toArray Q (l.drop m) a w) : Tr c D sl hs (WP P r (.region id l.toArray true) Q) := fun a w hst => by
  unfold WP
  refine wpIn_region_any hmix ?_
  refine phase1 (regOk_spec hck) hp hst.slots hst.size tail l.toArray.size _ a _ ⟨by simp, ?_, ?_, ?_, hst.defers, hst.size, fun t _ => rfl, ?_, List.range l.length, List.nodup_range, ?_, by simp⟩
  · exact fun k o _ hL => absurd hL (not_Ls _ _)
  · exact fun k _ hL => not_Ls _ _ hL
  · exact hst.mem.drew
  · exact fun j o _ hL => absurd hL (not_Ls _ _)
  · exact fun i => ⟨fun h => ⟨by simpa using h, not_Ls _ _⟩, fun h => by simpa using h.1⟩
end
end Go.SL
