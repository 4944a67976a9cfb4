/- Parts of the proof: GkRegK GkRegL. -/
import Derived.Test.YtfbgbipclgljaaaGreatDoorTM22
set_option linter.unusedSectionVars false
set_option linter.unusedVariables false
set_option linter.unusedSimpArgs false
/- GkRegK -/
/- Drawing regions, one of whose operations takes the memory that an earlier one of the same part has made: 'tk j' is who takes what operation j has made (0: nobody). -/
namespace Go.SL
open Go

theorem Mem.takeGives {c : Cx} {As hs' : List Asn} {w : World} (hm : Mem c (As ++ hs') w) : ∃ fp : List Nat, fp.Nodup ∧ Sats (hp w) As fp ∧
    ∀ (Bs : List Asn) (w' : World), Keeps fp w w' → (∃ fp' : List Nat, fp'.Nodup ∧ Sats (hp w') Bs fp' ∧ ∀ b ∈ fp', b ∈ fp ∨ w.heap.size ≤ b) → Mem c (Bs ++ hs') w' := by
  obtain ⟨kk, fp, hn, hsat, hb⟩ := hm
  obtain ⟨f1, f2, rfl, h1, h2⟩ := Sats.append_iff.1 hsat
  obtain ⟨n1, n2, n12⟩ := List.nodup_append.1 hn
  refine ⟨f1, n1, h1, fun Bs w' hk ⟨fp', hn', hs', hf'⟩ => ?_⟩
  have hlt : ∀ b ∈ f2, b < w.heap.size := fun b hb' => let ⟨o, ho⟩ := h2.own b hb'; hp_lt ho
  refine ⟨?_, fp' ++ f2, ?_, Sats.append_iff.2 ⟨fp', f2, rfl, hs', h2.loc fun b hb' => ?_⟩, ?_⟩
  · refine ⟨hk.os.trans kk.os, hk.tape.trans kk.tape, hk.output.trans kk.output, Nat.le_trans kk.size hk.size, fun b hb' hm => ?_⟩
    rw [← kk.block b hb' hm]
    refine hk.block b (Nat.lt_of_lt_of_le hb' kk.size) (fun hf => ?_)
    rcases hb b (List.mem_append_left _ hf) with h | h
    · omega
    · exact hm h
  · refine List.nodup_append.2 ⟨hn', n2, fun x hx y hy e => ?_⟩
    subst e
    rcases hf' x hx with h | h
    · exact n12 x h x hy rfl
    · have := hlt x hy; omega
  · exact hk.block b (hlt b hb') (fun hf => n12 b hf b hb' rfl)
  · intro b hb'
    rcases List.mem_append.1 hb' with h | h
    · rcases hf' b h with h | h
      · exact hb b (List.mem_append_left _ h)
      · exact .inl (Nat.le_trans kk.size h)
    · exact hb b (List.mem_append_right _ h)
theorem resF_split {β : Nat → Value} (p q : Nat → Bool) : ∀ (S : List StepP) (i : Nat), (resF β p S i).Perm (resF β (fun j => p j && q j) S i ++ resF β (fun j => p j && !q j) S i)
  | [], _ => .nil
  | s :: S, i => by
    have ih := resF_split (β := β) p q S (i + 1)
    unfold resF
    cases hp : p i <;> cases hq : q i <;> simp only [Bool.and_true, Bool.and_false, Bool.not_true, Bool.not_false, Bool.false_and, Bool.true_and, if_true, if_false, List.nil_append, reduceIte]
    · simpa using ih
    · simpa using ih
    · simp only [Bool.false_eq_true, if_false, List.nil_append]
      refine (ih.append_left _).trans ?_
      rw [← List.append_assoc, ← List.append_assoc]
      exact List.perm_append_comm.append_right _
    · simp only [Bool.false_eq_true, if_false, List.nil_append]
      rw [List.append_assoc]
      exact ih.append_left _
theorem resF_cut {β : Nat → Value} {q : Nat → Bool} : ∀ {S : List StepP} {n i : Nat}, (∀ j, i + n ≤ j → q j = false) → resF β q S i = resF β q (S.take n) i
  | [], n, i, _ => by rw [List.take_nil]
  | s :: S, 0, i, h => by
    rw [List.take_zero]
    unfold resF
    rw [h i (by omega), resF_cut (n := 0) fun j hj => h j (by omega), List.take_zero]; rfl
  | s :: S, n + 1, i, h => by
    rw [List.take_succ_cons]
    unfold resF
    rw [resF_cut (n := n) (i := i + 1) fun j hj => h j (by omega)]
/-- operation 'o' waits for 'j', or for one that waits for 'j' -/
def waitsT (l : List Oper) (o : Oper) (j : Nat) : Bool := waitsOn o j || (List.range l.length).any fun k => waitsOn o k && (match l[k]? with | some q => waitsOn q j | none => false)
/-- what is still there of what operation 'j' has made -/
def pk (tk : Nat → Nat) (lst : Nat → Bool) (j : Nat) : Bool := lst j && !(Nat.blt 0 (tk j) && lst (tk j))
/-- operation 'i' takes what 'j' has made -/
def takenB (tk : Nat → Nat) (i j : Nat) : Bool := Nat.blt 0 i && Nat.beq (tk j) i
section
variable {P : Program} {c : Cx} {D : List Nat} {sl : Slots} {hs : List Asn} {Q : Exit → Act → World → Prop} {l : List Oper} {m : Nat} {tk : Nat → Nat}
def MOutK (i : Nat) (s : StepP) (β : Nat → Value) (w : World) (fp0 : List Nat) (v : Value) (w' : World) : Prop := ∃ x, v = s.F (upd β i x) ∧ Keeps fp0 w w' ∧ ∃ fp : List Nat, fp.Nodup ∧ Sats (hp w') (s.A (upd β i x)) fp ∧ ∀ b ∈ fp, b ∈ fp0 ∨ w.heap.size ≤ b
structure StepK (P : Program) (c : Cx) (hs : List Asn) (l : List Oper) (tk : Nat → Nat) (i : Nat) (o : Oper) (SL : (Nat → Value) → Slots) (S : List StepP) (s : StepP) : Prop where
  indF : Indep l i s.F
  indA : Indep l i s.A
  run : ∃ B : List Nat, (∀ j ∈ B, waitsT l o j = true ∧ tk j = 0) ∧ ∀ β a w fp0, SlotsOk (SL β) a → Borrow c hs S B β w → Sats (hp w) (resF β (takenB tk i) S 0) fp0 → if Region.wanted o (yielded l.toArray a.tmps) = true then MRun P o a w (MOutK i s β w fp0) else MOutK i s β w fp0 undef w
  waits : ∀ j, tk j = i → 0 < i → waitsOn o j = true
inductive PlanK (P : Program) (c : Cx) (hs : List Asn) (l : List Oper) (tk : Nat → Nat) : Nat → List Oper → ((Nat → Value) → Slots) → List StepP → List StepP → ((Nat → Value) → Slots) → Prop
  | nil {i : Nat} {SL : (Nat → Value) → Slots} {S : List StepP} : PlanK P c hs l tk i [] SL S S SL
  | step {i d : Nat} {o : Oper} {rest : List Oper} {SL SL' : (Nat → Value) → Slots} {S S' : List StepP} {s : StepP} (hd : o.dst = some d) (hdn : d < c.nt) (h : StepK P c hs l tk i o SL S s)
      (t : PlanK P c hs l tk (i + 1) rest (fun β => (d, s.F β) :: SL β) (S ++ [s]) S' SL') : PlanK P c hs l tk i (o :: rest) SL S S' SL'
theorem PlanK.spec {i : Nat} {rest : List Oper} {SL SL' : (Nat → Value) → Slots} {S S' : List StepP} (h : PlanK P c hs l tk i rest SL S S' SL') : ∀ pre : List Oper, pre.length = i → S.length = i → PreOk sl pre SL S →
    S'.length = i + rest.length ∧ S <+: S' ∧ PreOk sl (pre ++ rest) SL' S' ∧ ∀ k o, i ≤ k → (pre ++ rest)[k]? = some o → ∃ d SLk s, o.dst = some d ∧ d < c.nt ∧ S'[k]? = some s ∧ PreOk sl ((pre ++ rest).take k) SLk (S'.take k) ∧ StepK P c hs l tk k o SLk (S'.take k) s := by
  induction h with
  | @nil i SL S =>
    intro pre hp hS hpre
    refine ⟨by simpa using hS, List.prefix_rfl, by simpa using hpre, fun k o hk ho => ?_⟩
    have := (List.getElem?_eq_some_iff.1 ho).1
    simp at this; omega
  | @step i d o rest SL SL' S S' s hd hdn hst t ih =>
    intro pre hp hS hpre
    obtain ⟨h1, h2, h3, h4⟩ := ih (pre ++ [o]) (by simp [hp]) (by simp [hS]) (hpre.step (by omega) hd)
    rw [List.append_assoc, List.singleton_append] at h3 h4
    have hpx : S <+: S' := (List.prefix_append S [s]).trans h2
    have hSi : S'[i]? = some s := by
      obtain ⟨r, rfl⟩ := h2
      rw [List.append_assoc, List.getElem?_append_right (by omega), hS]; simp
    have hSt : S'.take i = S := by
      obtain ⟨r, rfl⟩ := hpx
      rw [← hS]; simp
    refine ⟨by rw [h1]; simp; omega, hpx, h3, fun k ok hk ho => ?_⟩
    by_cases e : k = i
    · subst e
      have ho' : ok = o := by
        rw [List.getElem?_append_right (by omega), hp] at ho
        simpa using ho.symm
      subst ho'
      have htk : (pre ++ ok :: rest).take k = pre := by rw [← hp]; simp
      rw [htk, hSt]
      exact ⟨d, SL, s, hd, hdn, hSi, hpre, hst⟩
    · exact h4 k ok (by omega) ho

structure InvK (c : Cx) (D : List Nat) (hs : List Asn) (l : List Oper) (tk : Nat → Nat) (m : Nat) (S : List StepP) (a0 : Act) (fuel : Nat) (listed : Array Bool) (a : Act) (w : World) : Prop where
  sz : listed.size = l.length
  dc : DC l (Ls listed)
  hi : ∀ k, m ≤ k → ¬ Ls listed k
  defers : a.defers = D.map mark
  size : a.tmps.size = c.nt
  old : ∀ t, (∀ (j : Nat) (o : Oper), l[j]? = some o → Ls listed j → o.dst ≠ some t) → a.tmps[t]? = a0.tmps[t]?
  left : ∃ U : List Nat, U.Nodup ∧ (∀ i, i ∈ U ↔ i < l.length ∧ ¬ Ls listed i) ∧ U.length = fuel
  own : ∃ β : Nat → Value, Mem c (resF β (pk tk (fun i => listed.getD i false)) S 0 ++ (hs ++ mks D)) w ∧ ∀ (j : Nat) (o : Oper) (d : Nat) (s : StepP), l[j]? = some o → o.dst = some d → S[j]? = some s → Ls listed j → a.tmps[d]? = some (s.F β)

theorem phaseK {p : Nat} (hc : ChkL l m p) (hpx : p < m → PureAt l p) (hQp : ∀ c a w, ¬ Q (.panic c) a w) {S : List StepP} {SL' : (Nat → Value) → Slots} (hpM : PlanK P c hs l tk 0 (l.take m) (fun _ => sl) [] S SL') {a0 : Act} (h0 : SlotsOk sl a0) (hn0 : a0.tmps.size = c.nt)
    (tail : ∀ β a w, St c D (SL' β) (resF β (pk tk (fun i => Nat.blt i m)) S 0 ++ hs) a w → wpAnyIn (FR none) 0 P .any l.toArray Q (l.length - m) (Lend l.length m) a w) :
    ∀ (fuel : Nat) (listed : Array Bool) (a : Act) (w : World), InvK c D hs l tk m S a0 fuel listed a w → wpAnyIn (FR none) 0 P .any l.toArray Q fuel listed a w := by
  have hle := hc.le
  have hp0 : PreOk sl [] (fun _ => sl) [] := fun β t v hv => .inr ⟨fun oj h => (List.not_mem_nil h).elim, hv⟩
  obtain ⟨hSlen, _, hpre, hstep⟩ := hpM.spec (sl := sl) [] rfl rfl hp0
  rw [List.nil_append] at hpre hstep
  rw [Nat.zero_add, List.length_take, Nat.min_eq_left hle] at hSlen
  have htake : ∀ (j : Nat) (o : Oper), j < m → l[j]? = some o → (l.take m)[j]? = some o := fun j o hj ho => by rw [List.getElem?_take, if_pos hj]; exact ho
  have htake' : ∀ (j : Nat) (o : Oper), (l.take m)[j]? = some o → j < m ∧ l[j]? = some o := fun j o ho => by
    rw [List.getElem?_take] at ho
    split at ho
    · exact ⟨by assumption, ho⟩
    · cases ho
  have hSget : ∀ j, j < m → ∃ s, S[j]? = some s := fun j hj => ⟨S[j]'(by omega), List.getElem?_eq_getElem (by omega)⟩
  have hfin : ∀ fuel listed a w, InvK c D hs l tk m S a0 fuel listed a w → (∀ i, i < m → Ls listed i) → wpAnyIn (FR none) 0 P .any l.toArray Q fuel listed a w := by
    intro fuel listed a w hI hall
    have hL : ∀ i, i < l.length → (Ls listed i ↔ i < m) := fun i _ => ⟨fun h => Nat.lt_of_not_le fun hm => hI.hi i hm h, hall i⟩
    obtain ⟨U, hU1, hU2, hU3⟩ := hI.left
    have hperm : U.Perm (List.range' m (l.length - m)) := by
      rw [List.perm_ext_iff_of_nodup hU1 (List.nodup_range')]
      intro i
      rw [hU2 i, List.mem_range'_1]
      constructor
      · rintro ⟨h1, h2⟩
        exact ⟨Nat.le_of_not_lt fun h => h2 (hall i h), by omega⟩
      · rintro ⟨h1, h2⟩
        exact ⟨by omega, hI.hi i h1⟩
    have hlen : fuel = l.length - m := by rw [← hU3, hperm.length_eq, List.length_range']
    have hlst : listed = Lend l.length m := by
      have hsz2 : (Lend l.length m).size = l.length := by simp [Lend]; omega
      apply Array.ext
      · rw [hI.sz, hsz2]
      · intro i h1 h2
        rw [hI.sz] at h1
        have h3 := hL i h1
        unfold Ls at h3
        rw [Array.getD_eq_getD_getElem?, Array.getElem?_eq_getElem (by rw [hI.sz]; exact h1), Option.getD_some] at h3
        have h4 : (Lend l.length m)[i] = decide (i < m) := by
          simp only [Lend, List.getElem_toArray]
          by_cases hi : i < m
          · rw [List.getElem_append_left (by simpa using hi)]; simp [hi]
          · rw [List.getElem_append_right (by simpa using hi)]; simp [hi]
        rw [h4]
        by_cases hi : i < m
        · rw [h3.2 hi]; simp [hi]
        · have : ¬ listed[i] = true := fun h => hi (h3.1 h)
          simp [hi, this]
    subst hlen
    rw [hlst]
    obtain ⟨β, hm, hval⟩ := hI.own
    have hll : ∀ i, listed.getD i false = Nat.blt i m := fun i => by
      by_cases hi : i < m
      · rw [show Nat.blt i m = true from by simpa [Nat.blt_eq] using hi]; exact hall i hi
      · have h1 : ¬ listed.getD i false = true := hI.hi i (by omega)
        have h2 : ¬ Nat.blt i m = true := by simpa [Nat.blt_eq] using hi
        rw [Bool.not_eq_true] at h1 h2
        rw [h1, h2]
    have e : resF β (pk tk (fun i => listed.getD i false)) S 0 = resF β (pk tk (fun i => Nat.blt i m)) S 0 := resF_same fun j s hj => ⟨by unfold pk; simp only [hll], fun _ => rfl⟩
    rw [e] at hm
    refine tail β a w ⟨by rw [List.append_assoc]; exact hm, fun t v hv => ?_, hI.size, hI.defers⟩
    rcases hpre β t v hv with ⟨j, oj, s, h1, h2, h3, h4⟩ | ⟨h1, h2⟩
    · obtain ⟨hjm, hj'⟩ := htake' j oj h1
      rw [h4]; exact hval j oj t s hj' h2 h3 (hall j hjm)
    · rw [hI.old t fun j oj hj hLj => h1 oj (List.mem_of_getElem? (htake j oj (Nat.lt_of_not_le fun hm => hI.hi j hm hLj) hj))]
      exact h0 t v h2
  intro fuel
  induction fuel with
  | zero =>
    intro listed a w hI
    obtain ⟨U, _, hU2, hU3⟩ := hI.left
    have hU : U = [] := List.length_eq_zero_iff.1 hU3
    refine hfin 0 listed a w hI fun i hi => Classical.byContradiction fun hn => ?_
    have := (hU2 i).2 ⟨by omega, hn⟩
    rw [hU] at this; cases this
  | succ fuel ih =>
    intro listed a w hI
    by_cases hall : ∀ i, i < m → Ls listed i
    · exact hfin _ listed a w hI hall
    · have hex : ∃ i, i < m ∧ ¬ Ls listed i := Classical.byContradiction fun hh => hall fun i hi => Classical.byContradiction fun hn => hh ⟨i, hi, hn⟩
      obtain ⟨i0, hi0, hn0'⟩ := hex
      have main : ∀ i, i ∈ Region.ready .any l.toArray listed → i < m → wpOpIn (FR none) 0 P l.toArray Q i (wpAnyIn (FR none) 0 P .any l.toArray Q fuel (listed.setIfInBounds i true)) a w ∧ (i = p → wpAnyIn (FR none) 0 P .any l.toArray Q (fuel + 1) listed a w) := by
        intro i hi him
        obtain ⟨o, ho, hn, hdeps⟩ := (mem_ready' hI.sz).1 hi
        obtain ⟨d, SLk, s, hd, hdn, hSi, hprek, hok⟩ := hstep i o (Nat.zero_le _) (htake i o him ho)
        obtain ⟨indF, indA, ⟨B, hB, hrun⟩, hwaits⟩ := hok
        obtain ⟨β, hm, hval⟩ := hI.own
        have hwait : ∀ (j : Nat), waitsOn o j = true → Ls listed j := fun j hw => by
          obtain ⟨e, he, hb, hon⟩ := waitsOn_spec hw
          rw [← hon]; exact hdeps e he hb
        have hwaitT : ∀ (j : Nat), waitsT l o j = true → Ls listed j := fun j hw => by
          unfold waitsT at hw
          rw [Bool.or_eq_true] at hw
          rcases hw with hw | hw
          · exact hwait j hw
          · obtain ⟨k, _, hk⟩ := List.any_eq_true.1 hw
            rw [Bool.and_eq_true] at hk
            have hLk := hwait k hk.1
            cases hq : l[k]? with
            | none => rw [hq] at hk; cases hk.2
            | some q =>
              rw [hq] at hk
              obtain ⟨e, he, hb, hon⟩ := waitsOn_spec hk.2
              rw [← hon]
              exact hI.dc k q hq hLk e he hb
        have hdist : ∀ (j : Nat) (oj : Oper) (e : Nat), l[j]? = some oj → j < m → j ≠ i → oj.dst = some e → d ≠ e := by
          intro j oj e hj hjm hne he
          rcases Nat.lt_or_ge j i with h | h
          · exact fun e' => (pair_spec (pair_atL hc h him hj ho) he hd).1 e'.symm
          · exact (pair_spec (pair_atL hc (show i < j by omega) hjm ho hj) hd he).1
        have hil : i < listed.size := by rw [hI.sz]; omega
        have hoo : opOk o = true := hc.op o (List.mem_of_getElem? ho)
        -- the slots that the operation looks at
        have hT : ∀ t ∈ o.looksAt l.toArray, ∀ v, sget (SLk β) t = some v → a.tmps[t]? = some v := by
          intro t ht v hv
          rcases hprek β t v hv with ⟨j, oj, sj, h1, h2, h3, h4⟩ | ⟨h1, h2⟩
          · have hji : j < i := by have := (List.getElem?_eq_some_iff.1 h1).1; rw [List.length_take] at this; omega
            rw [List.getElem?_take, if_pos hji] at h1 h3
            obtain ⟨hjm, hj'⟩ := htake' j oj h1
            have hLj := hwait j ((pair_spec (pair_atL hc hji him hj' ho) h2 hd).2 (.inl ht))
            rw [h4]; exact hval j oj t sj hj' h2 h3 hLj
          · rw [hI.old t fun j oj hj hLj hdj => ?_]
            · exact h0 t v h2
            · have hjm : j < m := Nat.lt_of_not_le fun hm => hI.hi j hm hLj
              rcases Nat.lt_trichotomy j i with h | h | h
              · exact h1 oj (List.mem_of_getElem? (by rw [List.getElem?_take, if_pos h]; exact htake j oj hjm hj)) hdj
              · subst h; exact hn hLj
              · have hw := (pair_spec (pair_atL hc h hjm ho hj) hd hdj).2 (.inr ht)
                obtain ⟨e, he, hb, hon⟩ := waitsOn_spec hw
                have := hI.dc j oj hj hLj e he hb
                rw [hon] at this
                exact hn this
        have hkey : ∀ t v, sget (SLk β) t = some v → t < c.nt := by
          intro t v hv
          rcases hprek β t v hv with ⟨j, oj, sj, h1, h2, _, _⟩ | ⟨_, h2⟩
          · have hji : j < i := by have := (List.getElem?_eq_some_iff.1 h1).1; rw [List.length_take] at this; omega
            rw [List.getElem?_take, if_pos hji] at h1
            obtain ⟨d', _, _, hd', hdn', _⟩ := hstep j oj (Nat.zero_le _) h1
            rw [h2] at hd'; cases hd'
            exact hdn'
          · have := h0 t v h2
            rw [← hn0]
            exact (Array.getElem?_eq_some_iff.1 this).1
        obtain ⟨a', ha1, ha2, _⟩ := fill_act hI.size hkey hT
        have hbor : Borrow c hs (S.take i) B β w := by
          rintro A (rfl | ⟨j, hj, sj, h1, rfl⟩)
          · exact hm.sublist ((List.sublist_append_left _ _).trans (List.sublist_append_right _ _))
          · have hji : j < i := by have := (List.getElem?_eq_some_iff.1 h1).1; rw [List.length_take] at this; omega
            rw [List.getElem?_take, if_pos hji] at h1
            have hLj := hwaitT j (hB j hj).1
            exact hm.sublist ((resF_sub (lst := pk tk (fun i => listed.getD i false)) (i := 0) h1 (by rw [Nat.zero_add]; unfold pk; dsimp only; rw [(hB j hj).2, show listed.getD j false = true from hLj]; rfl)).append (List.sublist_append_left _ _))
        have hli : listed.getD i false = false := by have h : ¬ listed.getD i false = true := hn; simpa using h
        have htw : ∀ j, takenB tk i j = true → waitsOn o j = true := fun j h => by
          unfold takenB at h
          rw [Bool.and_eq_true] at h
          exact hwaits j (by simpa using h.2) (by simpa [Nat.blt_eq] using h.1)
        have htj : ∀ j, takenB tk i j = true → j < i := fun j h => by
          obtain ⟨e, he, hb, hon⟩ := waitsOn_spec (htw j h)
          have := acyc_spec hc.ac ho e he hb
          omega
        have hpk : ∀ j, takenB tk i j = true → pk tk (fun i => listed.getD i false) j = true := fun j h => by
          have h1 : listed.getD j false = true := hwait j (htw j h)
          have h2 : tk j = i := by unfold takenB at h; rw [Bool.and_eq_true] at h; simpa using h.2
          unfold pk; dsimp only
          rw [h1, h2, hli]
          simp
        have etk : resF β (fun j => pk tk (fun i => listed.getD i false) j && takenB tk i j) S 0 = resF β (takenB tk i) (S.take i) 0 := by
          rw [resF_cut (n := i) fun j hj => by
            rw [Nat.zero_add] at hj
            cases ht : takenB tk i j with
            | false => rw [Bool.and_false]
            | true => have := htj j ht; omega]
          refine resF_same fun j sj _ => ⟨?_, fun _ => rfl⟩
          rw [Nat.zero_add]
          cases ht : takenB tk i j with
          | false => rw [Bool.and_false]
          | true => rw [hpk j ht]; rfl
        have hmS := hm.perm ((resF_split (β := β) (pk tk (fun i => listed.getD i false)) (takenB tk i) S 0).append_right _)
        rw [List.append_assoc, etk] at hmS
        obtain ⟨fp0, _, hsat0, hgive⟩ := Mem.takeGives hmS
        have hq := hrun β a' w fp0 ha1 hbor hsat0
        have hex := exec_of_same (o := o) (ops := l.toArray) hoo ha2
        -- what a done operation says does not hang on this one
        have hdone : ∀ j, Ls listed j → ∀ x k, ancB l j k = true → β k = upd β i x k := by
          intro j hLj x k hk
          refine (upd_ne fun e => ?_).symm
          subst e
          unfold ancB at hk
          rw [Bool.or_eq_true] at hk
          rcases hk with hk | hk
          · have : j = k := by simpa using hk
            subst this; exact hn hLj
          · have hjl : j < l.length := by
              have hjm : j < m := Nat.lt_of_not_le fun hm => hI.hi j hm hLj
              omega
            exact hn (masks_sound hI.dc hc.ac j hjl hLj k hk)
        have hnext : ∀ v w', MOutK i s β w fp0 v w' → wpAnyIn (FR none) 0 P .any l.toArray Q fuel (listed.setIfInBounds i true) (a.put o.dst v) w' := by
          rintro v w' ⟨x, rfl, hk, fp, hnd, hsat, hfr⟩
          refine ih _ _ _ ⟨by simpa using hI.sz, ?_, ?_, by rw [hd]; exact hI.defers, by simpa [Act.put, hd] using hI.size, ?_, ?_, upd β i x, ?_, ?_⟩
          · intro k ok hk' hL e he hb
            rw [getD_set hil] at hL ⊢
            rcases hL with e' | hL
            · subst e'
              rw [ho] at hk'; cases hk'
              exact .inr (hdeps e he hb)
            · exact .inr (hI.dc k ok hk' hL e he hb)
          · intro k hk' hL
            rw [getD_set hil] at hL
            rcases hL with e | hL
            · omega
            · exact hI.hi k hk' hL
          · intro t ht
            have h1 : d ≠ t := fun e => by subst e; exact ht i o ho ((getD_set hil).2 (.inl rfl)) hd
            rw [hd]
            simp only [Act.put, Array.getElem?_setIfInBounds_ne h1]
            exact hI.old t fun j oj hj hL => ht j oj hj ((getD_set hil).2 (.inr hL))
          · obtain ⟨U, hU1, hU2, hU3⟩ := hI.left
            refine ⟨U.erase i, hU1.erase i, fun k => ?_, ?_⟩
            · rw [hU1.mem_erase_iff, hU2 k, getD_set hil]
              constructor
              · rintro ⟨h1, h2, h3⟩
                exact ⟨h2, fun h => h.elim h1 h3⟩
              · rintro ⟨h1, h2⟩
                exact ⟨fun e => h2 (.inl e), h1, fun h => h2 (.inr h)⟩
            · have hiU : i ∈ U := (hU2 i).2 ⟨by omega, hn⟩
              rw [List.length_erase_of_mem hiU, hU3]; rfl
          · have hm2 := hgive _ w' hk ⟨fp, hnd, hsat, hfr⟩
            have e1 : resF β (fun j => pk tk (fun i => listed.getD i false) j && !takenB tk i j) S 0 = resF (upd β i x) (fun j => pk tk (fun i => listed.getD i false) j && !takenB tk i j) S 0 := resF_same fun j sj hj => by
              refine ⟨rfl, fun hl => ?_⟩
              rw [Nat.zero_add] at hl
              have hl : listed.getD j false = true := by
                unfold pk at hl
                simp only [Bool.and_eq_true] at hl
                exact hl.1.1
              have hjm : j < m := by have := (List.getElem?_eq_some_iff.1 hj).1; omega
              obtain ⟨oj, hoj⟩ : ∃ oj, l[j]? = some oj := ⟨l[j]'(by omega), List.getElem?_eq_getElem (by omega)⟩
              obtain ⟨_, _, s2, _, _, hs2, _, hok2⟩ := hstep j oj (Nat.zero_le _) (htake j oj hjm hoj)
              rw [hj] at hs2; cases hs2
              exact hok2.indA _ _ (hdone j hl x)
            rw [e1, ← List.append_assoc] at hm2
            have hset : ∀ k, (listed.setIfInBounds i true).getD k false = (listed.getD k false || Nat.beq k i) := fun k => by
              by_cases hki : k = i
              · subst hki
                rw [show Nat.beq k k = true by simp, Bool.or_true]
                exact (getD_set hil).2 (.inl rfl)
              · rw [show Nat.beq k i = false from Bool.eq_false_iff.2 fun h => hki (Nat.eq_of_beq_eq_true h), Bool.or_false]
                simp [Array.getD_eq_getD_getElem?, Array.getElem?_setIfInBounds_ne (Ne.symm hki)]
            refine hm2.perm ((resF_add (k := i) hSi ?_ ?_ ?_).append_right _)
            · rw [Nat.zero_add]
              unfold pk; dsimp only
              rw [hli]; rfl
            · rw [Nat.zero_add]
              unfold pk; dsimp only
              rw [hset, show Nat.beq i i = true by simp, Bool.or_true, Bool.true_and]
              by_cases ht0 : tk i = 0
              · rw [ht0]; rfl
              · have htp : 0 < tk i := Nat.pos_of_ne_zero ht0
                have hnl : listed.getD (tk i) false = false := by
                  cases hh : listed.getD (tk i) false with
                  | false => rfl
                  | true =>
                    exfalso
                    have hLt : Ls listed (tk i) := hh
                    have htm : tk i < m := Nat.lt_of_not_le fun hm => hI.hi _ hm hLt
                    obtain ⟨ot, hot⟩ : ∃ ot, l[tk i]? = some ot := ⟨l[tk i]'(by omega), List.getElem?_eq_getElem (by omega)⟩
                    obtain ⟨_, _, _, _, _, _, _, hokt⟩ := hstep (tk i) ot (Nat.zero_le _) (htake _ ot htm hot)
                    obtain ⟨e, he, hb, hon⟩ := waitsOn_spec (hokt.waits i rfl htp)
                    have := hI.dc (tk i) ot hot hLt e he hb
                    rw [hon] at this
                    exact hn this
                have hne : Nat.beq (tk i) i = false := by
                  cases hh : Nat.beq (tk i) i with
                  | false => rfl
                  | true =>
                    exfalso
                    have e : tk i = i := by simpa using hh
                    have := htj i (by unfold takenB; rw [hh, Bool.and_true]; rw [e] at htp; simpa [Nat.blt_eq] using htp)
                    omega
                rw [hset, hnl, hne]; simp
            · intro j hj
              rw [Nat.zero_add] at hj
              unfold pk; dsimp only
              rw [hset, hset, show Nat.beq j i = false from Bool.eq_false_iff.2 fun h => hj (Nat.eq_of_beq_eq_true h), Bool.or_false]
              unfold takenB
              cases h1 : Nat.beq (tk j) i with
              | false => simp
              | true =>
                have e : tk j = i := by simpa using h1
                rw [e, hli]
                cases Nat.blt 0 i <;> simp
          · intro j oj e sj hj he hSj hL
            rw [getD_set hil] at hL
            by_cases hji : j = i
            · subst hji
              rw [ho] at hj; cases hj
              rw [hd] at he; cases he
              rw [hSi] at hSj; cases hSj
              rw [hd]
              simp [Act.put, hI.size, hdn]
            · have hL' := hL.resolve_left hji
              have hjm : j < m := Nat.lt_of_not_le fun hm => hI.hi j hm hL'
              obtain ⟨_, _, s2, _, _, hs2, _, hok2⟩ := hstep j oj (Nat.zero_le _) (htake j oj hjm hj)
              rw [hSj] at hs2; cases hs2
              rw [hd]
              simp only [Act.put, Array.getElem?_setIfInBounds_ne (hdist j oj e hj hjm hji he)]
              rw [← hok2.indF _ _ (hdone j hL' x)]
              exact hval j oj e sj hj he hSj hL'
        have hq0 := hq
        refine ⟨?_, fun hip => ?_⟩
        rotate_left
        · subst hip
          obtain ⟨d', x', k', ty', pos', af', hl', hsel, hfree⟩ := hpx him
          rw [ho] at hl'; cases hl'
          rw [if_pos (by simp [Region.wanted])] at hq0
          unfold MRun at hq0
          obtain ⟨v, hv, hall2⟩ := ext_pure hq0
          have hfr : Region.free .any l.toArray listed i = true := free_mono hfree fun j hj hne hb => by
            have hj' : j < l.length := by simpa using hj
            have hb' : ((masks l []).getD i 0).testBit j = true := by
              rw [Array.getD_eq_getD_getElem?] at hb
              simpa [hj'] using hb
            have hjs : j < listed.size := by rw [hI.sz]; exact hj'
            rcases ready_anc hc.ac hI.sz hI.dc hi hb' with e | hL
            · exact absurd e hne
            · unfold Ls at hL
              rw [Array.getD_eq_getD_getElem?, Array.getElem?_eq_getElem hjs] at hL ⊢
              exact hL
          refine wpAnyIn_take (oi := ⟨some d', .extract x' k', ty', pos', af', none⟩) (v := v) rfl (by simpa using ho) hsel hfr (by simpa using hi) (fun c a w h => (hQp c _ w h).elim) ⟨.inl ⟨by simp [Region.wanted], fun w2 => by rw [← hex]; exact hall2 w2⟩, fun w2 => rfl⟩ (hnext v w hv)
        unfold wpOpIn
        rw [show l.toArray[i]? = some o from by simpa using ho]
        simp only []
        rw [wanted_of_same ha2] at hq
        split
        · rename_i hw
          rw [if_pos hw] at hq
          refine ⟨fr_about _ _ _ _ _, ?_⟩
          rw [Oper.semAt_eq _ _ _ (fun cc he => by simp [opOk, he] at hoo), ← hex]
          unfold MRun at hq
          revert hq
          generalize (execOp a'.eval o).run P w = res
          intro hq
          match res, hq with
          | .ok (.value v) w', hq => exact hnext v w' hq
          | .ok (.enter f args) w', ⟨e, hcall⟩ =>
            subst e
            refine ⟨by simp [FR, Fence.wide], (calls_wide hcall).mono fun e w'' h => ?_⟩
            obtain ⟨v, rfl, hq⟩ := h
            exact hnext v w'' hq
        · rename_i hw
          rw [if_neg hw] at hq
          exact ⟨fun _ _ => trivial, hnext undef w hq⟩
      by_cases hp : p < m ∧ p ∈ Region.ready .any l.toArray listed
      · exact (main p hp.2 hp.1).2 rfl
      · refine ⟨fun hr => ?_, fun i hi => ?_⟩
        · obtain ⟨i, hi⟩ := least_ready hI.sz hc.ac ⟨i0, by omega, hn0'⟩
          rw [hr] at hi; cases hi
        · have him : i < m := Nat.lt_of_not_le fun hm => by
            have hmk := ready_maskL hc hI.sz hI.dc hi hm
            by_cases hpm : p < m
            · by_cases hLp : Ls listed p
              · exact hn0' (by
                  by_cases e : i0 = p
                  · rw [e]; exact hLp
                  · exact hmk i0 hi0 e)
              · refine hp ⟨hpm, (mem_ready' hI.sz).2 ⟨l[p]'(by omega), List.getElem?_eq_getElem (by omega), hLp, fun e he hb => ?_⟩⟩
                have hlt := acyc_spec hc.ac (List.getElem?_eq_getElem (show p < l.length by omega)) e he hb
                exact hmk e.on (by omega) (by omega)
            · exact hn0' (hmk i0 hi0 (by omega))
          exact (main i hi him).1

/-- the plan so far: 'n' operations of the first part are still to come -/
def AnyK (tk : Nat → Nat) (P : Program) (c : Cx) (D : List Nat) (hs : List Asn) (l : List Oper) (Q : Exit → Act → World → Prop) (m i n : Nat) (rest : List Oper) (SL : (Nat → Value) → Slots) (S : List StepP) : Prop :=
  ∃ S' SL', PlanK P c hs l tk i (rest.take n) SL S S' SL' ∧ ∀ β, Tr c D (SL' β) (resF β (pk tk (fun i => Nat.blt i m)) S' 0 ++ hs) (Left P l.toArray Q (l.length - m) (Lend l.length m))

theorem tr_drawK {id : Nat} (m : Nat) (tk : Nat → Nat) [hmix : Mix P] (hck : regOkL l m = true) (k : AnyK tk P c D hs l Q m 0 m l (fun _ => sl) []) : Tr c D sl hs (WP P none (.region id l.toArray true) Q) := fun a w hst => by
  obtain ⟨S, SL', hp, ht⟩ := k
  have h : (Code.region id l.toArray true).wpIn (FR none) 0 P (NP Q) a w := wpIn_region_any hmix.eq (by
    refine phaseK (tk := tk) (p := m) (regOkP_spec hck) (fun h => absurd h (Nat.lt_irrefl _)) (fun c a w h => h.elim) hp hst.slots hst.size (fun β a w hst => ht β a w hst) l.toArray.size _ _ _ ⟨by simp, ?_, ?_, hst.defers, hst.size, fun t _ => rfl, ?_, fun _ => undef, ?_, ?_⟩
    · exact fun k o _ hL => absurd hL (not_Ls _ _)
    · exact fun k _ hL => not_Ls _ _ hL
    · exact ⟨List.range l.length, List.nodup_range, fun i => ⟨fun h => ⟨by simpa using h, not_Ls _ _⟩, fun h => by simpa using h.1⟩, by simp⟩
    · have e : ∀ (T : List StepP) (i : Nat), resF (fun _ => undef) (pk tk (fun i => (Array.replicate l.toArray.size false).getD i false)) T i = [] := by
        intro T
        induction T with
        | nil => intro i; rfl
        | cons s T ih =>
          intro i
          have := not_Ls l.toArray.size i
          unfold Ls at this
          unfold resF
          rw [if_neg (by unfold pk; simp only [Bool.and_eq_true]; exact fun h => this h.1), ih]; rfl
      rw [e]
      exact hst.mem.drew
    · exact fun j o d s _ _ _ hL => absurd hL (not_Ls _ _))
  exact wpIn_mono h fun e a' w' h => by
    cases e with
    | panic c => exact h.elim
    | _ => exact h
end
end Go.SL


/- GkRegL -/
/- The steps of a plan with one taker (GkRegK): operation i0 takes what j0 has made. -/
namespace Go.SL
open Go
def tkOf : List (Nat × Nat) → Nat → Nat
  | [], _ => 0
  | p :: r, j => bif Nat.beq p.1 j then p.2 else tkOf r j
theorem tkOf_no : ∀ {tks : List (Nat × Nat)} {i j : Nat}, (tks.all fun p => !Nat.beq p.2 i) = true → tkOf tks j = i → 0 < i → False
  | [], i, j, _, h, hp => by
    have h : 0 = i := h
    omega
  | p :: r, i, j, h, h2, hp => by
    rw [List.all_cons, Bool.and_eq_true] at h
    unfold tkOf at h2
    cases e : Nat.beq p.1 j with
    | true => rw [e] at h2; have h2 : p.2 = i := h2; rw [h2] at h; simp at h
    | false => rw [e] at h2; exact tkOf_no h.2 h2 hp
theorem tkOf_only : ∀ {tks : List (Nat × Nat)} {i jx : Nat}, (tks.all fun p => !Nat.beq p.2 i || Nat.beq p.1 jx) = true → Nat.blt 0 i = true → ∀ k, tkOf tks k = i → k = jx
  | [], i, jx, _, h0, k, h => by
    have h : 0 = i := h
    subst h; cases h0
  | p :: r, i, jx, h, h0, k, hk => by
    rw [List.all_cons, Bool.and_eq_true] at h
    unfold tkOf at hk
    cases e : Nat.beq p.1 k with
    | true =>
      rw [e] at hk
      have hk : p.2 = i := hk
      have h1 := h.1
      rw [hk, show Nat.beq i i = true by simp] at h1
      have e1 := Nat.eq_of_beq_eq_true e
      have e2 := Nat.eq_of_beq_eq_true (show Nat.beq p.1 jx = true by simpa using h1)
      omega
    | false => rw [e] at hk; exact tkOf_only h.2 h0 k hk
section
variable {P : Program} {c : Cx} {D : List Nat} {sl : Slots} {hs hs' : List Asn} {X : Act → World → Prop} {Q : Exit → Act → World → Prop} {l : List Oper} {m i n d : Nat} {tks : List (Nat × Nat)} {op : Op} {ty : TypeId} {pos : String} {af : Array Edge} {rest : List Oper} {SL : (Nat → Value) → Slots} {S : List StepP}
theorem ak_step {o : Oper} {s : StepP} (hd : o.dst = some d) (hdn : Nat.blt d c.nt = true) (h : StepK P c hs l (tkOf tks) i o SL S s) (k : AnyK (tkOf tks) P c D hs l Q m (i + 1) n rest (fun β => (d, s.F β) :: SL β) (S ++ [s])) : AnyK (tkOf tks) P c D hs l Q m i (n + 1) (o :: rest) SL S := by
  obtain ⟨S', SL', hp, ht⟩ := k
  exact ⟨S', SL', .step hd (by simpa [Nat.blt_eq] using hdn) h hp, ht⟩
theorem ak_end (k : ∀ β, Tr c D (SL β) (resF β (pk (tkOf tks) (fun i => Nat.blt i m)) S 0 ++ hs) (Left P l.toArray Q (l.length - m) (Lend l.length m))) : AnyK (tkOf tks) P c D hs l Q m i 0 rest SL S :=
  ⟨S, SL, .nil, k⟩
theorem resF_one {β : Nat → Value} {p : Nat → Bool} {s : StepP} : ∀ {S : List StepP} {i jx : Nat}, S[jx]? = some s → (∀ k, p k = Nat.beq k (i + jx)) → resF β p S i = s.A β
  | [], _, _, h, _ => by simp at h
  | s0 :: S, i, 0, h, hp => by
    simp only [List.getElem?_cons_zero, Option.some.injEq] at h
    subst h
    unfold resF
    rw [hp i, show Nat.beq i (i + 0) = true by simp, if_pos rfl]
    have : resF β p S (i + 1) = [] := by
      have h := resF_cut (β := β) (q := p) (S := S) (n := 0) (i := i + 1) fun j hj => by
        rw [hp j]
        exact Bool.eq_false_iff.2 fun e => by have := Nat.eq_of_beq_eq_true e; omega
      rw [h, List.take_zero]; rfl
    rw [this, List.append_nil]
  | s0 :: S, i, jx + 1, h, hp => by
    unfold resF
    rw [hp i, show Nat.beq i (i + (jx + 1)) = false from Bool.eq_false_iff.2 fun e => by have := Nat.eq_of_beq_eq_true e; omega]
    simp only [Bool.false_eq_true, if_false, List.nil_append]
    exact resF_one (i := i + 1) (jx := jx) (by simpa using h) fun k => by rw [hp k, show i + (jx + 1) = i + 1 + jx by omega]
/-- append to what an earlier operation has made, and this one takes -/
theorem ak_append {t e : TypeId} {agg : Bool} {size bytes jx n0 : Nat} {z : Value} {x y : Operand} {Vx Vy : (Nat → Value) → Value} {Ax : (Nat → Value) → List Asn} {xs : List Value} {news : List (List Value)} [hu : Und P t (.slice e)] [hT : Ty P e agg size] [hZ : Zer P e z] [hBy : Byt P e bytes] (B : List Nat)
    (hB : (B.all fun j => waitsT l ⟨some d, .call ⟨.builtin .append, #[x, y], #[t, t]⟩, ty, pos, af, none⟩ j && Nat.beq (tkOf tks j) 0) = true)
    (hS : S[jx]? = some ⟨Vx, Ax⟩) (hrow : ∀ β w fp, Sats (hp w) (Ax β) fp → (row e size (Vx β) n0 xs).sat (hp w) fp)
    (htk : ∀ k, tkOf tks k = i → k = jx) (hti : tkOf tks jx = i) (h0 : Nat.blt 0 i = true) (hwx : waitsOn ⟨some d, .call ⟨.builtin .append, #[x, y], #[t, t]⟩, ty, pos, af, none⟩ jx = true)
    (hx : ∀ β, Is (SL β) x (Vx β)) (hy : ∀ β, Is (SL β) y (Vy β)) (hsrc : ∀ β w, Borrow c hs S B β w → Rd w (Vy β) size news) (h1 : ∀ r ∈ news, ∀ u ∈ r, u.oneCell' = true) (hz : z.cells.size = size) (hsz : Nat.blt 0 size = true) (hb0 : Nat.blt 0 bytes = true)
    (hb : (n0 + news.length) * bytes ≤ 140737488355328) (hd : Nat.blt d c.nt = true)
    (k : AnyK (tkOf tks) P c D hs l Q m (i + 1) n rest (fun β => (d, β i) :: SL β) (S ++ [⟨fun β => β i, fun β => [row e size (β i) (n0 + news.length) (xs ++ news.flatten)]⟩])) :
    AnyK (tkOf tks) P c D hs l Q m i (n + 1) (⟨some d, .call ⟨.builtin .append, #[x, y], #[t, t]⟩, ty, pos, af, none⟩ :: rest) SL S := by
  refine ak_step (s := ⟨fun β => β i, fun β => [row e size (β i) (n0 + news.length) (xs ++ news.flatten)]⟩) rfl hd ⟨fun β β' h => by simp only [h i (anc_self l i)], fun β β' h => by simp only [h i (anc_self l i)], ⟨B, fun j hj => ?_, fun β a w fp0 hsl hbor hsat => ?_⟩, fun j hj _ => by rw [htk j hj]; exact hwx⟩ k
  · have := List.all_eq_true.1 hB j hj
    rw [Bool.and_eq_true] at this
    exact ⟨this.1, by simpa using this.2⟩
  rw [if_pos (by simp [Region.wanted])]
  rw [resF_one (i := 0) hS fun k => by
    rw [Nat.zero_add]
    unfold takenB
    rw [h0, Bool.true_and]
    by_cases e : k = jx
    · subst e; rw [hti]; simp
    · rw [show Nat.beq k jx = false from Bool.eq_false_iff.2 fun h => e (Nat.eq_of_beq_eq_true h)]
      exact Bool.eq_false_iff.2 fun h => e (htk k (Nat.eq_of_beq_eq_true h))] at hsat
  have hr0 := hrow β w fp0 hsat
  have hR := hsrc β w hbor
  have hvx := hx β a hsl
  have hvy := hy β a hsl
  have hlen := flat_len hR.sz
  by_cases hne : news = []
  · subst hne
    obtain ⟨aa, cap, b, o, hV, _⟩ := hR
    rw [hV] at hvy
    have hsh : (Vx β = .slice none 0 0 ∧ n0 = 0) ∨ ∃ g cap, Vx β = .slice (some ⟨g, 0, none⟩) n0 cap ∧ n0 ≤ cap := by
      obtain ⟨_, _, h1⟩ := hr0
      exact h1.imp id fun ⟨g, cap, cur, e, _, hc, _⟩ => ⟨g, cap, e, hc⟩
    have hrun : (execOp a.eval ⟨some d, .call ⟨.builtin .append, #[x, y], #[t, t]⟩, ty, pos, af, none⟩).run P w = .ok (.value (Vx β)) w := by
      have := run_append0 (P := P) (t := t) (e := e) (ty := ty) (w := w) (agg := agg) (size := size) (a := aa) (cp := cap) hsh
      simp only [List.length_nil] at hvy
      simp [execOp, resolve, invoke, builtin, hvx, hvy, this]
    unfold MRun
    rw [hrun]
    refine ⟨Vx β, by simp only [upd_at], .refl _ _, fp0, ?_, ⟨fp0, [], by simp, ?_, rfl⟩, fun b hb => .inl hb⟩
    · rw [hr0.1]; cases (Vx β).ownBlock <;> simp
    · simp only [upd_at, List.length_nil, Nat.add_zero, List.flatten_nil, List.append_nil]
      exact hr0
  · obtain ⟨aa, cap, b2, o2, hV, hcap, hmax, haa, hcc⟩ := hR
    have := haa hne
    subst this
    rw [hV] at hvy
    obtain ⟨de, ii, hde, hii, _, hsize⟩ := Ty.parts (P := P) (t := e) (agg := agg) (n := size)
    have hzero : ii.zero = some z := by have := hZ.eq; rw [hii] at this; simpa using this
    have hbytes : ii.bytes = bytes := by have := hBy.eq; rw [hii] at this; simpa using this
    have hbpos : 0 < bytes := by simpa using hb0
    have hown := row_owns hr0
    have hmaxn : n0 + news.length ≤ maxLen := by
      have : (n0 + news.length) * 1 ≤ (n0 + news.length) * bytes := Nat.mul_le_mul_left _ hbpos
      unfold maxLen; omega
    have hn : ∀ (j : Nat) (u : Value), news.flatten[j]? = some u → w.cell? ⟨b2, o2 + j, none⟩ = some u := flat_cells hcc
    have h1' : ∀ u ∈ news.flatten, u.oneCell' = true := fun u hu => by obtain ⟨r, hr, hur⟩ := List.mem_flatten.1 hu; exact h1 r hr u hur
    obtain ⟨v', w', hrun, hown', hgr, _⟩ := run_append_own (P := P) w 0 t ty e ii z size bytes hu.eq hii hzero hsize hbytes hz (by simpa using hsz) (Vx β) n0 xs hown ⟨b2, o2, none⟩ news.length cap news.flatten hlen
      (fun j u hj => by rw [addr_add]; exact hn j u hj) h1' hmaxn hb (Nat.zero_le _)
    have hloc := append_loc (P := P) (t := t) (ty := ty) hu.eq hii hzero (by rw [hsize]; exact hown) (a := ⟨b2, o2, none⟩) (m := news.length) (cp := cap) (by rw [hsize]; exact hlen) (fun j u hj => by rw [addr_add]; exact hn j u hj) h1' hmaxn (by rw [hbytes]; exact hb) hrun
    have hex : (execOp a.eval ⟨some d, .call ⟨.builtin .append, #[x, y], #[t, t]⟩, ty, pos, af, none⟩).run P w = .ok (.value v') w' := by
      simp [execOp, resolve, invoke, builtin, hvx, hvy, hrun]
    unfold MRun
    rw [hex]
    have hfp : fp0 = (Vx β).ownBlock.toList := hr0.1
    refine ⟨v', by simp only [upd_at], ⟨hgr.os, hgr.tape, hgr.output, hgr.size, fun q hq hnq => hgr.block q hq (fun he => hnq ?_)⟩, v'.ownBlock.toList, by cases v'.ownBlock <;> simp, ⟨v'.ownBlock.toList, [], (List.append_nil _).symm, by simp only [upd_at]; exact row_of_owns hown', rfl⟩, fun q hq => ?_⟩
    · rw [hfp, ← he]; simp
    · have hq' : v'.ownBlock = some q := by simpa [Option.mem_toList] using hq
      rcases hloc with h | h
      · left; rw [hfp, ← h, hq']; simp
      · right
        rw [h] at hq'
        cases hq'
        exact Nat.le_refl _
/-- a call that takes what an earlier operation has made -/
theorem ak_callT {ι : Type} {Φ : ι → Prop} {val : ι → Value} {own : ι → List Asn} (g : Value → ι) (hg : ∀ x, ∃ v, g v = x) {jx : Nat} {Vx : (Nat → Value) → Value} {Ax : (Nat → Value) → List Asn} {f : FuncId} {args : (Nat → Value) → List Value} (B : List Nat)
    (hB : (B.all fun j => waitsT l ⟨some d, op, ty, pos, af, none⟩ j && Nat.beq (tkOf tks j) 0) = true) (hS : S[jx]? = some ⟨Vx, Ax⟩)
    (htk : ∀ k, tkOf tks k = i → k = jx) (hti : tkOf tks jx = i) (h0 : Nat.blt 0 i = true) (hwx : waitsOn ⟨some d, op, ty, pos, af, none⟩ jx = true)
    (hr : ∀ β, RunC P (SL β) ⟨some d, op, ty, pos, af, none⟩ f (args β)) (hd : Nat.blt d c.nt = true) (hc : ∀ β w fp, Borrow c hs S B β w → Sats (hp w) (Ax β) fp → Gives P f (args β) w fp Φ val own)
    (k : AnyK (tkOf tks) P c D hs l Q m (i + 1) n rest (fun β => (d, val (g (β i))) :: SL β) (S ++ [⟨fun β => val (g (β i)), fun β => own (g (β i))⟩])) :
    AnyK (tkOf tks) P c D hs l Q m i (n + 1) (⟨some d, op, ty, pos, af, none⟩ :: rest) SL S := by
  refine ak_step (s := ⟨fun β => val (g (β i)), fun β => own (g (β i))⟩) rfl hd ⟨fun β β' h => by simp only [h i (anc_self l i)], fun β β' h => by simp only [h i (anc_self l i)], ⟨B, fun j hj => ?_, fun β a w fp0 hsl hbor hsat => ?_⟩, fun j hj _ => by rw [htk j hj]; exact hwx⟩ k
  · have := List.all_eq_true.1 hB j hj
    rw [Bool.and_eq_true] at this
    exact ⟨this.1, by simpa using this.2⟩
  rw [if_pos (by simp [Region.wanted])]
  rw [resF_one (i := 0) hS fun k => by
    rw [Nat.zero_add]
    unfold takenB
    rw [h0, Bool.true_and]
    by_cases e : k = jx
    · subst e; rw [hti]; simp
    · rw [show Nat.beq k jx = false from Bool.eq_false_iff.2 fun h => e (Nat.eq_of_beq_eq_true h)]
      exact Bool.eq_false_iff.2 fun h => e (htk k (Nat.eq_of_beq_eq_true h))] at hsat
  unfold MRun
  rw [(hr β).2 a w hsl]
  refine ⟨rfl, (hc β w fp0 hbor hsat).mono fun e w' ⟨x, he, _, hk, fp, hn, hs', hf⟩ => ?_⟩
  obtain ⟨v, hv⟩ := hg x
  exact ⟨val x, he, v, by simp only [upd_at, hv], hk, fp, hn, by simp only [upd_at, hv]; exact hs', hf⟩
/-- a call that makes memory, and reads what earlier operations have made that no one takes -/
theorem ak_callB {ι : Type} {Φ : ι → Prop} {val : ι → Value} {own : ι → List Asn} (g : Value → ι) (hg : ∀ x, ∃ v, g v = x) {f : FuncId} {args : (Nat → Value) → List Value} (B : List Nat)
    (hB : (B.all fun j => waitsT l ⟨some d, op, ty, pos, af, none⟩ j && Nat.beq (tkOf tks j) 0) = true) (hn : (tks.all fun p => !Nat.beq p.2 i) = true)
    (hr : ∀ β, RunC P (SL β) ⟨some d, op, ty, pos, af, none⟩ f (args β)) (hd : Nat.blt d c.nt = true) (hc : ∀ β w, Borrow c hs S B β w → Gives P f (args β) w [] Φ val own)
    (k : AnyK (tkOf tks) P c D hs l Q m (i + 1) n rest (fun β => (d, val (g (β i))) :: SL β) (S ++ [⟨fun β => val (g (β i)), fun β => own (g (β i))⟩])) :
    AnyK (tkOf tks) P c D hs l Q m i (n + 1) (⟨some d, op, ty, pos, af, none⟩ :: rest) SL S := by
  refine ak_step (s := ⟨fun β => val (g (β i)), fun β => own (g (β i))⟩) rfl hd ⟨fun β β' h => by simp only [h i (anc_self l i)], fun β β' h => by simp only [h i (anc_self l i)], ⟨B, fun j hj => ?_, fun β a w fp0 hsl hbor _ => ?_⟩, fun j hj hp => (tkOf_no hn hj hp).elim⟩ k
  · have := List.all_eq_true.1 hB j hj
    rw [Bool.and_eq_true] at this
    exact ⟨this.1, by simpa using this.2⟩
  rw [if_pos (by simp [Region.wanted])]
  unfold MRun
  rw [(hr β).2 a w hsl]
  refine ⟨rfl, (hc β w hbor).mono fun e w' ⟨x, he, _, hk, fp, hn, hs', hf⟩ => ?_⟩
  obtain ⟨v, hv⟩ := hg x
  refine ⟨val x, he, v, by simp only [upd_at, hv], hk.mono (by simp), fp, hn, by simp only [upd_at, hv]; exact hs', fun b hb => ?_⟩
  rcases hf b hb with h | h
  · cases h
  · exact .inr h
theorem ak_valB {F : (Nat → Value) → Value} (hr : ∀ β, RunV P c (SL β) hs ⟨some d, op, ty, pos, af, none⟩ (F β)) (hi : Indep l i F) (hd : Nat.blt d c.nt = true) (hn : (tks.all fun p => !Nat.beq p.2 i) = true) (k : AnyK (tkOf tks) P c D hs l Q m (i + 1) n rest (fun β => (d, F β) :: SL β) (S ++ [⟨F, fun _ => []⟩])) :
    AnyK (tkOf tks) P c D hs l Q m i (n + 1) (⟨some d, op, ty, pos, af, none⟩ :: rest) SL S :=
  ak_step (s := ⟨F, fun _ => []⟩) rfl hd ⟨hi, fun _ _ _ => rfl, ⟨[], by simp, fun β a w fp0 h1 h2 _ => by
    rw [if_pos (by simp [Region.wanted])]
    unfold MRun
    rw [(hr β).2 a w h1 h2.mem]
    exact ⟨β i, by rw [upd_self], .refl _ _, [], List.nodup_nil, rfl, by simp⟩⟩, fun j hj hp => (tkOf_no hn hj hp).elim⟩ k
/-- as ak_callB; what it makes speaks of what earlier operations gave -/
theorem ak_callD {ι : Type} {Φ : ι → Prop} {val : ι → Value} {own : (Nat → Value) → ι → List Asn} (g : Value → ι) (hg : ∀ x, ∃ v, g v = x) {f : FuncId} {args : (Nat → Value) → List Value} (B : List Nat)
    (hB : (B.all fun j => waitsT l ⟨some d, op, ty, pos, af, none⟩ j && Nat.beq (tkOf tks j) 0) = true) (hn : (tks.all fun p => !Nat.beq p.2 i) = true)
    (hio : ∀ β β', (∀ k, k ≠ i → ancB l i k = true → β k = β' k) → own β = own β')
    (hr : ∀ β, RunC P (SL β) ⟨some d, op, ty, pos, af, none⟩ f (args β)) (hd : Nat.blt d c.nt = true) (hc : ∀ β w, Borrow c hs S B β w → Gives P f (args β) w [] Φ val (own β))
    (k : AnyK (tkOf tks) P c D hs l Q m (i + 1) n rest (fun β => (d, val (g (β i))) :: SL β) (S ++ [⟨fun β => val (g (β i)), fun β => own β (g (β i))⟩])) :
    AnyK (tkOf tks) P c D hs l Q m i (n + 1) (⟨some d, op, ty, pos, af, none⟩ :: rest) SL S := by
  refine ak_step (s := ⟨fun β => val (g (β i)), fun β => own β (g (β i))⟩) rfl hd ⟨fun β β' h => by simp only [h i (anc_self l i)], fun β β' h => by simp only [h i (anc_self l i), hio β β' fun k _ hk => h k hk], ⟨B, fun j hj => ?_, fun β a w fp0 hsl hbor _ => ?_⟩, fun j hj hp => (tkOf_no hn hj hp).elim⟩ k
  · have := List.all_eq_true.1 hB j hj
    rw [Bool.and_eq_true] at this
    exact ⟨this.1, by simpa using this.2⟩
  rw [if_pos (by simp [Region.wanted])]
  unfold MRun
  rw [(hr β).2 a w hsl]
  refine ⟨rfl, (hc β w hbor).mono fun e w' ⟨x, he, _, hk, fp, hn, hs', hf⟩ => ?_⟩
  obtain ⟨v, hv⟩ := hg x
  have e : own (upd β i v) = own β := hio _ _ fun k hk _ => upd_ne hk
  refine ⟨val x, he, v, by simp only [upd_at, hv], hk.mono (by simp), fp, hn, by simp only [upd_at, hv, e]; exact hs', fun b hb => ?_⟩
  rcases hf b hb with h | h
  · cases h
  · exact .inr h
end
end Go.SL

