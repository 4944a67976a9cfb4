/- Regions that draw their order: one plan in the text's order serves every order. The first 'm' operations only compute, read, or make memory of their own; the others come last, one after the other. -/
import Derived.Test.YtahcjhdepdhipaaGkMem
set_option linter.unusedSectionVars false
set_option linter.unusedVariables false
set_option linter.unusedSimpArgs false
namespace Go.SL
open Go

/-- What is known of a value, whatever memory is made later. -/
structure Rel where
  p : Value → World → Prop
  st : ∀ {v : Value} {w w' : World}, p v w → Keeps [] w w' → p v w'

def Rel.val (V : Value) : Rel := ⟨fun v _ => v = V, fun h _ => h⟩

abbrev RSlots := List (Nat × Rel)

def RelsAt (T : List Nat) (rl : RSlots) (a : Act) (w : World) : Prop := ∀ d R, (d, R) ∈ rl → d ∈ T → ∃ v, a.tmps[d]? = some v ∧ R.p v w

def QRun (P : Program) (o : Oper) (a : Act) (w : World) (R : Rel) : Prop :=
  match (execOp a.eval o).run P w with
  | .ok (.value v) w' => Keeps [] w w' ∧ R.p v w'
  | .ok (.enter f args) w' => w' = w ∧ Calls P f args w (fun e w'' => ∃ v, e = .returned v ∧ Keeps [] w w'' ∧ R.p v w'')
  | _ => False

def StepQ (P : Program) (c : Cx) (hs : List Asn) (ops : Array Oper) (sl : Slots) (rl : RSlots) (o : Oper) (R : Rel) : Prop :=
  ∀ a w, SlotsOk sl a → RelsAt (o.looksAt ops) rl a w → Mem c hs w → if Region.wanted o (yielded ops a.tmps) then QRun P o a w R else R.p undef w

/-! ### the check of a region's edges -/
def bnd (e : Edge) : Bool := Region.binds .any e
def opOk (o : Oper) : Bool := match o.op with | .select .. => false | .defer _ => false | _ => true
def waitsOn (o : Oper) (i : Nat) : Bool := o.after.toList.any fun e => bnd e && Nat.beq e.on i
def has (l : List Nat) (t : Nat) : Bool := l.any (Nat.beq t)
theorem has_iff {l : List Nat} {t : Nat} : has l t = true ↔ t ∈ l := by
  simp [has, List.any_eq_true]

def pairOk (ops : Array Oper) (x y : Oper) (i : Nat) : Bool :=
  match x.dst, y.dst with
  | some d, some e => !Nat.beq d e && ((!has (y.looksAt ops) d && !has (x.looksAt ops) e) || waitsOn y i)
  | _, _ => false

def pairsOk (ops : Array Oper) : List Oper → Nat → Bool
  | [], _ => true
  | x :: r, i => r.all (fun y => pairOk ops x y i) && pairsOk ops r (i + 1)

def acyc : List Oper → Nat → Bool
  | [], _ => true
  | o :: r, k => o.after.toList.all (fun e => !bnd e || Nat.blt e.on k) && acyc r (k + 1)

def maskOf (acc : List Nat) (o : Oper) : Nat := o.after.toList.foldl (fun s e => if bnd e then s ||| 2 ^ e.on ||| acc.getD e.on 0 else s) 0
def masks : List Oper → List Nat → List Nat
  | [], acc => acc
  | o :: r, acc => masks r (acc ++ [maskOf acc o])

def tailOk (ms : List Nat) : List Nat → Bool
  | [] => true
  | k :: r => (List.range k).all (fun i => (ms.getD k 0).testBit i) && tailOk ms r

def regOk (l : List Oper) (m : Nat) : Bool :=
  l.all opOk && acyc l 0 && pairsOk l.toArray (l.take m) 0 && (l.take m).all (fun o => o.dst.isSome) && tailOk (masks l []) (List.range' m (l.length - m)) && Nat.ble m l.length

theorem acyc_spec {l : List Oper} : ∀ {s : Nat}, acyc l s = true → ∀ {k : Nat} {o : Oper}, l[k]? = some o → ∀ e ∈ o.after, bnd e = true → e.on < s + k := by
  induction l with
  | nil => intro s _ k o h; simp at h
  | cons x r ih =>
    intro s h k o hk e he hb
    simp only [acyc, Bool.and_eq_true, List.all_eq_true] at h
    cases k with
    | zero =>
      simp at hk; subst hk
      have := h.1 e (by simpa using he)
      simpa [hb, Nat.blt_eq] using this
    | succ k =>
      have := ih h.2 (k := k) (by simpa using hk) e he hb
      omega

theorem masks_prefix : ∀ (l : List Oper) (acc : List Nat), ∃ t, masks l acc = acc ++ t ∧ t.length = l.length
  | [], acc => ⟨[], by simp [masks]⟩
  | o :: r, acc => by
    obtain ⟨t, h, hl⟩ := masks_prefix r (acc ++ [maskOf acc o])
    exact ⟨maskOf acc o :: t, by simp [masks, h], by simp [hl]⟩

theorem masks_spec : ∀ (l : List Oper) (acc : List Nat) (k : Nat) (o : Oper), l[k]? = some o → (masks l acc).getD (acc.length + k) 0 = maskOf ((masks l acc).take (acc.length + k)) o
  | [], _, _, _, h => by simp at h
  | x :: r, acc, k, o, h => by
    obtain ⟨t, ht, hl⟩ := masks_prefix r (acc ++ [maskOf acc x])
    cases k with
    | zero =>
      simp at h; subst h
      simp [masks, ht]
    | succ k =>
      have := masks_spec r (acc ++ [maskOf acc x]) k o (by simpa using h)
      simp only [List.length_append, List.length_cons, List.length_nil] at this
      rw [show acc.length + (k + 1) = acc.length + (0 + 1) + k from by omega]
      exact this

theorem maskOf_spec (acc : List Nat) (i : Nat) : ∀ (es : List Edge) (s : Nat), (es.foldl (fun s e => if bnd e then s ||| 2 ^ e.on ||| acc.getD e.on 0 else s) s).testBit i = true →
    s.testBit i = true ∨ ∃ e ∈ es, bnd e = true ∧ (i = e.on ∨ (acc.getD e.on 0).testBit i = true)
  | [], s, h => .inl h
  | e :: es, s, h => by
    simp only [List.foldl_cons] at h
    rcases maskOf_spec acc i es _ h with h | ⟨e', he', hb, h⟩
    · by_cases hb : bnd e = true
      · simp only [hb, if_true, Nat.testBit_or, Bool.or_eq_true, Nat.testBit_two_pow, decide_eq_true_eq] at h
        rcases h with (h | h) | h
        · exact .inl h
        · exact .inr ⟨e, by simp, hb, .inl h.symm⟩
        · exact .inr ⟨e, by simp, hb, .inr h⟩
      · simp only [hb] at h
        exact .inl h
    · exact .inr ⟨e', by simp [he'], hb, h⟩

/-- What has been carried out is closed: whatever an operation waits for came before it. -/
def DC (l : List Oper) (L : Nat → Prop) : Prop := ∀ k o, l[k]? = some o → L k → ∀ e ∈ o.after, bnd e = true → L e.on

theorem masks_sound {l : List Oper} {L : Nat → Prop} (hdc : DC l L) (hac : acyc l 0 = true) : ∀ (k : Nat), k < l.length → L k → ∀ i, ((masks l []).getD k 0).testBit i = true → L i := by
  intro k
  induction k using Nat.strongRecOn with
  | _ k ih =>
    intro hk hL i hi
    have ho : l[k]? = some l[k] := List.getElem?_eq_getElem hk
    have hm := masks_spec l [] k _ ho
    simp only [List.length_nil, Nat.zero_add] at hm
    rw [hm] at hi
    unfold maskOf at hi
    rcases maskOf_spec _ i _ 0 hi with h | ⟨e, he, hb, h⟩
    · simp at h
    · have he' : e ∈ l[k].after := by simpa using he
      have hlt : e.on < k := by have := acyc_spec hac ho e he' hb; omega
      have hLe := hdc k _ ho hL e he' hb
      rcases h with h | h
      · rw [h]; exact hLe
      · refine ih e.on hlt (by omega) hLe i ?_
        have : ((masks l []).take k).getD e.on 0 = (masks l []).getD e.on 0 := by
          simp [List.getD_eq_getElem?_getD, hlt]
        rwa [this] at h

theorem pairsOk_spec {ops : Array Oper} {l : List Oper} : ∀ {s : Nat}, pairsOk ops l s = true → ∀ {i j : Nat} {x y : Oper}, i < j → l[i]? = some x → l[j]? = some y → pairOk ops x y (s + i) = true := by
  induction l with
  | nil => intro s _ i j x y _ h; simp at h
  | cons o r ih =>
    intro s h i j x y hij hx hy
    simp only [pairsOk, Bool.and_eq_true, List.all_eq_true] at h
    cases j with
    | zero => omega
    | succ j =>
      cases i with
      | zero =>
        simp at hx; subst hx
        exact h.1 y (List.mem_of_getElem? (by simpa using hy))
      | succ i =>
        have := ih h.2 (i := i) (j := j) (by omega) (by simpa using hx) (by simpa using hy)
        rwa [show s + 1 + i = s + (i + 1) from by omega] at this

/-! ### a frame that has what the text's order would have given -/
theorem fill_act {sl : Slots} {T : List Nat} {a : Act} {nt : Nat} (hn : a.tmps.size = nt) (hk : ∀ t v, sget sl t = some v → t < nt) (hT : ∀ t ∈ T, ∀ v, sget sl t = some v → a.tmps[t]? = some v) :
    ∃ a' : Act, SlotsOk sl a' ∧ (∀ t ∈ T, a'.tmps[t]? = a.tmps[t]?) ∧ a'.tmps.size = nt := by
  refine ⟨⟨Array.ofFn (n := nt) fun t => if (t : Nat) ∈ T then a.tmps.getD t undef else (sget sl t).getD undef, a.defers⟩, ?_, ?_, by simp⟩
  · intro t v hv
    have hlt := hk t v hv
    simp only [Array.getElem?_ofFn, hlt, dif_pos]
    by_cases ht : t ∈ T
    · have := hT t ht v hv
      simp [ht, Array.getD_eq_getD_getElem?, this]
    · simp [ht, hv]
  · intro t ht
    by_cases hlt : t < nt
    · have : a.tmps[t]? = some (a.tmps[t]'(by omega)) := Array.getElem?_eq_getElem (by omega)
      simp [ht, hlt, Array.getD_eq_getD_getElem?, this]
    · rw [Array.getElem?_eq_none (by simp; omega), Array.getElem?_eq_none (by omega)]

theorem eval_of_same {a a' : Act} {x : Operand} (h : ∀ t, x = .tmp t → a'.tmps[t]? = a.tmps[t]?) : a'.eval x = a.eval x := by
  cases x with
  | tmp t => simp [Act.eval, Array.getD_eq_getD_getElem?, h t rfl]
  | _ => rfl

theorem exec_of_same {o : Oper} {ops : Array Oper} {a a' : Act} (ho : opOk o = true) (h : ∀ t ∈ o.looksAt ops, a'.tmps[t]? = a.tmps[t]?) : execOp a'.eval o = execOp a.eval o := by
  refine execOp_congr o (fun cs b he => by simp [opOk, he] at ho) fun x hx => eval_of_same fun t ht => h t ?_
  subst ht
  unfold Oper.looksAt
  refine List.mem_append_left _ ?_
  simp only [List.mem_filterMap]
  exact ⟨_, by simpa using hx, rfl⟩

theorem wanted_of_same {o : Oper} {ops : Array Oper} {a a' : Act} (h : ∀ t ∈ o.looksAt ops, a'.tmps[t]? = a.tmps[t]?) : Region.wanted o (yielded ops a'.tmps) = Region.wanted o (yielded ops a.tmps) := by
  unfold Region.wanted
  cases hg : o.guard with
  | none => rfl
  | some gw =>
    obtain ⟨j, want⟩ := gw
    simp only []
    have : yielded ops a'.tmps j = yielded ops a.tmps j := by
      unfold yielded
      cases hd : (ops[j]?).bind (·.dst) with
      | none => rfl
      | some d =>
        have := h d (by unfold Oper.looksAt; exact List.mem_append_right _ (by simp [hg, hd]))
        simp [this]
    rw [this]

/-! ### the plan -/
inductive Plan (P : Program) (c : Cx) (hs : List Asn) (ops : Array Oper) : List Oper → Slots → RSlots → List Rel → Slots → RSlots → Prop
  | nil {sl : Slots} {rl : RSlots} : Plan P c hs ops [] sl rl [] sl rl
  | val {o : Oper} {l : List Oper} {sl sl' : Slots} {rl rl' : RSlots} {d : Nat} {V : Value} {S : List Rel} (hd : o.dst = some d) (hdn : d < c.nt) (h : StepQ P c hs ops sl rl o (.val V)) (t : Plan P c hs ops l ((d, V) :: sl) rl S sl' rl') :
      Plan P c hs ops (o :: l) sl rl (.val V :: S) sl' rl'
  | rel {o : Oper} {l : List Oper} {sl sl' : Slots} {rl rl' : RSlots} {d : Nat} {R : Rel} {S : List Rel} (hd : o.dst = some d) (hdn : d < c.nt) (hn : sget sl d = none) (h : StepQ P c hs ops sl rl o R) (t : Plan P c hs ops l sl ((d, R) :: rl) S sl' rl') :
      Plan P c hs ops (o :: l) sl rl (R :: S) sl' rl'

/-- Of step number 'i' of a plan: what was known ahead of it, and where it came from. -/
theorem Plan.at_ {P : Program} {c : Cx} {hs : List Asn} {ops : Array Oper} {l : List Oper} {sl sl' : Slots} {rl rl' : RSlots} {S : List Rel} (h : Plan P c hs ops l sl rl S sl' rl') :
    ∀ (i : Nat) (o : Oper), l[i]? = some o → ∃ sli rli R, S[i]? = some R ∧ StepQ P c hs ops sli rli o R ∧
      (∀ t v, sget sli t = some v → (∃ (j : Nat) (oj : Oper), j < i ∧ l[j]? = some oj ∧ oj.dst = some t ∧ S[j]? = some (.val v)) ∨ ((∀ (j : Nat) (oj : Oper), j < i → l[j]? = some oj → oj.dst ≠ some t) ∧ sget sl t = some v)) ∧
      (∀ t Rt, (t, Rt) ∈ rli → (∃ (j : Nat) (oj : Oper), j < i ∧ l[j]? = some oj ∧ oj.dst = some t ∧ S[j]? = some Rt) ∨ (t, Rt) ∈ rl) := by
  induction h with
  | nil => intro i o h; simp at h
  | @val o0 l sl sl' rl rl' d V S hd hdn hst t ih =>
    intro i o ho
    cases i with
    | zero =>
      simp at ho; subst ho
      exact ⟨sl, rl, .val V, rfl, hst, fun t v hv => .inr ⟨fun j _ hj => by omega, hv⟩, fun t Rt hm => .inr hm⟩
    | succ i =>
      obtain ⟨sli, rli, R, hR, hs', h1, h2⟩ := ih i o (by simpa using ho)
      refine ⟨sli, rli, R, by simpa using hR, hs', fun t v hv => ?_, fun t Rt hm => ?_⟩
      · rcases h1 t v hv with ⟨j, oj, hj, hlj, hdj, hSj⟩ | ⟨hno, hv'⟩
        · exact .inl ⟨j + 1, oj, by omega, by simpa using hlj, hdj, by simpa using hSj⟩
        · by_cases hdt : d = t
          · subst hdt
            rw [sget_cons_eq] at hv'
            cases hv'
            exact .inl ⟨0, o0, by omega, rfl, hd, rfl⟩
          · rw [sget_cons_ne hdt] at hv'
            refine .inr ⟨fun j oj hj hlj => ?_, hv'⟩
            cases j with
            | zero => simp at hlj; subst hlj; rw [hd]; simp [hdt]
            | succ j => exact hno j oj (by omega) (by simpa using hlj)
      · rcases h2 t Rt hm with ⟨j, oj, hj, hlj, hdj, hSj⟩ | hm'
        · exact .inl ⟨j + 1, oj, by omega, by simpa using hlj, hdj, by simpa using hSj⟩
        · exact .inr hm'
  | @rel o0 l sl sl' rl rl' d R0 S hd hdn hn hst t ih =>
    intro i o ho
    cases i with
    | zero =>
      simp at ho; subst ho
      exact ⟨sl, rl, R0, rfl, hst, fun t v hv => .inr ⟨fun j _ hj => by omega, hv⟩, fun t Rt hm => .inr hm⟩
    | succ i =>
      obtain ⟨sli, rli, R, hR, hs', h1, h2⟩ := ih i o (by simpa using ho)
      refine ⟨sli, rli, R, by simpa using hR, hs', fun t v hv => ?_, fun t Rt hm => ?_⟩
      · rcases h1 t v hv with ⟨j, oj, hj, hlj, hdj, hSj⟩ | ⟨hno, hv'⟩
        · exact .inl ⟨j + 1, oj, by omega, by simpa using hlj, hdj, by simpa using hSj⟩
        · have hdt : d ≠ t := fun e => by subst e; rw [hn] at hv'; cases hv'
          refine .inr ⟨fun j oj hj hlj => ?_, hv'⟩
          cases j with
          | zero => simp at hlj; subst hlj; rw [hd]; simp [hdt]
          | succ j => exact hno j oj (by omega) (by simpa using hlj)
      · rcases h2 t Rt hm with ⟨j, oj, hj, hlj, hdj, hSj⟩ | hm'
        · exact .inl ⟨j + 1, oj, by omega, by simpa using hlj, hdj, by simpa using hSj⟩
        · rcases List.mem_cons.1 hm' with e | hm''
          · cases e
            exact .inl ⟨0, o0, by omega, rfl, hd, rfl⟩
          · exact .inr hm''

/-- The end of a plan. -/
theorem Plan.end_ {P : Program} {c : Cx} {hs : List Asn} {ops : Array Oper} {l : List Oper} {sl sl' : Slots} {rl rl' : RSlots} {S : List Rel} (h : Plan P c hs ops l sl rl S sl' rl') :
      (∀ t v, sget sl' t = some v → (∃ (j : Nat) (oj : Oper), l[j]? = some oj ∧ oj.dst = some t ∧ S[j]? = some (.val v)) ∨ ((∀ (j : Nat) (oj : Oper), l[j]? = some oj → oj.dst ≠ some t) ∧ sget sl t = some v)) ∧
      (∀ t Rt, (t, Rt) ∈ rl' → (∃ (j : Nat) (oj : Oper), l[j]? = some oj ∧ oj.dst = some t ∧ S[j]? = some Rt) ∨ (t, Rt) ∈ rl) ∧
      (∀ (j : Nat) (oj : Oper), l[j]? = some oj → ∃ d R, oj.dst = some d ∧ d < c.nt ∧ S[j]? = some R) := by
  induction h with
  | nil => exact ⟨fun t v hv => .inr ⟨fun j oj h => by simp at h, hv⟩, fun t Rt hm => .inr hm, fun j oj h => by simp at h⟩
  | @val o0 l sl sl' rl rl' d V S hd hdn hst t ih =>
    obtain ⟨h1, h2, h3⟩ := ih
    refine ⟨fun t v hv => ?_, fun t Rt hm => ?_, fun j oj hj => ?_⟩
    · rcases h1 t v hv with ⟨j, oj, hlj, hdj, hSj⟩ | ⟨hno, hv'⟩
      · exact .inl ⟨j + 1, oj, by simpa using hlj, hdj, by simpa using hSj⟩
      · by_cases hdt : d = t
        · subst hdt
          rw [sget_cons_eq] at hv'
          cases hv'
          exact .inl ⟨0, o0, rfl, hd, rfl⟩
        · rw [sget_cons_ne hdt] at hv'
          refine .inr ⟨fun j oj hlj => ?_, hv'⟩
          cases j with
          | zero => simp at hlj; subst hlj; rw [hd]; simp [hdt]
          | succ j => exact hno j oj (by simpa using hlj)
    · rcases h2 t Rt hm with ⟨j, oj, hlj, hdj, hSj⟩ | hm'
      · exact .inl ⟨j + 1, oj, by simpa using hlj, hdj, by simpa using hSj⟩
      · exact .inr hm'
    · cases j with
      | zero => simp at hj; subst hj; exact ⟨d, _, hd, hdn, rfl⟩
      | succ j => obtain ⟨d', R', h⟩ := h3 j oj (by simpa using hj); exact ⟨d', R', by simpa using h⟩
  | @rel o0 l sl sl' rl rl' d R0 S hd hdn hn hst t ih =>
    obtain ⟨h1, h2, h3⟩ := ih
    refine ⟨fun t v hv => ?_, fun t Rt hm => ?_, fun j oj hj => ?_⟩
    · rcases h1 t v hv with ⟨j, oj, hlj, hdj, hSj⟩ | ⟨hno, hv'⟩
      · exact .inl ⟨j + 1, oj, by simpa using hlj, hdj, by simpa using hSj⟩
      · have hdt : d ≠ t := fun e => by subst e; rw [hn] at hv'; cases hv'
        refine .inr ⟨fun j oj hlj => ?_, hv'⟩
        cases j with
        | zero => simp at hlj; subst hlj; rw [hd]; simp [hdt]
        | succ j => exact hno j oj (by simpa using hlj)
    · rcases h2 t Rt hm with ⟨j, oj, hlj, hdj, hSj⟩ | hm'
      · exact .inl ⟨j + 1, oj, by simpa using hlj, hdj, by simpa using hSj⟩
      · rcases List.mem_cons.1 hm' with e | hm''
        · cases e
          exact .inl ⟨0, o0, rfl, hd, rfl⟩
        · exact .inr hm''
    · cases j with
      | zero => simp at hj; subst hj; exact ⟨d, _, hd, hdn, rfl⟩
      | succ j => obtain ⟨d', R', h⟩ := h3 j oj (by simpa using hj); exact ⟨d', R', by simpa using h⟩
end Go.SL
