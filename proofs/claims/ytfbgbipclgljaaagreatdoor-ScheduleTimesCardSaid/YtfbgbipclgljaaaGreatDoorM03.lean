/- Parts of the proof: GkEq GkPlan GkRow. -/
import Derived.Test.YtfbgbipclgljaaaGreatDoorM02
import Derived.Laws.StructEq
import Derived.Laws.AppendOwn
set_option linter.unusedSectionVars false
set_option linter.unusedVariables false
set_option linter.unusedSimpArgs false
/- GkEq -/
/- '==' and '!=' on structs and arrays whose leaves are integers, strings and bools. -/
namespace Go.SL
open Go

def leq : Value → Value → Option Bool
  | .int k a, .int k' b => if k = k' then some (decide (a = b)) else none
  | .string a, .string b => some (decide (a = b))
  | .bool a, .bool b => some (a == b)
  | _, _ => none
def eqL : List Value → List Value → Option Bool
  | [], [] => some true
  | x :: xs, y :: ys => match leq x y, eqL xs ys with
    | some p, some q => some (p && q)
    | _, _ => none
  | _, _ => none

def isLeaf : Option TypeDesc → Bool
  | some (.int _) | some .string | some .bool => true
  | _ => false

section
variable {P : Program} {w : World}

theorem leq_run {d : Nat} {t : TypeId} {x y : Value} {b : Bool} (hl : isLeaf (P.underlying t) = true) (hk : ∀ k, P.underlying t = some (.int k) → ∃ a, x = .int k a) (hs : P.underlying t = some .string → ∃ a, x = .string a) (hb : P.underlying t = some .bool → ∃ a, x = .bool a)
    (h : leq x y = some b) : (Op.equalIn (d + 1) t x y).run P w = .ok b w := by
  cases hu : P.underlying t with
  | none => rw [hu] at hl; cases hl
  | some D =>
    rw [hu] at hl
    cases D with
    | int k =>
      obtain ⟨a, rfl⟩ := hk k hu
      cases y <;> simp only [leq] at h <;> try cases h
      rename_i k' b'
      split at h
      · rename_i e; subst e; cases h
        rw [run_equalIn_int w d t k k a b' hu]; congr 1
      · cases h
    | string =>
      obtain ⟨a, rfl⟩ := hs hu
      cases y <;> simp only [leq, Option.some.injEq] at h <;> try cases h
      rw [run_equalIn_string w d t a _ hu, str_beq]
    | bool =>
      obtain ⟨a, rfl⟩ := hb hu
      cases y <;> simp only [leq, Option.some.injEq] at h <;> try cases h
      rw [run_equalIn_bool' w d t a _ hu]
    | _ => cases hl
end

/-- a value of a leaf's type -/
def leafOk (D : Option TypeDesc) (x : Value) : Bool :=
  match D, x with
  | some (.int k), .int k' _ => decide (k = k')
  | some .string, .string _ => true
  | some .bool, .bool _ => true
  | _, _ => false

def foldF (P : Program) (g : TypeId → Option (List TypeId)) (acc : Option (List TypeId)) (f : Field) : Option (List TypeId) :=
  match acc, g f.type, P.info? f.type with
  | some a, some m, some i => if f.offset = a.length ∧ f.name ≠ "_" ∧ i.size = m.length then some (a ++ m) else none
  | _, _, _ => none
theorem foldF_none (P : Program) (g : TypeId → Option (List TypeId)) : ∀ (fl : List Field), fl.foldl (foldF P g) none = none
  | [] => rfl
  | f :: fl => by simp only [List.foldl_cons, foldF]; exact foldF_none P g fl
theorem foldF_pre (P : Program) (g : TypeId → Option (List TypeId)) : ∀ (fl : List Field) (A ts : List TypeId), fl.foldl (foldF P g) (some A) = some ts → ∃ rest, ts = A ++ rest
  | [], A, ts, h => ⟨[], by simpa using h.symm⟩
  | f :: fl, A, ts, h => by
    simp only [List.foldl_cons] at h
    cases hs : foldF P g (some A) f with
    | none => rw [hs, foldF_none] at h; cases h
    | some B =>
      rw [hs] at h
      obtain ⟨r, hr⟩ := foldF_pre P g fl B ts h
      unfold foldF at hs
      split at hs
      · rename_i a m i e1 _ _
        cases e1
        split at hs
        · cases hs; exact ⟨m ++ r, by rw [hr]; simp⟩
        · cases hs
      · cases hs
theorem foldF_some {P : Program} {g : TypeId → Option (List TypeId)} {a B : List TypeId} {f : Field} (hs : foldF P g (some a) f = some B) :
    ∃ m i, g f.type = some m ∧ P.info? f.type = some i ∧ f.offset = a.length ∧ f.name ≠ "_" ∧ i.size = m.length ∧ B = a ++ m := by
  unfold foldF at hs
  split at hs
  · rename_i a' m i e1 e2 e3
    cases e1
    split at hs
    · rename_i h; cases hs; exact ⟨m, i, e2, e3, h.1, h.2.1, h.2.2, rfl⟩
    · cases hs
  · cases hs
theorem eqL_len : ∀ {xs ys : List Value} {b : Bool}, eqL xs ys = some b → xs.length = ys.length
  | [], [], _, _ => rfl
  | [], _ :: _, _, h => by simp [eqL] at h
  | _ :: _, [], _, h => by simp [eqL] at h
  | x :: xs, y :: ys, b, h => by
    simp only [eqL] at h
    split at h
    · rename_i p q hp hq; simp [eqL_len hq]
    · cases h

/-- the leaves' types, in order -/
def leafTys (P : Program) : Nat → TypeId → Option (List TypeId)
  | 0, _ => none
  | d + 1, t =>
    match P.underlying t with
    | some (.int _) | some .string | some .bool => some [t]
    | some (.struct fs) =>
      if P.stoodInHeld t then none else
      fs.toList.foldl (foldF P (leafTys P d)) (some [])
    | some (.array n e) => match leafTys P d e, P.info? e with
      | some m, some i => if i.size = m.length then some ((List.replicate n m).flatten) else none
      | _, _ => none
    | _ => none

def okL (P : Program) : List TypeId → List Value → Bool
  | [], [] => true
  | t :: ts, x :: xs => leafOk (P.underlying t) x && okL P ts xs
  | _, _ => false

section
variable {P : Program}

theorem okL_length : ∀ {ts : List TypeId} {xs : List Value}, okL P ts xs = true → xs.length = ts.length
  | [], [], _ => rfl
  | [], _ :: _, h => by cases h
  | _ :: _, [], h => by cases h
  | t :: ts, x :: xs, h => by
    simp only [okL, Bool.and_eq_true] at h
    simp [okL_length h.2]
theorem okL_append : ∀ {ts us : List TypeId} {xs : List Value}, okL P (ts ++ us) xs = true → okL P ts (xs.take ts.length) = true ∧ okL P us (xs.drop ts.length) = true
  | [], us, xs, h => by simpa [okL] using h
  | t :: ts, us, [], h => by simp [okL] at h
  | t :: ts, us, x :: xs, h => by
    simp only [List.cons_append, okL, Bool.and_eq_true] at h
    have := okL_append h.2
    simp [okL, h.1, this]
theorem eqL_append : ∀ {n : Nat} {xs ys : List Value} {b : Bool}, n ≤ xs.length → eqL xs ys = some b → ∃ p q, eqL (xs.take n) (ys.take n) = some p ∧ eqL (xs.drop n) (ys.drop n) = some q ∧ b = (p && q)
  | 0, xs, ys, b, _, h => ⟨true, b, by simp [eqL], by simpa using h, by simp⟩
  | n + 1, [], ys, b, hn, h => by simp at hn
  | n + 1, x :: xs, [], b, _, h => by simp [eqL] at h
  | n + 1, x :: xs, y :: ys, b, hn, h => by
    simp only [eqL] at h
    split at h
    · rename_i p q hp hq
      cases h
      obtain ⟨p', q', h1, h2, e⟩ := eqL_append (n := n) (by simpa using hn) hq
      exact ⟨p && p', q', by simp [eqL, hp, h1], by simpa using h2, by rw [e, Bool.and_assoc]⟩
    · cases h

theorem leafTys_und {d : Nat} {t : TypeId} {m : List TypeId} (h : leafTys P d t = some m) : ∃ D, P.underlying t = some D ∧ (isAggD D = false → m.length = 1) := by
  cases d with
  | zero => cases h
  | succ d =>
    unfold leafTys at h
    cases hu : P.underlying t with
    | none => rw [hu] at h; cases h
    | some D =>
      refine ⟨D, rfl, fun hD => ?_⟩
      rw [hu] at h
      cases D with
      | int k => cases h; rfl
      | string => cases h; rfl
      | bool => cases h; rfl
      | struct fs => cases hD
      | array n e => cases hD
      | _ => cases h

theorem part_at {t : TypeId} {D : TypeDesc} {i : TypeInfo} {n o : Nat} {zs : List Value} {w : World} (hu : P.underlying t = some D) (hi : P.info? t = some i) (hn : i.size = n) (h1 : isAggD D = false → n = 1) (hz : o + n ≤ zs.length) :
    ∃ v, (part t zs.toArray o).run P w = .ok v w ∧ (isAggD D = true → v = .agg ((zs.drop o).take n).toArray) ∧ (isAggD D = false → (zs.drop o).take n = [v]) := by
  have hag : (isAgg t).run P w = .ok (isAggD D) w := by
    unfold isAgg; rw [Sem.run_bind, rk_underlying hu, Result.andThen_ok]; cases D <;> rfl
  unfold part
  rw [Sem.run_bind, hag, Result.andThen_ok]
  cases hD : isAggD D with
  | true =>
    refine ⟨.agg (zs.toArray.extract o (o + n)), by simp [sizeOf, rk_typeInfo hi, hn], fun _ => ?_, fun h => by cases h⟩
    congr 1
    simp [List.extract_eq_take_drop]
  | false =>
    have e := h1 hD
    subst e
    refine ⟨zs[o]'(by omega), by simp [show o < zs.length from by omega], fun h => (by cases h), fun _ => ?_⟩
    rw [List.drop_eq_getElem_cons (by omega), List.take_succ_cons, List.take_zero]

theorem leafTys_ok (d k : Nat) : ∀ (t : TypeId) (ts : List TypeId), leafTys P d t = some ts → ∀ (xs ys : List Value) (b : Bool) (w : World), okL P ts xs = true → eqL xs ys = some b →
    ∀ x y, (isAggD ((P.underlying t).getD .bool) = true → x = .agg xs.toArray ∧ y = .agg ys.toArray) → (isAggD ((P.underlying t).getD .bool) = false → xs = [x] ∧ ys = [y]) → (Op.equalIn (d + k) t x y).run P w = .ok b w := by
  induction d with
  | zero => intro t ts h; cases h
  | succ d ih =>
    intro t ts h xs ys b w hok heq x y h1 h2
    rw [show d + 1 + k = (d + k) + 1 from by omega]
    have hleaf : ∀ (hl : isLeaf (P.underlying t) = true) (hts : ts = [t]) (hna : isAggD ((P.underlying t).getD .bool) = false), (Op.equalIn (d + k + 1) t x y).run P w = .ok b w := by
      intro hl hts hna
      obtain ⟨rfl, rfl⟩ := h2 hna
      subst hts
      simp only [okL, Bool.and_true] at hok
      have hq : leq x y = some b := by
        simp only [eqL] at heq
        split at heq
        · rename_i p q hp hq'; cases hq'; cases heq; simpa using hp
        · cases heq
      refine leq_run hl (fun kk hu => ?_) (fun hu => ?_) (fun hu => ?_) hq <;> rw [hu] at hok <;> cases x <;> simp_all [leafOk]
    unfold leafTys at h
    split at h
    · rename_i kk hu; exact hleaf (by rw [hu]; rfl) (Option.some.inj h).symm (by rw [hu]; rfl)
    · rename_i hu; exact hleaf (by rw [hu]; rfl) (Option.some.inj h).symm (by rw [hu]; rfl)
    · rename_i hu; exact hleaf (by rw [hu]; rfl) (Option.some.inj h).symm (by rw [hu]; rfl)
    · rename_i fs hu
      split at h
      · cases h
      · rename_i hst
        obtain ⟨rfl, rfl⟩ := h1 (by rw [hu]; rfl)
        have hf : P.fieldsOf t = fs := by simp [Program.fieldsOf, hu]
        rw [run_equalIn_struct w (d + k) t _ _ (by rw [hf]; exact hu) (by simpa using hst), hf]
        -- the fields, one after the other
        have key : ∀ (fl : List Field) (acc : List TypeId), fl.foldl (foldF P (leafTys P d)) (some acc) = some ts → ∀ c, eqL (xs.drop acc.length) (ys.drop acc.length) = some c → acc.length ≤ xs.length → (Op.eqFields (d + k) xs.toArray ys.toArray fl).run P w = .ok c w := by
          intro fl
          induction fl with
          | nil =>
            intro acc ha c hc _
            simp only [List.foldl_nil, Option.some.injEq] at ha
            have hlen := okL_length hok
            rw [ha, ← hlen, List.drop_length] at hc
            have : c = true := by
              cases hy : ys.drop xs.length with
              | nil => rw [hy] at hc; simpa [eqL] using hc.symm
              | cons => rw [hy] at hc; simp [eqL] at hc
            simp [Op.eqFields, this]
          | cons f fl ihf =>
            intro acc ha c hc hle
            simp only [List.foldl_cons] at ha
            cases hB : foldF P (leafTys P d) (some acc) f with
            | none => rw [hB, foldF_none] at ha; cases ha
            | some B =>
              rw [hB] at ha
              obtain ⟨m, i, hm, hi, ho, hn, hsz, rfl⟩ := foldF_some hB
              -- ts = acc ++ m ++ ..
              have hpre : ∃ rest, ts = acc ++ m ++ rest := foldF_pre P _ fl _ _ ha
              obtain ⟨rest, hts⟩ := hpre
              have hlen := okL_length hok
              have hokm : okL P m ((xs.drop acc.length).take m.length) = true := by
                rw [hts, List.append_assoc] at hok
                exact (okL_append (okL_append hok).2).1
              have hlx : acc.length + m.length ≤ xs.length := by rw [hlen, hts]; simp
              obtain ⟨p, q, hp, hq, rfl⟩ := eqL_append (n := m.length) (by simp; omega) hc
              have hly : acc.length + m.length ≤ ys.length := by have := eqL_len heq; omega
              obtain ⟨Df, hud, hone⟩ := leafTys_und hm
              obtain ⟨vx, rx, ax, bx⟩ := part_at (w := w) hud hi hsz hone hlx
              obtain ⟨vy, ry, ay, by'⟩ := part_at (w := w) hud hi hsz hone hly
              rw [← ho] at rx ry
              have hr := ih f.type m hm _ _ p w hokm hp vx vy (by rw [hud]; exact fun hA => ⟨ax hA, ay hA⟩) (by rw [hud]; exact fun hA => ⟨bx hA, by' hA⟩)
              have hrest := ihf (acc ++ m) ha q (by simpa [List.drop_drop] using hq) (by simp; omega)
              simp only [Op.eqFields, ne_eq, hn, not_false_eq_true, if_true, Sem.run_bind, rx, Result.andThen_ok, ry, hr]
              cases p
              · simp
              · simpa using hrest
        exact key fs.toList [] h b (by simpa using heq) (by simp)
    · rename_i n e hu
      split at h
      · rename_i m i hm hi
        split at h
        · rename_i hsz
          obtain ⟨rfl, rfl⟩ := h1 (by rw [hu]; rfl)
          simp only [Option.some.injEq] at h
          subst h
          have hlen := okL_length hok
          have hlxy : xs.length = ys.length := eqL_len heq
          have hL : xs.length = n * m.length := by rw [hlen]; simp
          have hszr : (sizeOf e).run P w = .ok m.length w := by simp [sizeOf, rk_typeInfo hi, hsz]
          obtain ⟨De, hud, hone⟩ := leafTys_und hm
          have hfor : ∀ (c j : Nat) (p : Bool), j + c = n → eqL (xs.drop (j * m.length)) (ys.drop (j * m.length)) = some p → okL P ((List.replicate c m).flatten) (xs.drop (j * m.length)) = true →
              ((forIn (List.range' j c) ((none, ()) : Option Bool × Unit) fun i r => (do
                let a ← part e xs.toArray (i * m.length)
                let b ← part e ys.toArray (i * m.length)
                let r' ← Op.equalIn (d + k) e a b
                if (!r') = true then pure (ForInStep.done (some false, ())) else pure (ForInStep.yield (none, ()))) : Sem (Option Bool × Unit)).run P w) = .ok (bif p then none else some false, ()) w := by
            intro c
            induction c with
            | zero =>
              intro j p hj hp _
              have hz : xs.drop (j * m.length) = [] := by apply List.drop_of_length_le; rw [hL, show j = n from by omega]; exact Nat.le_refl _
              have hz' : ys.drop (j * m.length) = [] := by apply List.drop_of_length_le; rw [← hlxy, hL, show j = n from by omega]; exact Nat.le_refl _
              rw [hz, hz'] at hp
              simp only [eqL, Option.some.injEq] at hp
              subst hp
              simp
            | succ c ihc =>
              intro j p hj hp hokj
              have hb1 : j * m.length + m.length ≤ xs.length := by
                rw [hL, ← Nat.succ_mul]; exact Nat.mul_le_mul_right _ (by omega)
              obtain ⟨vx, rx, ax, bx⟩ := part_at (w := w) hud hi hsz hone hb1
              obtain ⟨vy, ry, ay, by'⟩ := part_at (w := w) hud hi hsz hone (show j * m.length + m.length ≤ ys.length by omega)
              obtain ⟨p1, p2, hp1, hp2, rfl⟩ := eqL_append (n := m.length) (by simp; omega) hp
              rw [List.replicate_succ, List.flatten_cons] at hokj
              have ho := okL_append hokj
              have hr := ih e m hm _ _ p1 w ho.1 hp1 vx vy (by rw [hud]; exact fun hA => ⟨ax hA, ay hA⟩) (by rw [hud]; exact fun hA => ⟨bx hA, by' hA⟩)
              simp only [List.range'_succ, List.forIn_cons, Sem.run_bind, rx, ry, hr, Result.andThen_ok]
              cases p1
              · simp
              · have hnext := ihc (j + 1) p2 (by omega) (by rw [Nat.succ_mul, ← List.drop_drop, ← List.drop_drop]; exact hp2) (by rw [Nat.succ_mul, ← List.drop_drop]; exact ho.2)
                simp only [Bool.not_true, Bool.false_eq_true, if_false, Sem.run_pure, Result.andThen_ok, Bool.true_and]
                exact hnext
          have hf := hfor n 0 b (by omega) (by simpa using heq) (by simpa using hok)
          simp only [Op.equalIn, Sem.run_bind, rk_underlying hu, Result.andThen_ok, hszr]
          rw [Std.Legacy.Range.forIn_eq_forIn_range']
          simp only [Std.Legacy.Range.size, Nat.sub_zero, Nat.add_sub_cancel, Nat.div_one]
          rw [hf]
          cases b <;> simp
        · cases h
      · cases h
    · cases h

class Leaf (P : Program) (t : TypeId) (ts : outParam (List TypeId)) : Prop where
  eq : leafTys P 20 t = some ts
  agg : isAggD ((P.underlying t).getD .bool) = true
  guard : P.eqGuardType P.depth t = false

variable {c : Cx} {sl : Slots} {hs : List Asn} {dst : Option Tmp} {ty : TypeId} {pos : String} {af : Array Edge} {g : Option (Nat × Bool)}

theorem rk_equal_agg {t : TypeId} {ts : List TypeId} [h : Leaf P t ts] {xs ys : List Value} {b : Bool} (hok : okL P ts xs = true) (heq : eqL xs ys = some b) (w : World) : (Op.equalIn 10000 t (.agg xs.toArray) (.agg ys.toArray)).run P w = .ok b w :=
  leafTys_ok 20 9980 t ts h.eq xs ys b w hok heq _ _ (fun _ => ⟨rfl, rfl⟩) (fun hn => by rw [h.agg] at hn; cases hn)

theorem rk_eqlA {t u : TypeId} {ts : List TypeId} [h : Leaf P t ts] {x y : Operand} {xs ys : List Value} {b : Bool} (hx : Is sl x (.agg xs.toArray)) (hy : Is sl y (.agg ys.toArray)) (hok : okL P ts xs = true) (heq : eqL xs ys = some b) :
    RunV P c sl hs ⟨dst, .binOp .eql t x y u, ty, pos, af, g⟩ (.bool b) :=
  rk_bin hx hy fun w => by
    rw [Sem.run_bind, run_eqGuard_agg w _ _ _ _ _ _ h.guard, Result.andThen_ok, run_eql_struct, rk_equal_agg hok heq]; rfl
theorem rk_neqA {t u : TypeId} {ts : List TypeId} [h : Leaf P t ts] {x y : Operand} {xs ys : List Value} {b : Bool} (hx : Is sl x (.agg xs.toArray)) (hy : Is sl y (.agg ys.toArray)) (hok : okL P ts xs = true) (heq : eqL xs ys = some b) :
    RunV P c sl hs ⟨dst, .binOp .neq t x y u, ty, pos, af, g⟩ (.bool (!b)) :=
  rk_bin hx hy fun w => by
    rw [Sem.run_bind, run_eqGuard_agg w _ _ _ _ _ _ h.guard, Result.andThen_ok, run_neq_struct, rk_equal_agg hok heq]; rfl
/-- the leaves' kinds, looked up -/
theorem okL_nil : okL P [] [] = true := rfl
theorem okL_int {t : TypeId} {k : IntKind} {ts : List TypeId} {n : Int} {xs : List Value} [h : Und P t (.int k)] (hr : okL P ts xs = true) : okL P (t :: ts) (.int k n :: xs) = true := by
  simp [okL, leafOk, h.eq, hr]
theorem okL_string {t : TypeId} {ts : List TypeId} {s : ByteArray} {xs : List Value} [h : Und P t .string] (hr : okL P ts xs = true) : okL P (t :: ts) (.string s :: xs) = true := by
  simp [okL, leafOk, h.eq, hr]
theorem okL_bool {t : TypeId} {ts : List TypeId} {b : Bool} {xs : List Value} [h : Und P t .bool] (hr : okL P ts xs = true) : okL P (t :: ts) (.bool b :: xs) = true := by
  simp [okL, leafOk, h.eq, hr]
end
end Go.SL

/- GkPlan -/
/- The rules by which a plan for a drawing region is made, step by step; ends of functions. -/
namespace Go.SL
open Go

/-- an operand's value, reckoned -/
def ev (sl : Slots) : Operand → Option Value
  | .tmp t => sget sl t
  | .const v => some v
  | .global g => some (.pointer (some ⟨g, 0, none⟩))
  | .func f => some (.func (.func f) #[] #[])
theorem Is.of {sl : Slots} {x : Operand} {v : Value} (h : ev sl x = some v) : Is sl x v := fun a ha => by
  cases x with
  | tmp t => exact ha.eval h
  | const u => exact Option.some.inj h
  | global g => exact Option.some.inj h
  | func f => exact Option.some.inj h
theorem Is.ofg {sl : Slots} {x : Operand} {c : Bool} {v : Value} (hc : c = true) (h : ev sl x = some (SL.gv c v)) : Is sl x v := (gv_true hc (v := v)) ▸ Is.of h

class Mix (P : Program) : Prop where
  eq : P.follows .mixedOrders = true

section
variable {P : Program} {r : Option Nat} {c : Cx} {D : List Nat} {sl : Slots} {rl : RSlots} {hs hs' : List Asn} {Q : Exit → Act → World → Prop} {ops : Array Oper} {m d : Nat} {dst : Option Tmp} {op : Op} {ty : TypeId} {pos : String} {af : Array Edge} {g : Option (Nat × Bool)} {rest : List Oper}

def AnyT (P : Program) (r : Option Nat) (c : Cx) (D : List Nat) (hs : List Asn) (ops : Array Oper) (Q : Exit → Act → World → Prop) (m : Nat) (l : List Oper) (sl : Slots) (rl : RSlots) : Prop :=
  ∃ S sl' rl', Plan P c hs ops (l.take m) sl rl S sl' rl' ∧ ∀ a w, St c D sl' hs a w → RelsOk rl' a w → WL P r ops Q (l.drop m) a w

theorem tr_draw {id : Nat} {l : List Oper} (m : Nat) [hmix : Mix P] (hck : regOk l m = true) (k : AnyT P r c D hs l.toArray Q m l sl []) : Tr c D sl hs (WP P r (.region id l.toArray true) Q) := by
  obtain ⟨S, sl', rl', hp, ht⟩ := k
  exact tr_draw_plan hmix.eq hck hp ht

theorem any_end {l : List Oper} (k : Tr c D sl hs (WL P r ops Q l)) : AnyT P r c D hs ops Q 0 l sl rl :=
  ⟨[], sl, rl, .nil, fun a w hst _ => k a w hst⟩
/-- ending with what is known of made memory -/
theorem any_endR {l : List Oper} (k : ∀ a w, St c D sl hs a w → RelsOk rl a w → WL P r ops Q l a w) : AnyT P r c D hs ops Q 0 l sl rl :=
  ⟨[], sl, rl, .nil, k⟩

theorem any_stepV {o : Oper} {V : Value} (ho : o.dst = some d) (hd : Nat.blt d c.nt = true) (h : StepQ P c hs ops sl rl o (.val V)) (k : AnyT P r c D hs ops Q m rest ((d, V) :: sl) rl) : AnyT P r c D hs ops Q (m + 1) (o :: rest) sl rl := by
  obtain ⟨S, sl', rl', hp, ht⟩ := k
  exact ⟨_, _, _, .val ho (by simpa [Nat.blt_eq] using hd) h hp, ht⟩
theorem any_stepR {o : Oper} {R : Rel} (ho : o.dst = some d) (hd : Nat.blt d c.nt = true) (hn : sget sl d = none) (h : StepQ P c hs ops sl rl o R) (k : AnyT P r c D hs ops Q m rest sl ((d, R) :: rl)) : AnyT P r c D hs ops Q (m + 1) (o :: rest) sl rl := by
  obtain ⟨S, sl', rl', hp, ht⟩ := k
  exact ⟨_, _, _, .rel ho (by simpa [Nat.blt_eq] using hd) hn h hp, ht⟩

theorem stepQ_of {o : Oper} {R : Rel} (hg : o.guard = none) (h : ∀ a w, SlotsOk sl a → RelsAt (o.looksAt ops) rl a w → Mem c hs w → QRun P o a w R) : StepQ P c hs ops sl rl o R := fun a w h1 h2 h3 => by
  rw [if_pos (by simp [Region.wanted, hg])]
  exact h a w h1 h2 h3

theorem qrun_val {o : Oper} {V : Value} (hr : RunV P c sl hs o V) {a : Act} {w : World} (h1 : SlotsOk sl a) (h3 : Mem c hs w) : QRun P o a w (.val V) := by
  unfold QRun
  rw [hr.2 a w h1 h3]
  exact ⟨.refl _ _, rfl⟩

theorem qrun_call {o : Oper} {f : FuncId} {args : List Value} {V : Value} (hr : RunC P sl o f args) {a : Act} {w : World} (h1 : SlotsOk sl a) (hc : GivesV P f args w V) : QRun P o a w (.val V) := by
  unfold QRun
  rw [hr.2 a w h1]
  exact ⟨rfl, hc.mono fun e w' ⟨he, hk⟩ => ⟨V, he, hk, rfl⟩⟩

theorem any_val {V : Value} (hr : RunV P c sl hs ⟨some d, op, ty, pos, af, none⟩ V) (hd : Nat.blt d c.nt = true) (k : AnyT P r c D hs ops Q m rest ((d, V) :: sl) rl) :
    AnyT P r c D hs ops Q (m + 1) (⟨some d, op, ty, pos, af, none⟩ :: rest) sl rl :=
  any_stepV rfl hd (stepQ_of rfl fun _ _ h1 _ h3 => qrun_val hr h1 h3) k

theorem any_call {f : FuncId} {args : List Value} {V : Value} (hr : RunC P sl ⟨some d, op, ty, pos, af, none⟩ f args) (hd : Nat.blt d c.nt = true) (hc : ∀ w, Mem c hs w → GivesV P f args w V) (k : AnyT P r c D hs ops Q m rest ((d, V) :: sl) rl) :
    AnyT P r c D hs ops Q (m + 1) (⟨some d, op, ty, pos, af, none⟩ :: rest) sl rl :=
  any_stepV rfl hd (stepQ_of rfl fun _ w h1 _ h3 => qrun_call hr h1 (hc w h3)) k

theorem stepQ_guard {o : Oper} {V : Value} {j gs : Nat} {want c0 q : Bool} (hg : o.guard = some (j, want)) (hj : ((ops[j]?).bind (·.dst)) = some gs) (hq : sget sl gs = some (gv c0 (.bool q)))
    (h : (c0 && (q == want)) = true → ∀ a w, SlotsOk sl a → Mem c hs w → QRun P o a w (.val V)) : StepQ P c hs ops sl rl o (.val (gv (c0 && (q == want)) V)) := fun a w h1 _ h3 => by
  rw [wanted_gv hg hj h1 hq]
  by_cases hc : (c0 && (q == want)) = true
  · rw [if_pos hc, gv_true hc]
    exact h hc a w h1 h3
  · rw [if_neg hc, gv_false (by simpa using hc)]
    rfl

theorem any_valG {V : Value} {j gs : Nat} {want c0 q : Bool} (hj : ((ops[j]?).bind (·.dst)) = some gs) (hq : sget sl gs = some (gv c0 (.bool q)))
    (hr : (c0 && (q == want)) = true → RunV P c sl hs ⟨some d, op, ty, pos, af, some (j, want)⟩ V) (hd : Nat.blt d c.nt = true) (k : AnyT P r c D hs ops Q m rest ((d, gv (c0 && (q == want)) V) :: sl) rl) :
    AnyT P r c D hs ops Q (m + 1) (⟨some d, op, ty, pos, af, some (j, want)⟩ :: rest) sl rl :=
  any_stepV rfl hd (stepQ_guard rfl hj hq fun hc _ _ h1 h3 => qrun_val (hr hc) h1 h3) k
theorem any_valG1 {V : Value} {j gs : Nat} {want q : Bool} (hj : ((ops[j]?).bind (·.dst)) = some gs) (hq : sget sl gs = some (.bool q))
    (hr : (q == want) = true → RunV P c sl hs ⟨some d, op, ty, pos, af, some (j, want)⟩ V) (hd : Nat.blt d c.nt = true) (k : AnyT P r c D hs ops Q m rest ((d, gv (q == want) V) :: sl) rl) :
    AnyT P r c D hs ops Q (m + 1) (⟨some d, op, ty, pos, af, some (j, want)⟩ :: rest) sl rl :=
  any_valG (c0 := true) hj (by rw [hq]; rfl) (by simpa using hr) hd (by simpa using k)
theorem any_callG {f : FuncId} {args : List Value} {V : Value} {j gs : Nat} {want c0 q : Bool} (hj : ((ops[j]?).bind (·.dst)) = some gs) (hq : sget sl gs = some (gv c0 (.bool q)))
    (hr : (c0 && (q == want)) = true → RunC P sl ⟨some d, op, ty, pos, af, some (j, want)⟩ f args) (hd : Nat.blt d c.nt = true) (hc : (c0 && (q == want)) = true → ∀ w, Mem c hs w → GivesV P f args w V) (k : AnyT P r c D hs ops Q m rest ((d, gv (c0 && (q == want)) V) :: sl) rl) :
    AnyT P r c D hs ops Q (m + 1) (⟨some d, op, ty, pos, af, some (j, want)⟩ :: rest) sl rl :=
  any_stepV rfl hd (stepQ_guard rfl hj hq fun h _ w h1 h3 => qrun_call (hr h) h1 (hc h w h3)) k
theorem any_callG1 {f : FuncId} {args : List Value} {V : Value} {j gs : Nat} {want q : Bool} (hj : ((ops[j]?).bind (·.dst)) = some gs) (hq : sget sl gs = some (.bool q))
    (hr : (q == want) = true → RunC P sl ⟨some d, op, ty, pos, af, some (j, want)⟩ f args) (hd : Nat.blt d c.nt = true) (hc : (q == want) = true → ∀ w, Mem c hs w → GivesV P f args w V) (k : AnyT P r c D hs ops Q m rest ((d, gv (q == want) V) :: sl) rl) :
    AnyT P r c D hs ops Q (m + 1) (⟨some d, op, ty, pos, af, some (j, want)⟩ :: rest) sl rl :=
  any_callG (c0 := true) hj (by rw [hq]; rfl) (by simpa using hr) hd (by simpa using hc) (by simpa using k)

/-! guarded calls ahead of a walk in the text's order -/
theorem tr_callVG {f : FuncId} {args : List Value} {V : Value} {j gs : Nat} {want c0 q : Bool} (hj : ((ops[j]?).bind (·.dst)) = some gs) (hq : sget sl gs = some (gv c0 (.bool q)))
    (hr : (c0 && (q == want)) = true → RunC P sl ⟨some d, op, ty, pos, af, some (j, want)⟩ f args) (hd : Nat.blt d c.nt = true) (hc : (c0 && (q == want)) = true → ∀ w, Mem c hs w → GivesV P f args w V)
    (k : Tr c D ((d, gv (c0 && (q == want)) V) :: sl) hs (WL P r ops Q rest)) : Tr c D sl hs (WL P r ops Q (⟨some d, op, ty, pos, af, some (j, want)⟩ :: rest)) := fun a w hst => by
  unfold WL
  rw [wanted_gv rfl hj hst.slots hq]
  by_cases h : (c0 && (q == want)) = true
  · rw [if_pos h]
    rw [gv_true h] at k
    refine ⟨fr_about _ _ _ _ _, ?_⟩
    rw [Oper.semAt_eq _ _ _ (hr h).1, (hr h).2 a w hst.slots]
    exact ⟨by simp [FR, Fence.wide], (calls_wide (hc h w hst.mem')).mono fun e w' ⟨he, hk⟩ => by
      subst he
      exact k _ _ ((hst.put (by simpa [Nat.blt_eq] using hd) V).heap (hst.mem.keepsOn hk))⟩
  · rw [if_neg h]
    rw [gv_false (by simpa using h)] at k
    exact k _ _ (hst.put (by simpa [Nat.blt_eq] using hd) undef)
theorem tr_callVG1 {f : FuncId} {args : List Value} {V : Value} {j gs : Nat} {want q : Bool} (hj : ((ops[j]?).bind (·.dst)) = some gs) (hq : sget sl gs = some (.bool q))
    (hr : (q == want) = true → RunC P sl ⟨some d, op, ty, pos, af, some (j, want)⟩ f args) (hd : Nat.blt d c.nt = true) (hc : (q == want) = true → ∀ w, Mem c hs w → GivesV P f args w V)
    (k : Tr c D ((d, gv (q == want) V) :: sl) hs (WL P r ops Q rest)) : Tr c D sl hs (WL P r ops Q (⟨some d, op, ty, pos, af, some (j, want)⟩ :: rest)) :=
  tr_callVG (c0 := true) hj (by rw [hq]; rfl) (by simpa using hr) hd (by simpa using hc) (by simpa using k)

/-! memory made within a drawing region -/
def relNew (V : Nat → Value) (ob : Obj) : Rel := ⟨fun v w => ∃ b, v = V b ∧ w.heap[b]? = some ob, fun ⟨b, e, h⟩ hk => ⟨b, e, by rw [hk.block b (hp_lt h) (by simp)]; exact h⟩⟩

theorem any_new {V : Nat → Value} {ob : Obj} (hr : RunN P c sl hs ⟨some d, op, ty, pos, af, none⟩ V ob) (hd : Nat.blt d c.nt = true) (hn : sget sl d = none) (k : AnyT P r c D hs ops Q m rest sl ((d, relNew V ob) :: rl)) :
    AnyT P r c D hs ops Q (m + 1) (⟨some d, op, ty, pos, af, none⟩ :: rest) sl rl :=
  any_stepR rfl hd hn (stepQ_of rfl fun a w h1 _ h3 => by
    unfold QRun
    rw [hr.2 a w h1 h3]
    exact ⟨.alloc _ _ _, w.heap.size, rfl, World.alloc_heap_new w ob⟩) k

/-- a call one of whose arguments is memory made in this region -/
theorem any_callN {f : FuncId} {t : Nat} {V : Nat → Value} {ob : Obj} {args : Nat → List Value} {W : Value} (hm : (t, relNew V ob) ∈ rl) (ht : t ∈ Oper.looksAt ops ⟨some d, op, ty, pos, af, none⟩)
    (hr : ∀ b, RunC P ((t, V b) :: sl) ⟨some d, op, ty, pos, af, none⟩ f (args b)) (hd : Nat.blt d c.nt = true) (hc : ∀ b w, Mem c hs w → w.heap[b]? = some ob → GivesV P f (args b) w W) (k : AnyT P r c D hs ops Q m rest ((d, W) :: sl) rl) :
    AnyT P r c D hs ops Q (m + 1) (⟨some d, op, ty, pos, af, none⟩ :: rest) sl rl :=
  any_stepV rfl hd (stepQ_of rfl fun a w h1 h2 h3 => by
    obtain ⟨v, hv, b, rfl, hb⟩ := h2 t _ hm ht
    refine qrun_call (hr b) ?_ (hc b w h3 hb)
    intro t' v' hv'
    by_cases e : t = t'
    · subst e; rw [sget_cons_eq] at hv'; cases hv'; exact hv
    · rw [sget_cons_ne e] at hv'; exact h1 t' v' hv') k

/-! ### ends -/
theorem rk_results1 {fn : Func} {t : Tmp} (h : fn.results = #[.tmp t]) {sl : Slots} {v : Value} (hv : sget sl t = some v) {a : Act} (ha : SlotsOk sl a) (w : World) : (results fn a.tmps).run P w = .ok v w := by
  have := ha t v hv
  simp [results, h, Array.getD_eq_getD_getElem?, this]
theorem rk_results2 {fn : Func} {t u : Tmp} (h : fn.results = #[.tmp t, .tmp u]) {sl : Slots} {v x : Value} (hv : sget sl t = some v) (hx : sget sl u = some x) {a : Act} (ha : SlotsOk sl a) (w : World) : (results fn a.tmps).run P w = .ok (.tuple #[v, x]) w := by
  have h1 := ha t v hv
  have h2 := ha u x hx
  simp [results, h, Array.getD_eq_getD_getElem?, h1, h2]
theorem rk_results3 {fn : Func} {t u s : Tmp} (h : fn.results = #[.tmp t, .tmp u, .tmp s]) {sl : Slots} {v x y : Value} (hv : sget sl t = some v) (hx : sget sl u = some x) (hy : sget sl s = some y) {a : Act} (ha : SlotsOk sl a) (w : World) : (results fn a.tmps).run P w = .ok (.tuple #[v, x, y]) w := by
  have h1 := ha t v hv
  have h2 := ha u x hx
  have h3 := ha s y hy
  simp [results, h, Array.getD_eq_getD_getElem?, h1, h2, h3]
theorem rk_results0 {fn : Func} (h : fn.results = #[]) {a : Act} (w : World) : (results fn a.tmps).run P w = .ok (.tuple #[]) w := by
  simp [results, h]

/-- the results, read off in any world that fits -/
def Ends (P : Program) (fn : Func) (c : Cx) (sl : Slots) (hs : List Asn) (v : Value) : Prop := ∀ a w, SlotsOk sl a → Mem c hs w → (results fn a.tmps).run P w = .ok v w

theorem ends1 {fn : Func} {t : Tmp} {v : Value} (h : fn.results = #[.tmp t]) (hv : sget sl t = some v) : Ends P fn c sl hs v := fun _ w ha _ => rk_results1 h hv ha w
theorem ends2 {fn : Func} {t u : Tmp} {v x : Value} (h : fn.results = #[.tmp t, .tmp u]) (hv : sget sl t = some v) (hx : sget sl u = some x) : Ends P fn c sl hs (.tuple #[v, x]) := fun _ w ha _ => rk_results2 h hv hx ha w
theorem ends3 {fn : Func} {t u s : Tmp} {v x y : Value} (h : fn.results = #[.tmp t, .tmp u, .tmp s]) (hv : sget sl t = some v) (hx : sget sl u = some x) (hy : sget sl s = some y) : Ends P fn c sl hs (.tuple #[v, x, y]) := fun _ w ha _ => rk_results3 h hv hx hy ha w
theorem ends0 {fn : Func} (h : fn.results = #[]) : Ends P fn c sl hs (.tuple #[]) := fun _ w _ _ => rk_results0 h w
/-- a result that lies in memory -/
theorem ends1c {fn : Func} {t : Tmp} {T : TypeId} {b o n : Nat} {v : Value} [Ty P T false n] (h : fn.results = #[.cell t T]) (hp : sget sl t = some (.pointer (some ⟨b, o, none⟩))) (hv : At c hs b o v) : Ends P fn c sl hs v := fun a w ha hm => by
  have h1 := ha t _ hp
  simp [results, h, Array.getD_eq_getD_getElem?, h1, asAddr, rk_loadVar1 (hv w hm)]
theorem ends1cN {fn : Func} {t : Tmp} {T : TypeId} {b o n : Nat} {vs : List Value} [Ty P T true n] (h : fn.results = #[.cell t T]) (hp : sget sl t = some (.pointer (some ⟨b, o, none⟩))) (hv : Ats c hs b o vs) (hl : vs.length = n) : Ends P fn c sl hs (.agg vs.toArray) := fun a w ha hm => by
  have h1 := ha t _ hp
  simp [results, h, Array.getD_eq_getD_getElem?, h1, asAddr, rk_loadVarN hl (fun j v h => hv.get j v h w hm)]

/-- a result in memory (of whatever type) by a fact on its load -/
def Loads (P : Program) (c : Cx) (hs : List Asn) (T : TypeId) (b o : Nat) (v : Value) : Prop := ∀ w, Mem c hs w → (loadVar T ⟨b, o, none⟩).run P w = .ok v w
theorem loads1 {T : TypeId} {b o n : Nat} {v : Value} [Ty P T false n] (hv : At c hs b o v) : Loads P c hs T b o v := fun w hm => rk_loadVar1 (hv w hm)
theorem loadsN {T : TypeId} {b o n : Nat} {vs : List Value} [Ty P T true n] (hv : Ats c hs b o vs) (hl : vs.length = n) : Loads P c hs T b o (.agg vs.toArray) := fun w hm => rk_loadVarN hl (fun j v h => hv.get j v h w hm)

inductive RV (P : Program) (c : Cx) (sl : Slots) (hs : List Asn) : ResultVar → Value → Prop
  | tmp {t : Tmp} {v : Value} (h : sget sl t = some v) : RV P c sl hs (.tmp t) v
  | cell {t : Tmp} {T : TypeId} {b o : Nat} {v : Value} (h : sget sl t = some (.pointer (some ⟨b, o, none⟩))) (hl : Loads P c hs T b o v) : RV P c sl hs (.cell t T) v
inductive RVs (P : Program) (c : Cx) (sl : Slots) (hs : List Asn) : List ResultVar → List Value → Prop
  | nil : RVs P c sl hs [] []
  | cons {x : ResultVar} {xs : List ResultVar} {v : Value} {vs : List Value} (h : RV P c sl hs x v) (t : RVs P c sl hs xs vs) : RVs P c sl hs (x :: xs) (v :: vs)

def rvGet (tmps : Array Value) : ResultVar → Sem Value
  | .tmp t => pure (tmps.getD t undef)
  | .cell a t => do loadVar t (← asAddr (tmps.getD a undef))

theorem rvs_run {xs : List ResultVar} {vs : List Value} (h : RVs P c sl hs xs vs) {a : Act} {w : World} (ha : SlotsOk sl a) (hm : Mem c hs w) : (xs.mapM (rvGet a.tmps)).run P w = .ok vs w := by
  induction h with
  | nil => simp
  | cons h _ ih =>
    cases h with
    | tmp h => simp [rvGet, Array.getD_eq_getD_getElem?, ha _ _ h, ih]
    | cell h hl => simp [rvGet, Array.getD_eq_getD_getElem?, ha _ _ h, asAddr, hl w hm, ih]

theorem endsL {fn : Func} {xs : List ResultVar} {vs : List Value} (hx : fn.results = xs.toArray) (h : RVs P c sl hs xs vs) (hl : vs.length ≠ 1) : Ends P fn c sl hs (.tuple vs.toArray) := fun a w ha hm => by
  have := rvs_run h ha hm
  have h2 : (Array.mapM (rvGet a.tmps) xs.toArray).run P w = .ok vs.toArray w := by
    rw [List.mapM_toArray]
    simp [this]
  unfold results
  rw [hx]
  change Sem.run P (Array.mapM (rvGet a.tmps) xs.toArray >>= fun vs => pure (if h : vs.size = 1 then vs[0] else Value.tuple vs)) w = _
  rw [Sem.run_bind, h2, Result.andThen_ok, Sem.run_pure]
  rw [dif_neg (by simpa using hl)]

/-- the shape of a contract's end -/
theorem tr_retV {fn : Func} {v : Value} (hmd : c.md = []) (he : Ends P fn c sl hs v) :
    Tr c [] sl hs (bodyPostM (FR r) 0 P fn (fun e w' => e = .returned v ∧ Keeps [] c.w0 w') .ret) := fun a w hst => by
  have hm := hst.mem'
  show LeavesInM (FR r) 0 P fn a.tmps _ a.defers .returning w
  rw [hst.defers]
  exact ⟨v, he a w hst.slots hm, rfl, by rw [← hmd]; exact hm.keeps⟩
theorem tr_endV {fn : Func} {v : Value} (hmd : c.md = []) (he : Ends P fn c sl hs v) :
    Tr c [] sl hs (bodyPostM (FR r) 0 P fn (fun e w' => e = .returned v ∧ Keeps [] c.w0 w') .normal) := tr_retV (r := r) hmd he

/-- the same, the value brought into its form afterwards -/
theorem tr_retE {fn : Func} {v v' : Value} (hmd : c.md = []) (he : Ends P fn c sl hs v') (hv : v' = v) :
    Tr c [] sl hs (bodyPostM (FR r) 0 P fn (fun e w' => e = .returned v ∧ Keeps [] c.w0 w') .ret) := hv ▸ tr_retV hmd he
theorem tr_endE {fn : Func} {v v' : Value} (hmd : c.md = []) (he : Ends P fn c sl hs v') (hv : v' = v) :
    Tr c [] sl hs (bodyPostM (FR r) 0 P fn (fun e w' => e = .returned v ∧ Keeps [] c.w0 w') .normal) := hv ▸ tr_endV (r := r) hmd he

theorem leaves_marks {fn : Func} {v : Value} {R : Ending → World → Prop} : ∀ (D : List Nat) (w : World) (a : Act), a.defers = D.map mark → SlotsOk sl a → Mem c (hs ++ mks D) w → Ends P fn c sl hs v →
    (∀ w', Mem c hs w' → R (.returned v) w') → LeavesInM (FR r) 0 P fn a.tmps R (D.map mark) .returning w
  | [], w, a, _, ha, hm, he, hR => ⟨v, he a w ha (by simpa [mks] using hm), hR w (by simpa [mks] using hm)⟩
  | b :: D, w, a, _, ha, hm, he, hR => by
    have htake : Take (hs ++ mks (b :: D)) (blk b (.deferred (some []))) (hs ++ mks D) := by
      clear hm he hR
      induction hs with
      | nil => exact .here
      | cons A hs ih => exact .there ih
    have hm2 := hm.take htake
    have hb : w.heap[b]? = some (.deferred (some [])) := hm2.blk .here
    refine ⟨by simp, .inl ⟨b, w.putObj b (.deferred none), rfl, run_takeDeferred hb, ?_⟩⟩
    have hk : Keeps [b] w (w.putObj b (.deferred none)) := ⟨rfl, rfl, rfl, by simp, fun k _ hn => World.putObj_heap_other (by simpa using hn)⟩
    have hm3 : Mem c (hs ++ mks D) (w.putObj b (.deferred none)) := (Mem.store hm2 hk (World.putObj_heap_same (hp_lt (w := w) hb))).dropHead
    exact leaves_marks D _ { a with defers := D.map mark } rfl ha hm3 he hR

/-- the end of a function that held range-over-func statements too -/
theorem tr_retM {fn : Func} {v : Value} {R : Ending → World → Prop} (he : Ends P fn c sl hs v) (hR : ∀ w', Mem c hs w' → R (.returned v) w') :
    Tr c D sl hs (bodyPostM (FR r) 0 P fn R .ret) := fun a w hst => by
  show LeavesInM (FR r) 0 P fn a.tmps R a.defers .returning w
  rw [hst.defers]
  exact leaves_marks D w a hst.defers hst.slots hst.mem he hR
theorem tr_endM {fn : Func} {v : Value} {R : Ending → World → Prop} (he : Ends P fn c sl hs v) (hR : ∀ w', Mem c hs w' → R (.returned v) w') :
    Tr c D sl hs (bodyPostM (FR r) 0 P fn R .normal) := tr_retM (r := r) he hR

theorem givesV_of_tr {f : FuncId} {fn : Func} {code : Code} {args : List Value} {w : World} {V : Value} (hf : P.funcs[f]? = some fn) (hb : fn.body = some code) (hl : Nat.ble args.length fn.ntmps = true)
    (h : Tr ⟨w, [], fn.ntmps⟩ [] (argSlots 0 args) [] (WP P none code (bodyPostM (FR none) 0 P fn (fun e w' => e = .returned V ∧ Keeps [] w w')))) : GivesV P f args w V :=
  calls_of_tr (hs0 := []) hf hb (by simpa using hl) ⟨[], List.nodup_nil, rfl, fun _ h => by cases h⟩ h
theorem gives_of_tr {f : FuncId} {fn : Func} {code : Code} {args : List Value} {w : World} {ι : Type} {Φ : ι → Prop} {val : ι → Value} {own : ι → List Asn} (hf : P.funcs[f]? = some fn) (hb : fn.body = some code) (hl : Nat.ble args.length fn.ntmps = true)
    (h : Tr ⟨w, [], fn.ntmps⟩ [] (argSlots 0 args) [] (WP P none code (bodyPostM (FR none) 0 P fn (fun e w' => ∃ x, e = .returned (val x) ∧ Φ x ∧ Keeps [] w w' ∧ ∃ fp : List Nat, fp.Nodup ∧ Sats (hp w') (own x) fp ∧ ∀ b ∈ fp, b ∈ ([] : List Nat) ∨ w.heap.size ≤ b)))) :
    Gives P f args w [] Φ val own :=
  calls_of_tr (hs0 := []) hf hb (by simpa using hl) ⟨[], List.nodup_nil, rfl, fun _ h => by cases h⟩ h
/-- with memory that is taken in -/
theorem givesM_of_tr {f : FuncId} {fn : Func} {code : Code} {args : List Value} {w : World} {fp0 : List Nat} {As : List Asn} {ι : Type} {Φ : ι → Prop} {val : ι → Value} {own : ι → List Asn} (hf : P.funcs[f]? = some fn) (hb : fn.body = some code) (hl : Nat.ble args.length fn.ntmps = true)
    (hn : fp0.Nodup) (hs0 : Sats (hp w) As fp0)
    (h : Tr ⟨w, fp0, fn.ntmps⟩ [] (argSlots 0 args) As (WP P none code (bodyPostM (FR none) 0 P fn (fun e w' => ∃ x, e = .returned (val x) ∧ Φ x ∧ Keeps fp0 w w' ∧ ∃ fp : List Nat, fp.Nodup ∧ Sats (hp w') (own x) fp ∧ ∀ b ∈ fp, b ∈ fp0 ∨ w.heap.size ≤ b)))) :
    Gives P f args w fp0 Φ val own :=
  calls_of_tr hf hb (by simpa using hl) ⟨fp0, hn, hs0, fun _ h => h⟩ h

/-- a contract whose results own memory -/
theorem gives_end {ι : Type} {Φ : ι → Prop} {val : ι → Value} {own : ι → List Asn} (x : ι) (hx : Φ x) {As : List Asn} (ht : Takes hs (own x) As) {w' : World} (hm : Mem c hs w') {v : Value} (hv : v = val x) :
    ∃ x, Ending.returned v = .returned (val x) ∧ Φ x ∧ Keeps c.md c.w0 w' ∧ ∃ fp : List Nat, fp.Nodup ∧ Sats (hp w') (own x) fp ∧ ∀ b ∈ fp, b ∈ c.md ∨ c.w0.heap.size ≤ b := by
  have h2 := (hm.takes ht).dropTail
  obtain ⟨k, fp, hn, hsat, hb⟩ := h2
  exact ⟨x, by rw [hv], hx, k, fp, hn, hsat, fun b hb' => (hb b hb').symm⟩
end
end Go.SL

/- GkRow -/
/- Slices: read (Rd), owned (row), appended to; loops. -/
namespace Go.SL
open Go

/-! ### slices that are read: rows of 'sz' cells -/
def Rd (w : World) (v : Value) (sz : Nat) (xs : List (List Value)) : Prop :=
  ∃ a cap b o, v = .slice a xs.length cap ∧ xs.length ≤ cap ∧ cap ≤ maxLen ∧ (xs ≠ [] → a = some ⟨b, o, none⟩) ∧ ∀ i r, xs[i]? = some r → r.length = sz ∧ ∀ j u, r[j]? = some u → w.cell? ⟨b, o + i * sz + j, none⟩ = some u

theorem Rd.keeps {w w' : World} {v : Value} {sz : Nat} {xs : List (List Value)} (h : Rd w v sz xs) (hk : Keeps [] w w') : Rd w' v sz xs := by
  obtain ⟨a, cap, b, o, h1, h2, h2', h3, h4⟩ := h
  refine ⟨a, cap, b, o, h1, h2, h2', h3, fun i r hr => ⟨(h4 i r hr).1, fun j u hu => ?_⟩⟩
  have := (h4 i r hr).2 j u hu
  have hb := World.block_lt_of_cell? w _ this
  rw [← this]
  simp only [World.cell?]
  rw [hk.block b hb (by simp)]

theorem Rd.nil (w : World) (sz : Nat) : Rd w (.slice none 0 0) sz [] := ⟨none, 0, 0, 0, rfl, Nat.le_refl _, by unfold maxLen; omega, fun h => absurd rfl h, fun i r h => by simp at h⟩

/-- an element, read in a state whose base is the world of the fact -/
theorem rd_ats {c : Cx} {hs : List Asn} {b o sz i : Nat} {xs : List (List Value)} {r : List Value} (h : ∀ i r, xs[i]? = some r → r.length = sz ∧ ∀ j u, r[j]? = some u → c.w0.cell? ⟨b, o + i * sz + j, none⟩ = some u) (hmd : c.md = []) (hr : xs[i]? = some r) : Ats c hs b (o + i * sz) r :=
  Ats.of_get fun j v hv => At.base ((h i r hr).2 j v hv) hmd
theorem rd_at1 {c : Cx} {hs : List Asn} {b o i : Nat} {xs : List (List Value)} {u : Value} (h : ∀ i r, xs[i]? = some r → r.length = 1 ∧ ∀ j u, r[j]? = some u → c.w0.cell? ⟨b, o + i * 1 + j, none⟩ = some u) (hmd : c.md = []) (hr : xs[i]? = some [u]) : At c hs b (o + i * 1) u :=
  At.base (by have := (h i _ hr).2 0 u rfl; simpa using this) hmd

theorem rd1 {w : World} {b o i : Nat} {xs : List (List Value)} {u : Value} (h : ∀ i r, xs[i]? = some r → r.length = 1 ∧ ∀ j u, r[j]? = some u → w.cell? ⟨b, o + i * 1 + j, none⟩ = some u) (hr : xs[i]? = some [u]) : w.cell? ⟨b, o + i * 1, none⟩ = some u := (h i _ hr).2 0 u rfl

/-- a literal block read as a slice -/
theorem Mem.rdBlk {c : Cx} {hs hs' : List Asn} {w : World} (hm : Mem c hs w) {b : Nat} {cs : List Value} {E : TypeId} {fz : Nat × Nat} (ht : Take hs (SL.blk b (.cells cs.toArray E fz)) hs') {n : Nat} (hn : cs.length = n) (hle : Nat.ble n 1000 = true) : Rd w (.slice (some ⟨b, 0, none⟩) n n) 1 (cs.map fun v => [v]) := by
  subst hn
  have hle' : cs.length ≤ 1000 := by simpa using hle
  refine ⟨_, cs.length, b, 0, by simp, by simp, by unfold maxLen; omega, fun _ => rfl, fun i r hr => ?_⟩
  rw [List.getElem?_map, Option.map_eq_some_iff] at hr
  obtain ⟨v, hv, rfl⟩ := hr
  refine ⟨rfl, fun j u hu => ?_⟩
  cases j with
  | zero =>
    simp only [List.getElem?_cons_zero, Option.some.injEq] at hu
    subst hu
    rw [cell_of_block (hm.blk ht)]
    simpa using hv
  | succ j => simp at hu

/-! ### owned rows -/
def row (E : TypeId) (sz : Nat) (v : Value) (n : Nat) (xs : List Value) : Asn where
  sat h fp := fp = v.ownBlock.toList ∧ xs.length = n * sz ∧ ((v = .slice none 0 0 ∧ n = 0) ∨
    ∃ g cap cur, v = .slice (some ⟨g, 0, none⟩) n cap ∧ h g = some (.cells cur E (0, 0)) ∧ n ≤ cap ∧ cap ≤ maxLen ∧ cur.size = cap * sz ∧ cur.toList.take (n * sz) = xs)
  loc := by
    rintro h h' fp ⟨e, hl, h1⟩ hb
    refine ⟨e, hl, h1.imp id ?_⟩
    rintro ⟨g, cap, cur, rfl, hg, r⟩
    exact ⟨g, cap, cur, rfl, by rw [hb g (by rw [e]; simp [Value.ownBlock])]; exact hg, r⟩
  own := by
    rintro h fp ⟨e, hl, h1⟩ b hb
    rcases h1 with ⟨rfl, _⟩ | ⟨g, cap, cur, rfl, hg, _⟩
    · rw [e] at hb; simp [Value.ownBlock] at hb
    · rw [e] at hb; simp [Value.ownBlock] at hb; subst hb; exact ⟨_, hg⟩

theorem row_owns {w : World} {E : TypeId} {sz : Nat} {v : Value} {n : Nat} {xs : List Value} {fp : List Nat} (h : (row E sz v n xs).sat (hp w) fp) : w.ownsRow 0 E sz v n xs := by
  obtain ⟨_, hl, h1⟩ := h
  exact ⟨hl, h1.imp id fun ⟨g, cap, cur, e, hg, r⟩ => ⟨g, cap, cur, e, Nat.zero_le _, hg, r⟩⟩
theorem row_of_owns {w : World} {E : TypeId} {sz : Nat} {v : Value} {n : Nat} {xs : List Value} (h : w.ownsRow 0 E sz v n xs) : (row E sz v n xs).sat (hp w) v.ownBlock.toList := by
  obtain ⟨hl, h1⟩ := h
  exact ⟨rfl, hl, h1.imp id fun ⟨g, cap, cur, e, _, hg, r⟩ => ⟨g, cap, cur, e, hg, r⟩⟩

/-- nothing yet -/
theorem Mem.rowNil {c : Cx} {hs : List Asn} {w : World} (hm : Mem c hs w) (E : TypeId) (sz : Nat) : Mem c (row E sz (.slice none 0 0) 0 [] :: hs) w :=
  Mem.change (As := []) (Bs := [row E sz (.slice none 0 0) 0 []]) hm fun fp _ hf => by
    rw [show fp = [] from hf]
    exact ⟨.refl _ _, [], List.nodup_nil, ⟨[], [], rfl, ⟨rfl, by simp, .inl ⟨rfl, rfl⟩⟩, rfl⟩, by simp⟩

theorem tr_rowNil {c : Cx} {D : List Nat} {sl : Slots} {hs : List Asn} {X : Act → World → Prop} (E : TypeId) (sz : Nat) (k : Tr c D sl (row E sz (.slice none 0 0) 0 [] :: hs) X) : Tr c D sl hs X := fun a w hst =>
  k a w (hst.heap (hst.mem.rowNil E sz))

theorem flatten_get {sz j : Nat} {r : List Value} {u : Value} : ∀ (xs : List (List Value)) (i : Nat), (∀ r ∈ xs, r.length = sz) → xs[i]? = some r → r[j]? = some u → xs.flatten[i * sz + j]? = some u
  | [], i, _, hr, _ => by simp at hr
  | x :: xs, 0, hx, hr, hu => by
    simp at hr; subst hr
    rw [List.flatten_cons, List.getElem?_append_left (by rw [Nat.zero_mul, Nat.zero_add]; exact (List.getElem?_eq_some_iff.1 hu).1), Nat.zero_mul, Nat.zero_add]
    exact hu
  | x :: xs, i + 1, hx, hr, hu => by
    have hxl := hx x (by simp)
    rw [List.flatten_cons, List.getElem?_append_right (by rw [hxl, Nat.succ_mul]; omega), hxl, Nat.succ_mul, show i * sz + sz + j - sz = i * sz + j from by omega]
    exact flatten_get xs i (fun r hr' => hx r (by simp [hr'])) (by simpa using hr) hu

/-- an owned row, read as a slice: rows of 'sz' cells -/
theorem row_rd {w : World} {E : TypeId} {sz : Nat} {v : Value} {n : Nat} {xs : List (List Value)} {fp : List Nat} (hx : ∀ r ∈ xs, r.length = sz) (hn : xs.length = n) (h : (row E sz v n xs.flatten).sat (hp w) fp) : Rd w v sz xs := by
  subst hn
  obtain ⟨_, hl, h1⟩ := h
  rcases h1 with ⟨rfl, hn⟩ | ⟨g, cap, cur, rfl, hg, hcap, hm, hsz, htake⟩
  · have : xs = [] := List.length_eq_zero_iff.1 hn
    subst this
    exact Rd.nil w sz
  · refine ⟨_, cap, g, 0, rfl, hcap, hm, fun _ => rfl, fun i r hr => ⟨hx r (List.mem_of_getElem? hr), fun j u hu => ?_⟩⟩
    have hgw : w.heap[g]? = some (.cells cur E (0, 0)) := hg
    rw [cell_of_block hgw]
    have hrl := hx r (List.mem_of_getElem? hr)
    have hi : i < xs.length := (List.getElem?_eq_some_iff.1 hr).1
    have hj : j < sz := by rw [← hrl]; exact (List.getElem?_eq_some_iff.1 hu).1
    have hflat : xs.flatten[i * sz + j]? = some u := flatten_get xs i hx hr hu
    have hlt : i * sz + j < xs.length * sz := by
      have : (i + 1) * sz ≤ xs.length * sz := Nat.mul_le_mul_right _ hi
      rw [Nat.succ_mul] at this
      omega
    rw [← htake, List.getElem?_take, if_pos hlt] at hflat
    simpa using hflat

theorem Mem.rdRow {c : Cx} {hs hs' : List Asn} {w : World} (hm : Mem c hs w) {E : TypeId} {sz : Nat} {v : Value} {n : Nat} {ys : List Value} {xs : List (List Value)} (ht : Take hs (row E sz v n ys) hs') (he : ys = xs.flatten) (hx : ∀ r ∈ xs, r.length = sz) (hn : xs.length = n) : Rd w v sz xs := by
  subst he
  obtain ⟨_, fp, _, ⟨f1, f2, _, h1, _⟩, _⟩ := hm.take ht
  exact row_rd hx hn h1

theorem flatten_singletons {α : Type} (l : List α) : (l.map fun v => [v]).flatten = l := by
  induction l with
  | nil => rfl
  | cons x l ih => simp [ih]

theorem Mem.rdRow1 {c : Cx} {hs hs' : List Asn} {w : World} (hm : Mem c hs w) {E : TypeId} {v : Value} {n : Nat} {ys : List Value} (ht : Take hs (row E 1 v n ys) hs') (hn : ys.length = n) : Rd w v 1 (ys.map fun u => [u]) :=
  hm.rdRow ht (flatten_singletons ys).symm (fun r hr => by obtain ⟨u, _, rfl⟩ := List.mem_map.1 hr; rfl) (by simpa using hn)

/-- the first cells of an owned row, opened -/
theorem tr_rowOpen {c : Cx} {D : List Nat} {sl : Slots} {hs hs' : List Asn} {X : Act → World → Prop} {E : TypeId} {sz : Nat} {v : Value} {n : Nat} {xs : List Value} (ht : Take hs (row E sz v n xs) hs') (hn : 0 < n)
    (k : ∀ g cap cur, v = .slice (some ⟨g, 0, none⟩) n cap → n ≤ cap → cap ≤ maxLen → (xs ++ cur).length = cap * sz → xs.length = n * sz → Tr c D sl (blk g (.cells (xs ++ cur).toArray E (0, 0)) :: hs') X) : Tr c D sl hs X := fun a w hst => by
  have hm := hst.mem.take (ht.append _)
  obtain ⟨kk, fp, hnd, ⟨f1, f2, rfl, ⟨e, hl, h1⟩, h2⟩, hb⟩ := hm
  rcases h1 with ⟨_, h0⟩ | ⟨g, cap, cur, rfl, hg, hcap, hmx, hsz, htake⟩
  · omega
  · have hcur : cur = (xs ++ cur.toList.drop (n * sz)).toArray := by
      rw [← htake, List.take_append_drop]
    have hlen : (xs ++ cur.toList.drop (n * sz)).length = cap * sz := by rw [← htake, List.take_append_drop]; simpa using hsz
    refine k g cap (cur.toList.drop (n * sz)) rfl hcap hmx hlen hl a w (hst.heap ⟨kk, f1 ++ f2, hnd, ⟨f1, f2, rfl, ⟨?_, ?_⟩, h2⟩, hb⟩)
    · rw [e]; rfl
    · rw [← hcur]; exact hg

/-- and shut again -/
theorem Mem.rowShut {c : Cx} {hs : List Asn} {w : World} {E : TypeId} {sz g n cap : Nat} {xs cur : List Value} (hm : Mem c (SL.blk g (.cells (xs ++ cur).toArray E (0, 0)) :: hs) w) (hcap : n ≤ cap) (hmx : cap ≤ maxLen) (hsz : (xs ++ cur).length = cap * sz) (hl : xs.length = n * sz) : Mem c (row E sz (.slice (some ⟨g, 0, none⟩) n cap) n xs :: hs) w := by
  obtain ⟨kk, fp, hnd, ⟨f1, f2, rfl, ⟨e, hg⟩, h2⟩, hb⟩ := hm
  refine ⟨kk, f1 ++ f2, hnd, ⟨f1, f2, rfl, ⟨by rw [e]; rfl, hl, .inr ⟨g, cap, _, rfl, hg, hcap, hmx, by simpa using hsz, ?_⟩⟩, h2⟩, hb⟩
  simp [← hl]
theorem tr_rowShut {c : Cx} {D : List Nat} {sl : Slots} {hs hs' : List Asn} {X : Act → World → Prop} {E : TypeId} {sz g n cap : Nat} {xs cur : List Value} (ht : Take hs (blk g (.cells (xs ++ cur).toArray E (0, 0))) hs') (hcap : n ≤ cap) (hmx : cap ≤ maxLen) (hsz : (xs ++ cur).length = cap * sz) (hl : xs.length = n * sz)
    (k : Tr c D sl (row E sz (.slice (some ⟨g, 0, none⟩) n cap) n xs :: hs') X) : Tr c D sl hs X := fun a w hst =>
  k a w (hst.heap (Mem.rowShut (hst.mem.take (ht.append _)) hcap hmx hsz hl))

/-! ### append -/
section
variable {P : Program} {r : Option Nat} {c : Cx} {D : List Nat} {sl : Slots} {hs hs' : List Asn} {ops : Array Oper} {Q : Exit → Act → World → Prop} {d : Nat} {ty : TypeId} {pos : String} {af : Array Edge} {rest : List Oper}

/-- where the row of an append lies -/
theorem append_loc {w w' : World} {t ty e : TypeId} {i : TypeInfo} {z : Value} (ht : P.underlying t = some (.slice e)) (hi : P.info? e = some i) (hz : i.zero = some z)
    {v v' : Value} {n : Nat} {xs : List Value} (hown : w.ownsRow 0 e i.size v n xs) {a : Addr} {m cp : Nat} {news : List Value} (hl : news.length = m * i.size) (hnews : ∀ j u, news[j]? = some u → w.cell? (a.add j) = some u) (h1 : ∀ u ∈ news, u.oneCell' = true)
    (h63 : n + m ≤ maxLen) (hbytes : (n + m) * i.bytes ≤ 140737488355328) (hrun : (Builtin.append_ #[t, t] ty #[v, .slice (some a) m cp]).run P w = .ok v' w') : v'.ownBlock = v.ownBlock ∨ v'.ownBlock = some w.heap.size := by
  have hsmall : n + m ≤ 9223372036854775807 := by simp only [maxLen] at h63; omega
  rcases hown.2 with ⟨rfl, rfl⟩ | ⟨g, cap, cur, rfl, hbg, hg, hnc, hcm, hcs, htake⟩
  · by_cases hm : m = 0
    · subst hm
      have hn : news = [] := List.eq_nil_of_length_eq_zero (by simpa using hl)
      subst hn
      have : (Builtin.append_ #[t, t] ty #[.slice none 0 0, .slice (some a) 0 cp]).run P w = .ok (.slice none 0 0) w := by
        simp [Builtin.append_, rk_underlying ht, sizeOf, typeInfo, hi, Builtin.lenOf, Builtin.firstCells, loadCells, loadCellsFrom]
      rw [hrun] at this
      cases this
      exact .inl rfl
    · have hr := run_append_nil (P := P) w t ty e i z ht hi hz a m cp news hl hnews (by omega) (by omega) (by have hb := hbytes; simp only [Nat.zero_add] at hb; omega)
      rw [hrun] at hr
      cases hr
      exact .inr rfl
  · by_cases hroom : n + m ≤ cap
    · have hfit : n * i.size + news.length ≤ cur.size := by rw [hl, hcs, ← Nat.add_mul]; exact Nat.mul_le_mul_right _ hroom
      have hr := run_append_room (P := P) w t ty e i ht hi g n cap cur hg a m cp news hl hnews h1 hroom hfit
      rw [hrun] at hr
      cases hr
      exact .inl rfl
    · have holds : ∀ j u, xs[j]? = some u → w.cell? ((⟨g, 0, none⟩ : Addr).add j) = some u := hown.cells (g := g) rfl
      have hr := run_append_grow (P := P) w t ty e i z ht hi hz ⟨g, 0, none⟩ n cap xs hown.1 holds a m cp news hl hnews (by omega) (by omega) (growslice_fits (by omega) hbytes)
      rw [hrun] at hr
      cases hr
      exact .inr rfl

theorem tr_append {t e : TypeId} {agg : Bool} {size bytes : Nat} {z : Value} {x y : Operand} {v : Value} {n b o m cp : Nat} {xs news : List Value} [hu : Und P t (.slice e)] [hT : Ty P e agg size] [hZ : Zer P e z] [hB : Byt P e bytes]
    (hx : Is sl x v) (hy : Is sl y (.slice (some ⟨b, o, none⟩) m cp)) (ht : Take hs (row e size v n xs) hs') (hn : Ats c hs b o news) (hl : news.length = m * size) (h1 : ∀ u ∈ news, u.oneCell' = true) (hz : z.cells.size = size) (hsz : Nat.blt 0 size = true) (hb0 : Nat.blt 0 bytes = true)
    (hb : (n + m) * bytes ≤ 140737488355328) (hd : Nat.blt d c.nt = true)
    (k : ∀ v', Tr c D ((d, v') :: sl) (row e size v' (n + m) (xs ++ news) :: hs') (WL P r ops Q rest)) :
    Tr c D sl hs (WL P r ops Q (⟨some d, .call ⟨.builtin .append, #[x, y], #[t, t]⟩, ty, pos, af, none⟩ :: rest)) := fun a w hst => by
  obtain ⟨de, i, hde, hi, _, hsize⟩ := Ty.parts (P := P) (t := e) (agg := agg) (n := size)
  have hzero : i.zero = some z := by have := hZ.eq; rw [hi] at this; simpa using this
  have hbytes : i.bytes = bytes := by have := hB.eq; rw [hi] at this; simpa using this
  have hm0 := hst.mem'
  have hm := hst.mem.take (ht.append _)
  obtain ⟨kk, fp, hnd, ⟨f1, f2, rfl, hrow, h2⟩, hfb⟩ := hm
  have hown := row_owns hrow
  have hbpos : 0 < bytes := by simpa using hb0
  have hmax : n + m ≤ maxLen := by
    have : (n + m) * 1 ≤ (n + m) * bytes := Nat.mul_le_mul_left _ hbpos
    unfold maxLen; omega
  obtain ⟨v', w', hrun, hown', hgr, _⟩ := run_append_own (P := P) w 0 t ty e i z size bytes hu.eq hi hzero hsize hbytes hz (by simpa using hsz) v n xs hown ⟨b, o, none⟩ m cp news hl
    (fun j u hj => by rw [addr_add]; exact hn.get j u hj w hm0) h1 hmax hb (Nat.zero_le _)
  have hloc := append_loc (P := P) (t := t) (ty := ty) hu.eq hi hzero (by rw [hsize]; exact hown) (a := ⟨b, o, none⟩) (m := m) (cp := cp) (by rw [hsize]; exact hl) (fun j u hj => by rw [addr_add]; exact hn.get j u hj w hm0) h1 hmax (by rw [hbytes]; exact hb) hrun
  refine wl_op rfl ⟨fr_about _ _ _ _ _, ?_⟩
  rw [Oper.semAt_eq _ _ _ (by simp)]
  have : (execOp a.eval ⟨some d, .call ⟨.builtin .append, #[x, y], #[t, t]⟩, ty, pos, af, none⟩).run P w = .ok (.value v') w' := by
    simp [execOp, resolve, invoke, builtin, hx a hst.slots, hy a hst.slots, hrun]
  rw [this]
  refine k v' _ _ ((hst.put (by simpa [Nat.blt_eq] using hd) v').heap ?_)
  have hm : Mem c ([row e size v n xs] ++ (hs' ++ mks D)) w := ⟨kk, f1 ++ f2, hnd, ⟨f1, f2, rfl, hrow, h2⟩, hfb⟩
  have := Mem.change (Bs := [row e size v' (n + m) (xs ++ news)]) (w' := w') hm fun fp hn' hf => by
    obtain ⟨g1, g2, e1, hr, e2⟩ := hf
    have hfp : fp = v.ownBlock.toList := by rw [e1, show g2 = [] from e2, hr.1]; simp
    refine ⟨⟨hgr.os, hgr.tape, hgr.output, hgr.size, fun q hq hnq => hgr.block q hq (fun he => hnq ?_)⟩, v'.ownBlock.toList, ?_, ⟨_, [], by simp, row_of_owns hown', rfl⟩, fun q hq => ?_⟩
    · rw [hfp, ← he]; simp
    · cases v'.ownBlock <;> simp
    · have hq' : v'.ownBlock = some q := by simpa [Option.mem_toList] using hq
      rcases hloc with h | h
      · left; rw [hfp, ← h, hq']; simp
      · right
        rw [h] at hq'
        cases hq'
        exact Nat.le_refl _
  simpa using this
end
end Go.SL
