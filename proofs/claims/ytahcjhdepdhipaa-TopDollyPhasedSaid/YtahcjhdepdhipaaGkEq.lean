/- '==' and '!=' on structs and arrays whose leaves are integers, strings and bools. -/
import Derived.Test.YtahcjhdepdhipaaGkMem
import Derived.Laws.StructEq
set_option linter.unusedSectionVars false
set_option linter.unusedVariables false
set_option linter.unusedSimpArgs false
namespace Go.SL
open Go

def leq : Value → Value → Option Bool
  | .int k a, .int k' b => if k = k' then some (decide (a = b)) else none
  | .string a, .string b => some (decide (a = b))
  | .bool a, .bool b => some (a == b)
  | _, _ => none
def eqL : List Value → List Value → Option Bool
  | [], [] => some true
  | x :: xs, y :: ys => match leq x y, eqL xs ys with
    | some p, some q => some (p && q)
    | _, _ => none
  | _, _ => none

def isLeaf : Option TypeDesc → Bool
  | some (.int _) | some .string | some .bool => true
  | _ => false

section
variable {P : Program} {w : World}

theorem leq_run {d : Nat} {t : TypeId} {x y : Value} {b : Bool} (hl : isLeaf (P.underlying t) = true) (hk : ∀ k, P.underlying t = some (.int k) → ∃ a, x = .int k a) (hs : P.underlying t = some .string → ∃ a, x = .string a) (hb : P.underlying t = some .bool → ∃ a, x = .bool a)
    (h : leq x y = some b) : (Op.equalIn (d + 1) t x y).run P w = .ok b w := by
  cases hu : P.underlying t with
  | none => rw [hu] at hl; cases hl
  | some D =>
    rw [hu] at hl
    cases D with
    | int k =>
      obtain ⟨a, rfl⟩ := hk k hu
      cases y <;> simp only [leq] at h <;> try cases h
      rename_i k' b'
      split at h
      · rename_i e; subst e; cases h
        rw [run_equalIn_int w d t k k a b' hu]; congr 1
      · cases h
    | string =>
      obtain ⟨a, rfl⟩ := hs hu
      cases y <;> simp only [leq, Option.some.injEq] at h <;> try cases h
      rw [run_equalIn_string w d t a _ hu, str_beq]
    | bool =>
      obtain ⟨a, rfl⟩ := hb hu
      cases y <;> simp only [leq, Option.some.injEq] at h <;> try cases h
      rw [run_equalIn_bool' w d t a _ hu]
    | _ => cases hl
end

/-- a value of a leaf's type -/
def leafOk (D : Option TypeDesc) (x : Value) : Bool :=
  match D, x with
  | some (.int k), .int k' _ => decide (k = k')
  | some .string, .string _ => true
  | some .bool, .bool _ => true
  | _, _ => false

def foldF (P : Program) (g : TypeId → Option (List TypeId)) (acc : Option (List TypeId)) (f : Field) : Option (List TypeId) :=
  match acc, g f.type, P.info? f.type with
  | some a, some m, some i => if f.offset = a.length ∧ f.name ≠ "_" ∧ i.size = m.length then some (a ++ m) else none
  | _, _, _ => none
theorem foldF_none (P : Program) (g : TypeId → Option (List TypeId)) : ∀ (fl : List Field), fl.foldl (foldF P g) none = none
  | [] => rfl
  | f :: fl => by simp only [List.foldl_cons, foldF]; exact foldF_none P g fl
theorem foldF_pre (P : Program) (g : TypeId → Option (List TypeId)) : ∀ (fl : List Field) (A ts : List TypeId), fl.foldl (foldF P g) (some A) = some ts → ∃ rest, ts = A ++ rest
  | [], A, ts, h => ⟨[], by simpa using h.symm⟩
  | f :: fl, A, ts, h => by
    simp only [List.foldl_cons] at h
    cases hs : foldF P g (some A) f with
    | none => rw [hs, foldF_none] at h; cases h
    | some B =>
      rw [hs] at h
      obtain ⟨r, hr⟩ := foldF_pre P g fl B ts h
      unfold foldF at hs
      split at hs
      · rename_i a m i e1 _ _
        cases e1
        split at hs
        · cases hs; exact ⟨m ++ r, by rw [hr]; simp⟩
        · cases hs
      · cases hs
theorem foldF_some {P : Program} {g : TypeId → Option (List TypeId)} {a B : List TypeId} {f : Field} (hs : foldF P g (some a) f = some B) :
    ∃ m i, g f.type = some m ∧ P.info? f.type = some i ∧ f.offset = a.length ∧ f.name ≠ "_" ∧ i.size = m.length ∧ B = a ++ m := by
  unfold foldF at hs
  split at hs
  · rename_i a' m i e1 e2 e3
    cases e1
    split at hs
    · rename_i h; cases hs; exact ⟨m, i, e2, e3, h.1, h.2.1, h.2.2, rfl⟩
    · cases hs
  · cases hs
theorem eqL_len : ∀ {xs ys : List Value} {b : Bool}, eqL xs ys = some b → xs.length = ys.length
  | [], [], _, _ => rfl
  | [], _ :: _, _, h => by simp [eqL] at h
  | _ :: _, [], _, h => by simp [eqL] at h
  | x :: xs, y :: ys, b, h => by
    simp only [eqL] at h
    split at h
    · rename_i p q hp hq; simp [eqL_len hq]
    · cases h

/-- the leaves' types, in order -/
def leafTys (P : Program) : Nat → TypeId → Option (List TypeId)
  | 0, _ => none
  | d + 1, t =>
    match P.underlying t with
    | some (.int _) | some .string | some .bool => some [t]
    | some (.struct fs) =>
      if P.stoodInHeld t then none else
      fs.toList.foldl (foldF P (leafTys P d)) (some [])
    | some (.array n e) => match leafTys P d e, P.info? e with
      | some m, some i => if i.size = m.length then some ((List.replicate n m).flatten) else none
      | _, _ => none
    | _ => none

def okL (P : Program) : List TypeId → List Value → Bool
  | [], [] => true
  | t :: ts, x :: xs => leafOk (P.underlying t) x && okL P ts xs
  | _, _ => false

section
variable {P : Program}

theorem okL_length : ∀ {ts : List TypeId} {xs : List Value}, okL P ts xs = true → xs.length = ts.length
  | [], [], _ => rfl
  | [], _ :: _, h => by cases h
  | _ :: _, [], h => by cases h
  | t :: ts, x :: xs, h => by
    simp only [okL, Bool.and_eq_true] at h
    simp [okL_length h.2]
theorem okL_append : ∀ {ts us : List TypeId} {xs : List Value}, okL P (ts ++ us) xs = true → okL P ts (xs.take ts.length) = true ∧ okL P us (xs.drop ts.length) = true
  | [], us, xs, h => by simpa [okL] using h
  | t :: ts, us, [], h => by simp [okL] at h
  | t :: ts, us, x :: xs, h => by
    simp only [List.cons_append, okL, Bool.and_eq_true] at h
    have := okL_append h.2
    simp [okL, h.1, this]
theorem eqL_append : ∀ {n : Nat} {xs ys : List Value} {b : Bool}, n ≤ xs.length → eqL xs ys = some b → ∃ p q, eqL (xs.take n) (ys.take n) = some p ∧ eqL (xs.drop n) (ys.drop n) = some q ∧ b = (p && q)
  | 0, xs, ys, b, _, h => ⟨true, b, by simp [eqL], by simpa using h, by simp⟩
  | n + 1, [], ys, b, hn, h => by simp at hn
  | n + 1, x :: xs, [], b, _, h => by simp [eqL] at h
  | n + 1, x :: xs, y :: ys, b, hn, h => by
    simp only [eqL] at h
    split at h
    · rename_i p q hp hq
      cases h
      obtain ⟨p', q', h1, h2, e⟩ := eqL_append (n := n) (by simpa using hn) hq
      exact ⟨p && p', q', by simp [eqL, hp, h1], by simpa using h2, by rw [e, Bool.and_assoc]⟩
    · cases h

theorem leafTys_und {d : Nat} {t : TypeId} {m : List TypeId} (h : leafTys P d t = some m) : ∃ D, P.underlying t = some D ∧ (isAggD D = false → m.length = 1) := by
  cases d with
  | zero => cases h
  | succ d =>
    unfold leafTys at h
    cases hu : P.underlying t with
    | none => rw [hu] at h; cases h
    | some D =>
      refine ⟨D, rfl, fun hD => ?_⟩
      rw [hu] at h
      cases D with
      | int k => cases h; rfl
      | string => cases h; rfl
      | bool => cases h; rfl
      | struct fs => cases hD
      | array n e => cases hD
      | _ => cases h

theorem part_at {t : TypeId} {D : TypeDesc} {i : TypeInfo} {n o : Nat} {zs : List Value} {w : World} (hu : P.underlying t = some D) (hi : P.info? t = some i) (hn : i.size = n) (h1 : isAggD D = false → n = 1) (hz : o + n ≤ zs.length) :
    ∃ v, (part t zs.toArray o).run P w = .ok v w ∧ (isAggD D = true → v = .agg ((zs.drop o).take n).toArray) ∧ (isAggD D = false → (zs.drop o).take n = [v]) := by
  have hag : (isAgg t).run P w = .ok (isAggD D) w := by
    unfold isAgg; rw [Sem.run_bind, rk_underlying hu, Result.andThen_ok]; cases D <;> rfl
  unfold part
  rw [Sem.run_bind, hag, Result.andThen_ok]
  cases hD : isAggD D with
  | true =>
    refine ⟨.agg (zs.toArray.extract o (o + n)), by simp [sizeOf, rk_typeInfo hi, hn], fun _ => ?_, fun h => by cases h⟩
    congr 1
    simp [List.extract_eq_take_drop]
  | false =>
    have e := h1 hD
    subst e
    refine ⟨zs[o]'(by omega), by simp [show o < zs.length from by omega], fun h => (by cases h), fun _ => ?_⟩
    rw [List.drop_eq_getElem_cons (by omega), List.take_succ_cons, List.take_zero]

theorem leafTys_ok (d k : Nat) : ∀ (t : TypeId) (ts : List TypeId), leafTys P d t = some ts → ∀ (xs ys : List Value) (b : Bool) (w : World), okL P ts xs = true → eqL xs ys = some b →
    ∀ x y, (isAggD ((P.underlying t).getD .bool) = true → x = .agg xs.toArray ∧ y = .agg ys.toArray) → (isAggD ((P.underlying t).getD .bool) = false → xs = [x] ∧ ys = [y]) → (Op.equalIn (d + k) t x y).run P w = .ok b w := by
  induction d with
  | zero => intro t ts h; cases h
  | succ d ih =>
    intro t ts h xs ys b w hok heq x y h1 h2
    rw [show d + 1 + k = (d + k) + 1 from by omega]
    have hleaf : ∀ (hl : isLeaf (P.underlying t) = true) (hts : ts = [t]) (hna : isAggD ((P.underlying t).getD .bool) = false), (Op.equalIn (d + k + 1) t x y).run P w = .ok b w := by
      intro hl hts hna
      obtain ⟨rfl, rfl⟩ := h2 hna
      subst hts
      simp only [okL, Bool.and_true] at hok
      have hq : leq x y = some b := by
        simp only [eqL] at heq
        split at heq
        · rename_i p q hp hq'; cases hq'; cases heq; simpa using hp
        · cases heq
      refine leq_run hl (fun kk hu => ?_) (fun hu => ?_) (fun hu => ?_) hq <;> rw [hu] at hok <;> cases x <;> simp_all [leafOk]
    unfold leafTys at h
    split at h
    · rename_i kk hu; exact hleaf (by rw [hu]; rfl) (Option.some.inj h).symm (by rw [hu]; rfl)
    · rename_i hu; exact hleaf (by rw [hu]; rfl) (Option.some.inj h).symm (by rw [hu]; rfl)
    · rename_i hu; exact hleaf (by rw [hu]; rfl) (Option.some.inj h).symm (by rw [hu]; rfl)
    · rename_i fs hu
      split at h
      · cases h
      · rename_i hst
        obtain ⟨rfl, rfl⟩ := h1 (by rw [hu]; rfl)
        have hf : P.fieldsOf t = fs := by simp [Program.fieldsOf, hu]
        rw [run_equalIn_struct w (d + k) t _ _ (by rw [hf]; exact hu) (by simpa using hst), hf]
        -- the fields, one after the other
        have key : ∀ (fl : List Field) (acc : List TypeId), fl.foldl (foldF P (leafTys P d)) (some acc) = some ts → ∀ c, eqL (xs.drop acc.length) (ys.drop acc.length) = some c → acc.length ≤ xs.length → (Op.eqFields (d + k) xs.toArray ys.toArray fl).run P w = .ok c w := by
          intro fl
          induction fl with
          | nil =>
            intro acc ha c hc _
            simp only [List.foldl_nil, Option.some.injEq] at ha
            have hlen := okL_length hok
            rw [ha, ← hlen, List.drop_length] at hc
            have : c = true := by
              cases hy : ys.drop xs.length with
              | nil => rw [hy] at hc; simpa [eqL] using hc.symm
              | cons => rw [hy] at hc; simp [eqL] at hc
            simp [Op.eqFields, this]
          | cons f fl ihf =>
            intro acc ha c hc hle
            simp only [List.foldl_cons] at ha
            cases hB : foldF P (leafTys P d) (some acc) f with
            | none => rw [hB, foldF_none] at ha; cases ha
            | some B =>
              rw [hB] at ha
              obtain ⟨m, i, hm, hi, ho, hn, hsz, rfl⟩ := foldF_some hB
              -- ts = acc ++ m ++ ..
              have hpre : ∃ rest, ts = acc ++ m ++ rest := foldF_pre P _ fl _ _ ha
              obtain ⟨rest, hts⟩ := hpre
              have hlen := okL_length hok
              have hokm : okL P m ((xs.drop acc.length).take m.length) = true := by
                rw [hts, List.append_assoc] at hok
                exact (okL_append (okL_append hok).2).1
              have hlx : acc.length + m.length ≤ xs.length := by rw [hlen, hts]; simp
              obtain ⟨p, q, hp, hq, rfl⟩ := eqL_append (n := m.length) (by simp; omega) hc
              have hly : acc.length + m.length ≤ ys.length := by have := eqL_len heq; omega
              obtain ⟨Df, hud, hone⟩ := leafTys_und hm
              obtain ⟨vx, rx, ax, bx⟩ := part_at (w := w) hud hi hsz hone hlx
              obtain ⟨vy, ry, ay, by'⟩ := part_at (w := w) hud hi hsz hone hly
              rw [← ho] at rx ry
              have hr := ih f.type m hm _ _ p w hokm hp vx vy (by rw [hud]; exact fun hA => ⟨ax hA, ay hA⟩) (by rw [hud]; exact fun hA => ⟨bx hA, by' hA⟩)
              have hrest := ihf (acc ++ m) ha q (by simpa [List.drop_drop] using hq) (by simp; omega)
              simp only [Op.eqFields, ne_eq, hn, not_false_eq_true, if_true, Sem.run_bind, rx, Result.andThen_ok, ry, hr]
              cases p
              · simp
              · simpa using hrest
        exact key fs.toList [] h b (by simpa using heq) (by simp)
    · rename_i n e hu
      split at h
      · rename_i m i hm hi
        split at h
        · rename_i hsz
          obtain ⟨rfl, rfl⟩ := h1 (by rw [hu]; rfl)
          simp only [Option.some.injEq] at h
          subst h
          have hlen := okL_length hok
          have hlxy : xs.length = ys.length := eqL_len heq
          have hL : xs.length = n * m.length := by rw [hlen]; simp
          have hszr : (sizeOf e).run P w = .ok m.length w := by simp [sizeOf, rk_typeInfo hi, hsz]
          obtain ⟨De, hud, hone⟩ := leafTys_und hm
          have hfor : ∀ (c j : Nat) (p : Bool), j + c = n → eqL (xs.drop (j * m.length)) (ys.drop (j * m.length)) = some p → okL P ((List.replicate c m).flatten) (xs.drop (j * m.length)) = true →
              ((forIn (List.range' j c) ((none, ()) : Option Bool × Unit) fun i r => (do
                let a ← part e xs.toArray (i * m.length)
                let b ← part e ys.toArray (i * m.length)
                let r' ← Op.equalIn (d + k) e a b
                if (!r') = true then pure (ForInStep.done (some false, ())) else pure (ForInStep.yield (none, ()))) : Sem (Option Bool × Unit)).run P w) = .ok (bif p then none else some false, ()) w := by
            intro c
            induction c with
            | zero =>
              intro j p hj hp _
              have hz : xs.drop (j * m.length) = [] := by apply List.drop_of_length_le; rw [hL, show j = n from by omega]; exact Nat.le_refl _
              have hz' : ys.drop (j * m.length) = [] := by apply List.drop_of_length_le; rw [← hlxy, hL, show j = n from by omega]; exact Nat.le_refl _
              rw [hz, hz'] at hp
              simp only [eqL, Option.some.injEq] at hp
              subst hp
              simp
            | succ c ihc =>
              intro j p hj hp hokj
              have hb1 : j * m.length + m.length ≤ xs.length := by
                rw [hL, ← Nat.succ_mul]; exact Nat.mul_le_mul_right _ (by omega)
              obtain ⟨vx, rx, ax, bx⟩ := part_at (w := w) hud hi hsz hone hb1
              obtain ⟨vy, ry, ay, by'⟩ := part_at (w := w) hud hi hsz hone (show j * m.length + m.length ≤ ys.length by omega)
              obtain ⟨p1, p2, hp1, hp2, rfl⟩ := eqL_append (n := m.length) (by simp; omega) hp
              rw [List.replicate_succ, List.flatten_cons] at hokj
              have ho := okL_append hokj
              have hr := ih e m hm _ _ p1 w ho.1 hp1 vx vy (by rw [hud]; exact fun hA => ⟨ax hA, ay hA⟩) (by rw [hud]; exact fun hA => ⟨bx hA, by' hA⟩)
              simp only [List.range'_succ, List.forIn_cons, Sem.run_bind, rx, ry, hr, Result.andThen_ok]
              cases p1
              · simp
              · have hnext := ihc (j + 1) p2 (by omega) (by rw [Nat.succ_mul, ← List.drop_drop, ← List.drop_drop]; exact hp2) (by rw [Nat.succ_mul, ← List.drop_drop]; exact ho.2)
                simp only [Bool.not_true, Bool.false_eq_true, if_false, Sem.run_pure, Result.andThen_ok, Bool.true_and]
                exact hnext
          have hf := hfor n 0 b (by omega) (by simpa using heq) (by simpa using hok)
          simp only [Op.equalIn, Sem.run_bind, rk_underlying hu, Result.andThen_ok, hszr]
          rw [Std.Legacy.Range.forIn_eq_forIn_range']
          simp only [Std.Legacy.Range.size, Nat.sub_zero, Nat.add_sub_cancel, Nat.div_one]
          rw [hf]
          cases b <;> simp
        · cases h
      · cases h
    · cases h

class Leaf (P : Program) (t : TypeId) (ts : outParam (List TypeId)) : Prop where
  eq : leafTys P 20 t = some ts
  agg : isAggD ((P.underlying t).getD .bool) = true
  guard : P.eqGuardType P.depth t = false

variable {c : Cx} {sl : Slots} {hs : List Asn} {dst : Option Tmp} {ty : TypeId} {pos : String} {af : Array Edge} {g : Option (Nat × Bool)}

theorem rk_equal_agg {t : TypeId} {ts : List TypeId} [h : Leaf P t ts] {xs ys : List Value} {b : Bool} (hok : okL P ts xs = true) (heq : eqL xs ys = some b) (w : World) : (Op.equalIn 10000 t (.agg xs.toArray) (.agg ys.toArray)).run P w = .ok b w :=
  leafTys_ok 20 9980 t ts h.eq xs ys b w hok heq _ _ (fun _ => ⟨rfl, rfl⟩) (fun hn => by rw [h.agg] at hn; cases hn)

theorem rk_eqlA {t u : TypeId} {ts : List TypeId} [h : Leaf P t ts] {x y : Operand} {xs ys : List Value} {b : Bool} (hx : Is sl x (.agg xs.toArray)) (hy : Is sl y (.agg ys.toArray)) (hok : okL P ts xs = true) (heq : eqL xs ys = some b) :
    RunV P c sl hs ⟨dst, .binOp .eql t x y u, ty, pos, af, g⟩ (.bool b) :=
  rk_bin hx hy fun w => by
    rw [Sem.run_bind, run_eqGuard_agg w _ _ _ _ _ _ h.guard, Result.andThen_ok, run_eql_struct, rk_equal_agg hok heq]; rfl
theorem rk_neqA {t u : TypeId} {ts : List TypeId} [h : Leaf P t ts] {x y : Operand} {xs ys : List Value} {b : Bool} (hx : Is sl x (.agg xs.toArray)) (hy : Is sl y (.agg ys.toArray)) (hok : okL P ts xs = true) (heq : eqL xs ys = some b) :
    RunV P c sl hs ⟨dst, .binOp .neq t x y u, ty, pos, af, g⟩ (.bool (!b)) :=
  rk_bin hx hy fun w => by
    rw [Sem.run_bind, run_eqGuard_agg w _ _ _ _ _ _ h.guard, Result.andThen_ok, run_neq_struct, rk_equal_agg hok heq]; rfl
/-- the leaves' kinds, looked up -/
theorem okL_nil : okL P [] [] = true := rfl
theorem okL_int {t : TypeId} {k : IntKind} {ts : List TypeId} {n : Int} {xs : List Value} [h : Und P t (.int k)] (hr : okL P ts xs = true) : okL P (t :: ts) (.int k n :: xs) = true := by
  simp [okL, leafOk, h.eq, hr]
theorem okL_string {t : TypeId} {ts : List TypeId} {s : ByteArray} {xs : List Value} [h : Und P t .string] (hr : okL P ts xs = true) : okL P (t :: ts) (.string s :: xs) = true := by
  simp [okL, leafOk, h.eq, hr]
theorem okL_bool {t : TypeId} {ts : List TypeId} {b : Bool} {xs : List Value} [h : Und P t .bool] (hr : okL P ts xs = true) : okL P (t :: ts) (.bool b :: xs) = true := by
  simp [okL, leafOk, h.eq, hr]
end
end Go.SL
