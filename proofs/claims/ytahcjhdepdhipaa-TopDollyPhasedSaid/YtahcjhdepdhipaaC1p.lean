/- The plain side of 'longest': the rows of cells, bounds of the labels, facts on arcs. -/
import Derived.Test.YtahcjhdepdhipaaB9
import Derived.Test.YtahcjhdepdhipaaGkTab
set_option linter.unusedSectionVars false
set_option linter.unusedVariables false
set_option linter.unusedSimpArgs false
namespace Go.Proofs.A1
open Go Go.SL

def seenL (s : S) (v : Nat) : List Value := match s.lab v with
  | none => [.int .i64 0, .bool false, .int .i64 0, .int .i64 0, .bool false]
  | some y => (match s.par v with | none => [.int .i64 0, .bool false, .int .i64 0] | some a => arcL a.id) ++ [.int .i64 y, .bool true]
theorem seenL_length (s : S) (v : Nat) : (seenL s v).length = 5 := by
  unfold seenL
  cases s.lab v with
  | none => rfl
  | some y => cases s.par v <;> rfl
theorem seenL_3 (s : S) (v : Nat) : (seenL s v)[3]? = some (.int .i64 ((s.lab v).getD 0)) := by
  unfold seenL
  cases s.lab v with
  | none => rfl
  | some y => cases s.par v <;> rfl
theorem seenL_4 (s : S) (v : Nat) : (seenL s v)[4]? = some (.bool (s.lab v).isSome) := by
  unfold seenL
  cases s.lab v with
  | none => rfl
  | some y => cases s.par v <;> rfl
theorem seenL_grown (r : Nat) (a : A) (x : Int) (s : S) (v : Nat) : seenL (grown r a x s) v = if v = a.v then arcL a.id ++ [.int .i64 (x + a.w), .bool true] else seenL s v := by
  unfold seenL grown
  by_cases e : v = a.v
  · subst e; simp
  · simp [up_ne _ _ e, e]
theorem out_start (V f : Nat) (hf : f < V) : setCells (tab V fun _ => [.int .i64 0, .bool false, .int .i64 0, .int .i64 0, .bool false]) (f * 5 + 4) [.bool true] = tab V (seenL (start f)) := by
  rw [tab_set (sz := 5) (fun _ _ => rfl) hf (by simp)]
  apply tab_congr
  intro i _
  unfold seenL start
  by_cases e : i = f
  · subst e; simp [setCells]
  · simp [e]
theorem out_get (s : S) {V v j : Nat} (hv : v < V) (hj : j < 5) : (tab V (seenL s))[v * 5 + j]? = (seenL s v)[j]? := tab_get (fun i _ => seenL_length s i) hv hj
theorem out_grown (r : Nat) {a : A} (x : Int) (s : S) {V : Nat} (hv : a.v < V) : setCells (tab V (seenL s)) (a.v * 5) (arcL a.id ++ [.int .i64 (x + a.w), .bool true]) = tab V (seenL (grown r a x s)) := by
  have := tab_set (sz := 5) (o := 0) (f := seenL s) (vs := arcL a.id ++ [.int .i64 (x + a.w), .bool true]) (fun i _ => seenL_length s i) hv (by simp [arcL])
  rw [Nat.add_zero] at this
  rw [this]
  apply tab_congr
  intro i _
  rw [seenL_grown]
  split
  · apply List.ext_getElem?
    intro k
    rw [setCells_get _ _ _ _ (by rw [seenL_length]; simp [arcL])]
    by_cases hk : k < 5
    · rw [if_pos (by simp [arcL]; omega), Nat.sub_zero]
    · rw [if_neg (by simp [arcL]; omega), List.getElem?_eq_none (by rw [seenL_length]; omega), List.getElem?_eq_none (by simp [arcL]; omega)]
  · rfl

def grewV : Option Nat → Int
  | none => -1
  | some g => g
def Bd (s : S) (B : Int) : Prop := ∀ v x, s.lab v = some x → -B ≤ x ∧ x ≤ B
theorem Bd.relax {r : Nat} {q : S × Option Nat} {a : A} {B : Int} (h : Bd q.1 B) (h1 : -4 ≤ a.w) (h2 : a.w ≤ 4) : Bd (A1.relax r q a).1 (B + 4) := by
  unfold A1.relax
  cases hx : q.1.lab a.u with
  | none => intro v x hv; have := h v x hv; omega
  | some x =>
    have := h _ _ hx
    simp only
    split
    · intro v y hv
      simp only [grown] at hv
      by_cases e : v = a.v
      · subst e; simp at hv; omega
      · rw [up_ne _ _ e] at hv; have := h _ _ hv; omega
    · intro v y hv; have := h _ _ hv; omega
theorem Bd.fold {r : Nat} : ∀ {l : List A} {q : S × Option Nat} {B : Int}, Bd q.1 B → (∀ a ∈ l, -4 ≤ a.w ∧ a.w ≤ 4) → Bd (l.foldl (A1.relax r) q).1 (B + 4 * l.length)
  | [], q, B, h, _ => by simpa using h
  | a :: l, q, B, h, hw => by
    have h1 := h.relax (r := r) (hw a (by simp)).1 (hw a (by simp)).2
    have := Bd.fold (r := r) (l := l) h1 (fun b hb => hw b (List.mem_cons_of_mem _ hb))
    have e : B + 4 + 4 * (l.length : Int) = B + 4 * ((a :: l).length : Int) := by simp; omega
    rw [← e]; exact this
theorem Bd.mono {s : S} {B C : Int} (h : Bd s B) (hc : B ≤ C) : Bd s C := fun v x hv => by have := h v x hv; omega
theorem lvs_len {es : List Ed} {V u : Nat} (hE : es.length ≤ 24) (hV : V ≤ 4) : (lvs es V u).length ≤ 52 := by
  have h1 : ∀ n, (lvE es u n).length ≤ 2 * n := by
    intro n
    induction n with
    | zero => simp [lvE]
    | succ n ih =>
      cases he : es[n]? with
      | none => simp only [lvE, he, List.length_append, List.length_nil]; omega
      | some e =>
        simp only [lvE, he, List.length_append]
        have h3 : (if e.f.toNat = u then [arcF n e] else []).length ≤ 1 := by split <;> simp
        have h4 : (if e.t.toNat = u then [arcB n e] else []).length ≤ 1 := by split <;> simp
        omega
  have h2 : (lvN u V).length ≤ V := by unfold lvN; split <;> simp
  have := h1 es.length
  rw [lvs, List.length_append]; omega
theorem Bd.node {V : Nat} {es : List Ed} (g : Good V es) (hE : es.length ≤ 24) {r i : Nat} {q : S × Option Nat} {B : Int} (h : Bd q.1 B) : Bd (A1.node (lvs es V) r i q).1 (B + 1000) := by
  have hl := lvs_len (u := i) hE g.most
  exact (Bd.fold (r := r) (l := lvs es V i) h (fun a ha => let w := g.w4 ha; ⟨w.2, w.1⟩)).mono (by omega)
theorem Bd.nodes {V : Nat} {es : List Ed} (g : Good V es) (hE : es.length ≤ 24) {r : Nat} {s : S} {B : Int} (h : Bd s B) : ∀ n : Nat, Bd (A1.nodes (lvs es V) r n s).1 (B + 1000 * n)
  | 0 => by simpa [A1.nodes] using h
  | n + 1 => ((Bd.nodes g hE h n).node g hE).mono (by omega)
theorem Bd.rounds {V : Nat} {es : List Ed} (g : Good V es) (hE : es.length ≤ 24) {f : Nat} : ∀ n : Nat, Bd (A1.rounds (lvs es V) V f n).1 (5000 * n)
  | 0 => fun v x hv => by
    simp only [A1.rounds, start] at hv
    split at hv
    · simp at hv; subst hv; simp
    · simp at hv
  | n + 1 => by
    have := Bd.nodes g hE (r := n + 1) (Bd.rounds g hE (f := f) n) V
    have hV := g.most
    exact this.mono (by omega)

theorem boundF_F {es : List Ed} {k : Nat} (h : k < es.length) : boundF es k false = es[k].lo := by
  simp [boundF, h]; omega
theorem boundF_B {es : List Ed} {k : Nat} (h : k < es.length) : boundF es k true = -es[k].hi := by
  simp [boundF, h]; omega
theorem arc_facts {V : Nat} {es : List Ed} (g : Good V es) {u : Nat} {a : A} (h : a ∈ lvs es V u) : a.u = u ∧ a.v < V ∧ a.id.1 < es.length ∧ endsF es a.id.1 a.id.2.1 a.id.2.2 = ((a.u : Int), (a.v : Int)) ∧ boundF es a.id.1 a.id.2.1 = a.w := by
  refine ⟨g.net.u u a h, g.net.v u a h, ?_⟩
  rcases mem_lv h with ⟨i, e, he, ⟨rfl, hu⟩ | ⟨rfl, hu⟩⟩ | ⟨rfl, x, hx, rfl⟩
  · have hg := g.at he
    obtain ⟨hi, rfl⟩ := List.getElem?_eq_some_iff.1 he
    refine ⟨by show (i : Int) < _; omega, (endsF_F hi 0).trans ?_, boundF_F hi⟩
    show (es[i].f, es[i].t) = ((es[i].f.toNat : Int), (es[i].t.toNat : Int))
    rw [Int.toNat_of_nonneg hg.1, Int.toNat_of_nonneg hg.2.2.1]
  · have hg := g.at he
    obtain ⟨hi, rfl⟩ := List.getElem?_eq_some_iff.1 he
    refine ⟨by show (i : Int) < _; omega, (endsF_B hi 0).trans ?_, boundF_B hi⟩
    show (es[i].t, es[i].f) = ((es[i].t.toNat : Int), (es[i].f.toNat : Int))
    rw [Int.toNat_of_nonneg hg.1, Int.toNat_of_nonneg hg.2.2.1]
  · exact ⟨by show (-1 : Int) < _; omega, by simp [arcN, endsF], by simp [arcN, boundF]⟩
/-- nothing leaves an unreached node -/
theorem fold_none {r u : Nat} : ∀ {l : List A} {q : S × Option Nat}, (∀ a ∈ l, a.u = u) → q.1.lab u = none → l.foldl (relax r) q = q
  | [], q, _, _ => rfl
  | a :: l, q, hu, h => by
    have : relax r q a = q := by unfold relax; rw [hu a (by simp), h]
    rw [List.foldl_cons, this]
    exact fold_none (fun b hb => hu b (by simp [hb])) h
theorem relax_some {r u : Nat} {q : S × Option Nat} {a : A} (h : (q.1.lab u).isSome) : ((relax r q a).1.lab u).isSome := by
  unfold relax
  split
  · exact h
  · split
    · simp only [grown]
      by_cases e : u = a.v
      · subst e; simp
      · rw [up_ne _ _ e]; exact h
    · exact h
theorem fold_some {r u : Nat} : ∀ {l : List A} {q : S × Option Nat}, (q.1.lab u).isSome → ((l.foldl (relax r) q).1.lab u).isSome
  | [], _, h => h
  | a :: l, q, h => fold_some (l := l) (relax_some h)
theorem growsB (s : S) (a : A) (x : Int) : (!(s.lab a.v).isSome || decide ((s.lab a.v).getD 0 < x + a.w)) = grows s a x := by
  unfold grows
  cases s.lab a.v <;> simp
theorem fold_take {r : Nat} {l : List A} {q : S × Option Nat} {k : Nat} {a : A} (h : l[k]? = some a) : (l.take (k + 1)).foldl (relax r) q = relax r ((l.take k).foldl (relax r) q) a := by
  rw [List.take_add_one, h]; simp
end Go.Proofs.A1
