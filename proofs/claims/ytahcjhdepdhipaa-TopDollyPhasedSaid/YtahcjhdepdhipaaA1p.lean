/- Greatest sums of bounds along the arcs of a net: plain Lean, no program in sight. -/
set_option linter.unusedSectionVars false
set_option linter.unusedVariables false
set_option linter.unusedSimpArgs false
namespace Go.Proofs.A1

/-- an arc: its name, its ends, its bound -/
structure A where
  id : Int × Bool × Int
  u : Nat
  v : Nat
  w : Int

/-- labels, the arcs by which they came, the round and the time of the last change (the last three are told by no program) -/
structure S where
  lab : Nat → Option Int
  par : Nat → Option A
  rnd : Nat → Nat
  tm : Nat → Nat
  now : Nat

def up {α : Type} (f : Nat → α) (k : Nat) (x : α) : Nat → α := fun i => if i = k then x else f i
@[simp] theorem up_same {α : Type} (f : Nat → α) (k : Nat) (x : α) : up f k x k = x := by simp [up]
theorem up_ne {α : Type} (f : Nat → α) {k i : Nat} (x : α) (h : i ≠ k) : up f k x i = f i := by simp [up, h]

def grows (s : S) (a : A) (x : Int) : Bool := match s.lab a.v with
  | none => true
  | some y => decide (y < x + a.w)
def grown (r : Nat) (a : A) (x : Int) (s : S) : S :=
  { lab := up s.lab a.v (some (x + a.w)), par := up s.par a.v (some a), rnd := up s.rnd a.v r, tm := up s.tm a.v (s.now + 1), now := s.now + 1 }
def relax (r : Nat) (q : S × Option Nat) (a : A) : S × Option Nat :=
  match q.1.lab a.u with
  | none => q
  | some x => if grows q.1 a x then (grown r a x q.1, some a.v) else q

def node (lv : Nat → List A) (r i : Nat) (q : S × Option Nat) : S × Option Nat := (lv i).foldl (relax r) q
def nodes (lv : Nat → List A) (r : Nat) : Nat → S → S × Option Nat
  | 0, s => (s, none)
  | n + 1, s => node lv r n (nodes lv r n s)
def start (f : Nat) : S := { lab := fun i => if i = f then some 0 else none, par := fun _ => none, rnd := fun _ => 0, tm := fun _ => 0, now := 0 }
def rounds (lv : Nat → List A) (V f : Nat) : Nat → S × Option Nat
  | 0 => (start f, none)
  | n + 1 => nodes lv (n + 1) V (rounds lv V f n).1
def longest (lv : Nat → List A) (V f : Nat) : S × Option Nat := rounds lv V f (V + 1)

/-- the arcs are well formed -/
structure Net (lv : Nat → List A) (V : Nat) : Prop where
  u : ∀ i a, a ∈ lv i → a.u = i
  v : ∀ i a, a ∈ lv i → a.v < V
  self : ∀ i a, a ∈ lv i → a.u = a.v → a.w ≤ 0

section
variable {lv : Nat → List A} {V f r : Nat}

structure Inv (lv : Nat → List A) (V f r : Nat) (s : S) : Prop where
  par : ∀ v a, s.par v = some a → a ∈ lv a.u ∧ a.u < V ∧ a.v = v ∧ 1 ≤ s.rnd v ∧ s.rnd v ≤ s.rnd a.u + 1 ∧
    ∃ x y, s.lab a.u = some x ∧ s.lab v = some y ∧ y ≤ x + a.w ∧ (s.tm a.u < s.tm v ∨ y < x + a.w)
  root : ∀ v, s.par v = none → s.rnd v = 0 ∧ ∀ y, s.lab v = some y → v = f ∧ y = 0
  frm : ∃ y, s.lab f = some y ∧ 0 ≤ y
  time : ∀ v, s.tm v ≤ s.now
  low : ∀ v, s.rnd v ≤ r

/-- every arc is relaxed, or its beginning grew in this round, or it did in the last one and the arc is still to come -/
def Q (lv : Nat → List A) (V r : Nat) (D : A → Prop) (s : S) : Prop :=
  ∀ a, a ∈ lv a.u → a.u < V → ∀ x, s.lab a.u = some x → (∃ y, s.lab a.v = some y ∧ x + a.w ≤ y) ∨ s.rnd a.u = r ∨ (s.rnd a.u + 1 = r ∧ ¬ D a)

theorem Q.mono {D D' : A → Prop} {s : S} (h : Q lv V r D s) (hd : ∀ a, D' a → D a) : Q lv V r D' s := fun a ha hu x hx =>
  (h a ha hu x hx).imp id (Or.imp id fun h => ⟨h.1, fun d => h.2 (hd a d)⟩)

theorem grows_spec {s : S} {a : A} {x : Int} : grows s a x = true ↔ ∀ y, s.lab a.v = some y → y < x + a.w := by
  unfold grows
  cases h : s.lab a.v <;> simp

theorem relax_inv (hn : Net lv V) (h1 : 1 ≤ r) {D : A → Prop} {q : S × Option Nat} {a : A} (ha : a ∈ lv a.u) (hu : a.u < V) (hi : Inv lv V f r q.1) (hq : Q lv V r D q.1) :
    Inv lv V f r (relax r q a).1 ∧ Q lv V r (fun b => D b ∨ b = a) (relax r q a).1 := by
  unfold relax
  cases hx : q.1.lab a.u with
  | none => exact ⟨hi, fun b hb hbu x hxb => (hq b hb hbu x hxb).imp id (Or.imp id fun h => ⟨h.1, fun d => d.elim h.2 fun e => by subst e; rw [hx] at hxb; cases hxb⟩)⟩
  | some x =>
    simp only
    by_cases hg : grows q.1 a x = true
    · rw [if_pos hg]
      have hg' := grows_spec.1 hg
      have hne : a.u ≠ a.v := fun e => by
        have := hg' x (by rw [← e]; exact hx)
        have := hn.self _ _ ha e
        omega
      have hr1 : r ≤ q.1.rnd a.u + 1 := by
        rcases hq a ha hu x hx with ⟨y, hy, hle⟩ | h | h
        · have := hg' y hy; omega
        · omega
        · omega
      refine ⟨⟨fun v b hb => ?_, fun v hv => ?_, ?_, fun v => ?_, fun v => ?_⟩, fun b hb hbu x' hxb => ?_⟩
      · by_cases e : v = a.v
        · subst e
          have hb' : a = b := by simpa [grown] using hb
          subst hb'
          refine ⟨ha, hu, rfl, by simp [grown, h1], by simpa [grown, up_ne _ _ hne] using hr1, x, x + a.w, by simpa [grown, up_ne _ _ hne] using hx, by simp [grown], by omega, .inl ?_⟩
          have := hi.time a.u
          simp [grown, up_ne _ _ hne]; omega
        · obtain ⟨b1, b2, b3, b4, b5, x0, y0, b6, b7, b8, b9⟩ := hi.par v b (by simpa [grown, up_ne _ _ e] using hb)
          refine ⟨b1, b2, b3, by simpa [grown, up_ne _ _ e] using b4, ?_, ?_⟩
          · by_cases eb : b.u = a.v
            · have := hi.low v
              simp [grown, up_ne _ _ e, eb]; omega
            · simpa [grown, up_ne _ _ e, up_ne _ _ eb] using b5
          · by_cases eb : b.u = a.v
            · have := hg' x0 (by rw [← eb]; exact b6)
              exact ⟨x + a.w, y0, by simp [grown, eb], by simpa [grown, up_ne _ _ e] using b7, by omega, .inr (by omega)⟩
            · exact ⟨x0, y0, by simpa [grown, up_ne _ _ eb] using b6, by simpa [grown, up_ne _ _ e] using b7, b8, by simpa [grown, up_ne _ _ e, up_ne _ _ eb] using b9⟩
      · have e : v ≠ a.v := fun e => by subst e; simp [grown] at hv
        obtain ⟨c1, c2⟩ := hi.root v (by simpa [grown, up_ne _ _ e] using hv)
        exact ⟨by simpa [grown, up_ne _ _ e] using c1, fun y hy => c2 y (by simpa [grown, up_ne _ _ e] using hy)⟩
      · obtain ⟨y, hy, h0⟩ := hi.frm
        by_cases e : f = a.v
        · have := hg' y (by rw [← e]; exact hy)
          exact ⟨x + a.w, by simp [grown, e], by omega⟩
        · exact ⟨y, by simpa [grown, up_ne _ _ e] using hy, h0⟩
      · have := hi.time v
        by_cases e : v = a.v
        · subst e; simp [grown]
        · simp [grown, up_ne _ _ e]; omega
      · by_cases e : v = a.v
        · subst e; simp [grown]
        · simpa [grown, up_ne _ _ e] using hi.low v
      · by_cases eb : b.u = a.v
        · exact .inr (.inl (by simp [grown, eb]))
        · have hxb' : q.1.lab b.u = some x' := by simpa [grown, up_ne _ _ eb] using hxb
          by_cases e : b = a
          · subst e
            rw [hx] at hxb'; cases hxb'
            exact .inl ⟨x + b.w, by simp [grown], by omega⟩
          · rcases hq b hb hbu x' hxb' with ⟨y, hy, hle⟩ | h | h
            · by_cases ev : b.v = a.v
              · have := hg' y (by rw [← ev]; exact hy)
                exact .inl ⟨x + a.w, by simp [grown, ev], by omega⟩
              · exact .inl ⟨y, by simpa [grown, up_ne _ _ ev] using hy, hle⟩
            · exact .inr (.inl (by simpa [grown, up_ne _ _ eb] using h))
            · exact .inr (.inr ⟨by simpa [grown, up_ne _ _ eb] using h.1, fun d => d.elim h.2 e⟩)
    · rw [if_neg hg]
      refine ⟨hi, fun b hb hbu x' hxb => ?_⟩
      rcases hq b hb hbu x' hxb with h | h | h
      · exact .inl h
      · exact .inr (.inl h)
      · by_cases e : b = a
        · subst e
          rw [hx] at hxb; cases hxb
          refine .inl ?_
          rw [grows_spec] at hg
          cases hy : q.1.lab b.v with
          | none => exact absurd (fun y h => by rw [hy] at h; cases h) hg
          | some y =>
            refine ⟨y, rfl, ?_⟩
            false_or_by_contra
            exact hg fun y' h => by rw [hy] at h; cases h; omega
        · exact .inr (.inr ⟨h.1, fun d => d.elim h.2 e⟩)

/-- what the number that a round returns says -/
def Gr (V r : Nat) (q : S × Option Nat) : Prop := match q.2 with
  | none => ∀ v, q.1.rnd v < r
  | some g => g < V ∧ q.1.rnd g = r

theorem relax_gr (hn : Net lv V) {q : S × Option Nat} {a : A} (ha : a ∈ lv a.u) (h : Gr V r q) : Gr V r (relax r q a) := by
  unfold relax
  cases hx : q.1.lab a.u with
  | none => exact h
  | some x =>
    simp only
    split
    · exact ⟨hn.v _ _ ha, by simp [grown]⟩
    · exact h

structure St (lv : Nat → List A) (V f r : Nat) (D : A → Prop) (q : S × Option Nat) : Prop where
  inv : Inv lv V f r q.1
  arcs : Q lv V r D q.1
  gr : Gr V r q

theorem node_ok (hn : Net lv V) (h1 : 1 ≤ r) {i : Nat} (hi : i < V) : ∀ (l : List A) (D : A → Prop) (q : S × Option Nat), (∀ a ∈ l, a ∈ lv i) → St lv V f r D q → 
    St lv V f r (fun b => D b ∨ b ∈ l) (l.foldl (relax r) q)
  | [], D, q, _, h => ⟨h.inv, h.arcs.mono (by simp), h.gr⟩
  | a :: l, D, q, hl, h => by
    have ha := hl a (by simp)
    have hu := hn.u _ _ ha
    have ha' : a ∈ lv a.u := by rw [hu]; exact ha
    have h2 := relax_inv hn h1 ha' (by omega) h.inv h.arcs
    have h3 := node_ok hn h1 hi l _ (relax r q a) (fun b hb => hl b (by simp [hb])) ⟨h2.1, h2.2, relax_gr hn ha' h.gr⟩
    exact ⟨h3.inv, h3.arcs.mono (fun b hb => by simpa [or_assoc] using hb), h3.gr⟩

theorem nodes_ok (hn : Net lv V) (h1 : 1 ≤ r) {s : S} (h : St lv V f r (fun _ => False) (s, none)) : ∀ n, n ≤ V → St lv V f r (fun b => b.u < n) (nodes lv r n s)
  | 0, _ => ⟨h.inv, h.arcs.mono (by simp), h.gr⟩
  | n + 1, hle => by
    have h2 := nodes_ok hn h1 h n (by omega)
    have h3 := node_ok hn h1 (i := n) (by omega) (lv n) _ _ (fun _ h => h) h2
    refine ⟨h3.inv, ?_, h3.gr⟩
    intro a ha hu x hx
    refine (h3.arcs a ha hu x hx).imp id (Or.imp id fun h => ⟨h.1, fun hlt => h.2 ?_⟩)
    by_cases e : a.u = n
    · exact .inr (by rw [← e]; exact ha)
    · exact .inl (by omega)

theorem rounds_ok (hn : Net lv V) (hf : f < V) : ∀ n, Inv lv V f n (rounds lv V f n).1 ∧ Q lv V (n + 1) (fun _ => False) (rounds lv V f n).1 ∧ (1 ≤ n → Gr V n (rounds lv V f n) ∧ Q lv V n (fun a => a.u < V) (rounds lv V f n).1)
  | 0 => by
    refine ⟨⟨fun v a h => by simp [rounds, start] at h, fun v _ => ⟨rfl, fun y hy => ?_⟩, ⟨0, by simp [rounds, start], by omega⟩, fun v => by simp [rounds, start], fun v => by simp [rounds, start]⟩, fun a ha hu x hx => .inr (.inr ⟨by simp [rounds, start], fun h => h⟩), by omega⟩
    simp only [rounds, start] at hy
    split at hy
    · cases hy; exact ⟨by assumption, rfl⟩
    · cases hy
  | n + 1 => by
    obtain ⟨h1, h2, _⟩ := rounds_ok hn hf n
    have h3 := nodes_ok (f := f) hn (r := n + 1) (by omega) (s := (rounds lv V f n).1) ⟨⟨h1.par, h1.root, h1.frm, h1.time, fun v => Nat.le_succ_of_le (h1.low v)⟩, h2, fun v => Nat.lt_succ_of_le (h1.low v)⟩ V (Nat.le_refl _)
    refine ⟨h3.inv, fun a ha hu x hx => ?_, fun _ => ⟨h3.gr, h3.arcs⟩⟩
    rcases h3.arcs a ha hu x hx with h | h | h
    · exact .inl h
    · exact .inr (.inr ⟨by rw [show (rounds lv V f (n + 1)).1.rnd a.u = n + 1 from h], fun h => h⟩)
    · exact absurd hu h.2

/-- nothing grew in the last round: all arcs are relaxed -/
theorem rest (hn : Net lv V) (hf : f < V) (h : (longest lv V f).2 = none) : ∀ a, a ∈ lv a.u → a.u < V → ∀ x, (longest lv V f).1.lab a.u = some x → ∃ y, (longest lv V f).1.lab a.v = some y ∧ x + a.w ≤ y := by
  obtain ⟨_, _, h3⟩ := rounds_ok (f := f) hn hf (V + 1)
  obtain ⟨g, q⟩ := h3 (by omega)
  have g' : ∀ v, (longest lv V f).1.rnd v < V + 1 := by
    unfold Gr at g
    rw [show (rounds lv V f (V + 1)).2 = none from h] at g
    exact g
  intro a ha hu x hx
  rcases q a ha hu x hx with h | h | h
  · exact h
  · have := g' a.u
    have : (longest lv V f).1.rnd a.u = V + 1 := h
    omega
  · exact absurd hu h.2

/-! ### the way back -/
def back (s : S) (v : Nat) : Nat := match s.par v with
  | some a => a.u
  | none => v
def backs (s : S) : Nat → Nat → Nat
  | 0, v => v
  | k + 1, v => backs s k (back s v)
/-- the sum of the bounds of k arcs back -/
def sums (s : S) : Nat → Nat → Int
  | 0, _ => 0
  | k + 1, v => (match s.par v with | some a => a.w | none => 0) + sums s k (back s v)

theorem backs_add (s : S) : ∀ k m v, backs s (k + m) v = backs s m (backs s k v)
  | 0, m, v => by simp [backs]
  | k + 1, m, v => by rw [Nat.succ_add]; exact backs_add s k m _

theorem sums_ok {s : S} (hi : Inv lv V f r s) : ∀ k v y, (∀ i < k, s.par (backs s i v) ≠ none) → s.lab v = some y → ∃ x, s.lab (backs s k v) = some x ∧ y ≤ x + sums s k v ∧ (s.tm (backs s k v) + k ≤ s.tm v ∨ y < x + sums s k v)
  | 0, v, y, _, hy => ⟨y, hy, by simp [sums], .inl (by simp [backs])⟩
  | k + 1, v, y, h, hy => by
    cases hp : s.par v with
    | none => exact absurd hp (h 0 (by omega))
    | some a =>
      obtain ⟨b1, b2, b3, b4, b5, x0, y0, b6, b7, b8, b9⟩ := hi.par v a hp
      rw [hy] at b7; cases b7
      have hb : back s v = a.u := by simp [back, hp]
      obtain ⟨x, c1, c2, c3⟩ := sums_ok hi k a.u x0 (fun i hi => by have := h (i + 1) (by omega); simpa [backs, hb] using this) b6
      refine ⟨x, by simpa [backs, hb] using c1, by simp only [sums, hp, hb]; omega, ?_⟩
      simp only [sums, hp, hb, backs]
      omega

/-- a loop of ways back proves that there is no plan -/
theorem loop_pos {s : S} (hi : Inv lv V f r s) {k v : Nat} (hk : 0 < k) (h : ∀ i < k, s.par (backs s i v) ≠ none) (hv : backs s k v = v) : 0 < sums s k v := by
  cases hp : s.par v with
  | none => exact absurd hp (h 0 hk)
  | some a =>
    obtain ⟨_, _, _, _, _, _, y, _, hy, _⟩ := hi.par v a hp
    obtain ⟨x, c1, c2, c3⟩ := sums_ok hi k v y h hy
    rw [hv, hy] at c1; cases c1
    rw [hv] at c3
    omega

/-- times that bring all in phase are above the labels -/
theorem sums_le {s : S} (hi : Inv lv V f r s) {t : Nat → Int} (ht : ∀ v a, s.par v = some a → t a.u + a.w ≤ t v) : ∀ k v, (∀ i < k, s.par (backs s i v) ≠ none) → t (backs s k v) + sums s k v ≤ t v
  | 0, v, _ => by simp [backs, sums]
  | k + 1, v, h => by
    cases hp : s.par v with
    | none => exact absurd hp (h 0 (by omega))
    | some a =>
      obtain ⟨b1, b2, b3, _⟩ := hi.par v a hp
      have hb : back s v = a.u := by simp [back, hp]
      have h1 := sums_le hi ht k a.u (fun i hi => by have := h (i + 1) (by omega); simpa [backs, hb] using this)
      have h2 := ht v a hp
      simp only [backs, sums, hp, hb]
      omega

/-- a growth in the last round: so many ways back as there are nodes -/
theorem grew_backs (hn : Net lv V) (hf : f < V) {g : Nat} (h : (longest lv V f).2 = some g) : g < V ∧ ∀ i ≤ V, V + 1 - i ≤ (longest lv V f).1.rnd (backs (longest lv V f).1 i g) ∧ backs (longest lv V f).1 i g < V := by
  obtain ⟨h1, _, h3⟩ := rounds_ok (f := f) hn hf (V + 1)
  obtain ⟨hg, _⟩ := h3 (by omega)
  have hg' : g < V ∧ (longest lv V f).1.rnd g = V + 1 := by
    unfold Gr at hg
    rw [show (rounds lv V f (V + 1)).2 = some g from h] at hg
    exact hg
  have h1' : Inv lv V f (V + 1) (longest lv V f).1 := h1
  refine ⟨hg'.1, fun i => ?_⟩
  induction i with
  | zero => intro _; exact ⟨by simp [backs, hg'.2], by simpa [backs] using hg'.1⟩
  | succ i ih =>
    intro hle
    obtain ⟨i1, i2⟩ := ih (by omega)
    cases hp : (longest lv V f).1.par (backs (longest lv V f).1 i g) with
    | none => have := (h1'.root _ hp).1; omega
    | some a =>
      obtain ⟨_, b2, _, b4, b5, _⟩ := h1'.par _ a hp
      have hb : backs (longest lv V f).1 (i + 1) g = a.u := by rw [backs_add]; simp [backs, back, hp]
      rw [hb]
      exact ⟨by omega, b2⟩

theorem pigeon : ∀ (V : Nat) (f : Nat → Nat), (∀ i ≤ V, f i < V) → ∃ i j, i < j ∧ j ≤ V ∧ f i = f j
  | 0, f, h => absurd (h 0 (Nat.le_refl _)) (by omega)
  | V + 1, f, h => by
    by_cases e : ∃ i, i ≤ V ∧ f i = f (V + 1)
    · obtain ⟨i, hi, he⟩ := e
      exact ⟨i, V + 1, by omega, by omega, he⟩
    · have hne : ∀ i ≤ V, f i ≠ f (V + 1) := fun i hi he => e ⟨i, hi, he⟩
      obtain ⟨i, j, h1, h2, h3⟩ := pigeon V (fun i => if f i = V then f (V + 1) else f i) (fun i hi => by
        have := h i (by omega)
        have := h (V + 1) (by omega)
        have := hne i hi
        show (if f i = V then f (V + 1) else f i) < V
        split <;> omega)
      refine ⟨i, j, h1, by omega, ?_⟩
      have := hne i (by omega)
      have := hne j h2
      split at h3 <;> split at h3 <;> omega

/-- after so many ways back as there are nodes one is in a loop -/
theorem in_loop {s : S} {g : Nat} (h : ∀ i ≤ V, backs s i g < V) : ∃ k, 0 < k ∧ k ≤ V ∧ backs s k (backs s V g) = backs s V g := by
  obtain ⟨i, j, h1, h2, h3⟩ := pigeon V (fun i => backs s i g) h
  refine ⟨j - i, by omega, by omega, ?_⟩
  have e1 : backs s V g = backs s (V - i) (backs s i g) := by rw [← backs_add]; congr 1; omega
  rw [← backs_add, show V + (j - i) = j + (V - i) by omega, backs_add, ← h3, ← e1]

theorem grew_par (hn : Net lv V) (hf : f < V) {g : Nat} (h : (longest lv V f).2 = some g) (n : Nat) : backs (longest lv V f).1 n g < V ∧ (longest lv V f).1.par (backs (longest lv V f).1 n g) ≠ none := by
  obtain ⟨_, h2⟩ := grew_backs hn hf h
  obtain ⟨i, j, a1, a2, a3⟩ := pigeon V (fun i => backs (longest lv V f).1 i g) (fun i hi => (h2 i hi).2)
  have hm : ∃ m ≤ V, backs (longest lv V f).1 n g = backs (longest lv V f).1 m g := by
    induction n with
    | zero => exact ⟨0, by omega, rfl⟩
    | succ n ih =>
      obtain ⟨m, h1, h2⟩ := ih
      by_cases e : m = V
      · refine ⟨V - (j - i) + 1, by omega, ?_⟩
        rw [backs_add, h2, ← backs_add, e, show V + 1 = j + (V - j + 1) by omega, backs_add, ← a3, ← backs_add]
        congr 1; omega
      · exact ⟨m + 1, by omega, by rw [backs_add, h2, ← backs_add]⟩
  obtain ⟨m, m1, m2⟩ := hm
  obtain ⟨b1, b2⟩ := h2 m m1
  rw [m2]
  refine ⟨b2, fun hp => ?_⟩
  have hi : Inv lv V f (V + 1) (longest lv V f).1 := (rounds_ok (f := f) hn hf (V + 1)).1
  have := (hi.root _ hp).1
  omega

theorem grew_loop (hn : Net lv V) (hf : f < V) {g : Nat} (h : (longest lv V f).2 = some g) : ∃ k, 0 < k ∧ k ≤ V ∧ backs (longest lv V f).1 k (backs (longest lv V f).1 V g) = backs (longest lv V f).1 V g :=
  in_loop (fun i hi => ((grew_backs hn hf h).2 i hi).2)

/-- the labels as times -/
def times (s : S) (v : Nat) : Int := (s.lab v).getD 0

theorem times_par (hn : Net lv V) (hf : f < V) (h : (longest lv V f).2 = none) : ∀ v a, (longest lv V f).1.par v = some a → times (longest lv V f).1 a.u + a.w ≤ times (longest lv V f).1 v := by
  intro v a hp
  obtain ⟨h1, _, _⟩ := rounds_ok (f := f) hn hf (V + 1)
  have h1' : Inv lv V f (V + 1) (longest lv V f).1 := h1
  obtain ⟨b1, b2, b3, _, _, x, y, b6, b7, _⟩ := h1'.par v a hp
  obtain ⟨y', c1, c2⟩ := rest hn hf h a b1 b2 x b6
  rw [b3, b7] at c1; cases c1
  simp only [times, b6, b7, Option.getD_some]
  exact c2

/-- no loop where times bring all in phase -/
theorem no_loop {s : S} (hi : Inv lv V f r s) {t : Nat → Int} (ht : ∀ v a, s.par v = some a → t a.u + a.w ≤ t v) {k v : Nat} (hk : 0 < k) (h : ∀ i < k, s.par (backs s i v) ≠ none) (hv : backs s k v = v) : False := by
  have h1 := loop_pos hi hk h hv
  have h2 := sums_le hi ht k v h
  rw [hv] at h2
  omega

/-- back to where it began -/
theorem chain {s : S} (hi : Inv lv V f r s) {t : Nat → Int} (ht : ∀ v a, s.par v = some a → t a.u + a.w ≤ t v) {v : Nat} {y : Int} (hv : v < V) (hy : s.lab v = some y) :
    ∃ k, k < V ∧ backs s k v = f ∧ (∀ i < k, s.par (backs s i v) ≠ none) ∧ s.par f = none ∧ s.lab f = some 0 ∧ y ≤ sums s k v := by
  have hlt : ∀ i, (∀ j < i, s.par (backs s j v) ≠ none) → backs s i v < V := by
    intro i hi'
    cases i with
    | zero => simpa [backs] using hv
    | succ i =>
      cases hp : s.par (backs s i v) with
      | none => exact absurd hp (hi' i (by omega))
      | some a =>
        obtain ⟨_, b2, _⟩ := hi.par _ a hp
        rw [backs_add]; simpa [backs, back, hp] using b2
  by_cases e : ∀ i < V, s.par (backs s i v) ≠ none
  · exfalso
    obtain ⟨i, j, h1, h2, h3⟩ := pigeon V (fun i => backs s i v) (fun i hi' => hlt i (fun j hj => e j (by omega)))
    refine no_loop hi ht (k := j - i) (v := backs s i v) (by omega) (fun m hm => ?_) ?_
    · rw [← backs_add]; exact e _ (by omega)
    · rw [← backs_add, show i + (j - i) = j by omega]; exact h3.symm
  · have hex : ∃ k, k < V ∧ s.par (backs s k v) = none ∧ ∀ i < k, s.par (backs s i v) ≠ none := by
      have : ∀ n, (∀ i < n, s.par (backs s i v) ≠ none) ∨ ∃ k, k < n ∧ s.par (backs s k v) = none ∧ ∀ i < k, s.par (backs s i v) ≠ none := by
        intro n
        induction n with
        | zero => exact .inl (fun i hi' => by omega)
        | succ n ih =>
          rcases ih with h | ⟨k, h1, h2, h3⟩
          · cases hp : s.par (backs s n v) with
            | none => exact .inr ⟨n, by omega, hp, h⟩
            | some a => exact .inl (fun i hi' => by
                by_cases e : i = n
                · subst e; rw [hp]; simp
                · exact h i (by omega))
          · exact .inr ⟨k, by omega, h2, h3⟩
      exact (this V).resolve_left e
    obtain ⟨k, h1, h2, h3⟩ := hex
    obtain ⟨x, c1, c2, _⟩ := sums_ok hi k v y h3 hy
    obtain ⟨rfl, rfl⟩ := (hi.root _ h2).2 x c1
    exact ⟨k, h1, rfl, h3, h2, c1, by omega⟩
end
end Go.Proofs.A1
