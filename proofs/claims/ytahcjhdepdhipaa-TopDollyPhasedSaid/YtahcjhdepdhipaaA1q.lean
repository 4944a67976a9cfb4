/- The nets of the statement: their arcs, their least and greatest times. Plain Lean. -/
import Derived.Test.YtahcjhdepdhipaaA1p
set_option linter.unusedSectionVars false
set_option linter.unusedVariables false
set_option linter.unusedSimpArgs false
namespace Go.Proofs.A1

structure Ed where
  f : Int
  t : Int
  lo : Int
  hi : Int

def arcF (i : Nat) (e : Ed) : A := ⟨(i, false, 0), e.f.toNat, e.t.toNat, e.lo⟩
def arcB (i : Nat) (e : Ed) : A := ⟨(i, true, 0), e.t.toNat, e.f.toNat, -e.hi⟩
def arcN (x : Nat) : A := ⟨(-1, false, x), 0, x, 0⟩
/-- the arcs of the first edges that leave a node -/
def lvE (es : List Ed) (u : Nat) : Nat → List A
  | 0 => []
  | n + 1 => lvE es u n ++ match es[n]? with
    | some e => (if e.f.toNat = u then [arcF n e] else []) ++ (if e.t.toNat = u then [arcB n e] else [])
    | none => []
def lvN (u n : Nat) : List A := if u = 0 then (List.range n).map arcN else []
def lvs (es : List Ed) (V u : Nat) : List A := lvE es u es.length ++ lvN u V

structure Good (V : Nat) (es : List Ed) : Prop where
  pos : 0 < V
  most : V ≤ 4
  ed : ∀ e ∈ es, 0 ≤ e.f ∧ e.f < V ∧ 0 ≤ e.t ∧ e.t < V ∧ e.f ≠ e.t ∧ 0 ≤ e.lo ∧ e.lo ≤ e.hi ∧ e.hi ≤ 4

theorem mem_lvE {es : List Ed} {u : Nat} {a : A} : ∀ {n}, a ∈ lvE es u n → ∃ i e, es[i]? = some e ∧ ((a = arcF i e ∧ e.f.toNat = u) ∨ (a = arcB i e ∧ e.t.toNat = u))
  | 0, h => by simp [lvE] at h
  | n + 1, h => by
    simp only [lvE, List.mem_append] at h
    rcases h with h | h
    · exact mem_lvE h
    · cases he : es[n]? with
      | none => simp [he] at h
      | some e =>
        simp only [he, List.mem_append] at h
        rcases h with h | h
        · split at h
          · exact ⟨n, e, he, .inl ⟨by simpa using h, by assumption⟩⟩
          · simp at h
        · split at h
          · exact ⟨n, e, he, .inr ⟨by simpa using h, by assumption⟩⟩
          · simp at h
theorem mem_lv {es : List Ed} {V u : Nat} {a : A} (h : a ∈ lvs es V u) : (∃ i e, es[i]? = some e ∧ ((a = arcF i e ∧ e.f.toNat = u) ∨ (a = arcB i e ∧ e.t.toNat = u))) ∨ (u = 0 ∧ ∃ x, x < V ∧ a = arcN x) := by
  rcases List.mem_append.1 h with h | h
  · exact .inl (mem_lvE h)
  · unfold lvN at h
    split at h
    · simp only [List.mem_map, List.mem_range] at h
      obtain ⟨x, hx, rfl⟩ := h
      exact .inr ⟨by assumption, x, hx, rfl⟩
    · simp at h
theorem lvE_mem {es : List Ed} {u i : Nat} {e : Ed} (he : es[i]? = some e) : ∀ n, i < n → (e.f.toNat = u → arcF i e ∈ lvE es u n) ∧ (e.t.toNat = u → arcB i e ∈ lvE es u n)
  | 0, h => by omega
  | n + 1, h => by
    by_cases hi : i = n
    · subst hi
      constructor <;> intro hu <;> simp [lvE, he, hu]
    · obtain ⟨h1, h2⟩ := lvE_mem he n (by omega)
      exact ⟨fun hu => List.mem_append_left _ (h1 hu), fun hu => List.mem_append_left _ (h2 hu)⟩

section
variable {V : Nat} {es : List Ed}

theorem Good.at (g : Good V es) {i : Nat} {e : Ed} (h : es[i]? = some e) : 0 ≤ e.f ∧ e.f < V ∧ 0 ≤ e.t ∧ e.t < V ∧ e.f ≠ e.t ∧ 0 ≤ e.lo ∧ e.lo ≤ e.hi ∧ e.hi ≤ 4 := g.ed e (List.mem_of_getElem? h)

theorem Good.net (g : Good V es) : Net (lvs es V) V where
  u := fun i a h => by
    rcases mem_lv h with ⟨j, e, he, ⟨rfl, hu⟩ | ⟨rfl, hu⟩⟩ | ⟨rfl, x, hx, rfl⟩
    · exact hu
    · exact hu
    · rfl
  v := fun i a h => by
    rcases mem_lv h with ⟨j, e, he, ⟨rfl, hu⟩ | ⟨rfl, hu⟩⟩ | ⟨rfl, x, hx, rfl⟩
    · have := g.at he; simp only [arcF]; omega
    · have := g.at he; simp only [arcB]; omega
    · exact hx
  self := fun i a h e => by
    rcases mem_lv h with ⟨j, e', he, ⟨rfl, hu⟩ | ⟨rfl, hu⟩⟩ | ⟨rfl, x, hx, rfl⟩
    · have := g.at he; simp only [arcF] at e; omega
    · have := g.at he; simp only [arcB] at e; omega
    · simp [arcN]

theorem Good.w4 (g : Good V es) {u : Nat} {a : A} (h : a ∈ lvs es V u) : a.w ≤ 4 ∧ -4 ≤ a.w := by
  rcases mem_lv h with ⟨j, e', he, ⟨rfl, hu⟩ | ⟨rfl, hu⟩⟩ | ⟨rfl, x, hx, rfl⟩
  · have := g.at he; simp only [arcF]; omega
  · have := g.at he; simp only [arcB]; omega
  · simp [arcN]

/-- times that bring all in phase -/
structure Fits (V : Nat) (es : List Ed) (t : Nat → Int) : Prop where
  zero : t 0 = 0
  low : ∀ x, x < V → 0 ≤ t x
  ed : ∀ e ∈ es, e.lo ≤ t e.t.toNat - t e.f.toNat ∧ t e.t.toNat - t e.f.toNat ≤ e.hi

theorem Fits.arc {t : Nat → Int} (h : Fits V es t) {u : Nat} {a : A} (ha : a ∈ lvs es V u) : t a.u + a.w ≤ t a.v := by
  rcases mem_lv ha with ⟨j, e', he, ⟨rfl, hu⟩ | ⟨rfl, hu⟩⟩ | ⟨rfl, x, hx, rfl⟩
  · have := h.ed _ (List.mem_of_getElem? he); simp only [arcF]; omega
  · have := h.ed _ (List.mem_of_getElem? he); simp only [arcB]; omega
  · have := h.low x hx; have := h.zero; simp only [arcN]; omega

theorem fits_of (g : Good V es) {t : Nat → Int} (h0 : t 0 = 0) (h : ∀ u a, u < V → a ∈ lvs es V u → t a.u + a.w ≤ t a.v) : Fits V es t where
  zero := h0
  low := fun x hx => by
    have := h 0 (arcN x) g.pos (List.mem_append_right _ (by unfold lvN; rw [if_pos rfl]; exact List.mem_map.2 ⟨x, List.mem_range.2 hx, rfl⟩))
    simp only [arcN] at this; omega
  ed := fun e he => by
    obtain ⟨i, hi, he'⟩ := List.getElem_of_mem he
    have he2 : es[i]? = some e := by rw [List.getElem?_eq_getElem hi, he']
    have hg := g.at he2
    have h1 := h e.f.toNat (arcF i e) (by omega) (List.mem_append_left _ ((lvE_mem he2 _ hi).1 rfl))
    have h2 := h e.t.toNat (arcB i e) (by omega) (List.mem_append_left _ ((lvE_mem he2 _ hi).2 rfl))
    simp only [arcF, arcB] at h1 h2
    omega

theorem inv_of (g : Good V es) {f : Nat} (hf : f < V) : Inv (lvs es V) V f (V + 1) (longest (lvs es V) V f).1 := (rounds_ok (f := f) g.net hf (V + 1)).1

theorem Fits.par (g : Good V es) {t : Nat → Int} (h : Fits V es t) {f : Nat} (hf : f < V) : ∀ v a, (longest (lvs es V) V f).1.par v = some a → t a.u + a.w ≤ t v := fun v a hp => by
  obtain ⟨b1, _, b3, _⟩ := (inv_of g hf).par v a hp
  have := h.arc b1
  rwa [b3] at this

/-- with times that fit nothing grows for ever -/
theorem rests (g : Good V es) {t : Nat → Int} (h : Fits V es t) {f : Nat} (hf : f < V) : (longest (lvs es V) V f).2 = none := by
  cases hg : (longest (lvs es V) V f).2 with
  | none => rfl
  | some x =>
    exfalso
    obtain ⟨_, h2⟩ := grew_backs g.net hf hg
    obtain ⟨i, j, a1, a2, a3⟩ := pigeon V (fun i => backs (longest (lvs es V) V f).1 i x) (fun i hi => (h2 i hi).2)
    refine no_loop (inv_of g hf) (h.par g hf) (k := j - i) (v := backs (longest (lvs es V) V f).1 i x) (by omega) (fun n hn hp => ?_) ?_
    · rw [← backs_add] at hp
      have h3 := (h2 (i + n) (by omega)).1
      have h4 := ((inv_of g hf).root _ hp).1
      omega
    · rw [← backs_add, show i + (j - i) = j by omega]; exact a3.symm

theorem sums4 (g : Good V es) {f : Nat} (hf : f < V) : ∀ k v, (∀ i < k, (longest (lvs es V) V f).1.par (backs (longest (lvs es V) V f).1 i v) ≠ none) → sums (longest (lvs es V) V f).1 k v ≤ 4 * k
  | 0, v, _ => by simp [sums]
  | k + 1, v, h => by
    cases hp : (longest (lvs es V) V f).1.par v with
    | none => exact absurd hp (h 0 (by omega))
    | some a =>
      have hb : back (longest (lvs es V) V f).1 v = a.u := by simp [back, hp]
      have h1 := sums4 g hf k a.u (fun i hi => by have := h (i + 1) (by omega); simpa [backs, hb] using this)
      obtain ⟨b1, _⟩ := (inv_of g hf).par v a hp
      have := g.w4 b1
      simp only [sums, hp, hb]
      omega

/-- nothing grows for ever: the labels fit, and are the least times that do -/
theorem labels (g : Good V es) (h : (longest (lvs es V) V 0).2 = none) : Fits V es (times (longest (lvs es V) V 0).1) ∧ (∀ x < V, times (longest (lvs es V) V 0).1 x ≤ 12) ∧
    (∀ x < V, (longest (lvs es V) V 0).1.lab x ≠ none) := by
  have hi := inv_of g g.pos
  have hp := times_par g.net g.pos h
  obtain ⟨y0, hy0, _⟩ := hi.frm
  obtain ⟨_, _, _, _, _, hz, _⟩ := chain hi hp g.pos hy0
  have hall : ∀ x < V, ∃ y, (longest (lvs es V) V 0).1.lab x = some y := fun x hx => by
    have hm : arcN x ∈ lvs es V 0 := List.mem_append_right _ (by unfold lvN; rw [if_pos rfl]; exact List.mem_map.2 ⟨x, List.mem_range.2 hx, rfl⟩)
    obtain ⟨y, hy, _⟩ := rest g.net g.pos h (arcN x) hm g.pos 0 hz
    exact ⟨y, hy⟩
  refine ⟨fits_of g (by simp [times, hz]) (fun u a hu ha => ?_), fun x hx => ?_, fun x hx => ?_⟩
  · have e := g.net.u _ _ ha
    obtain ⟨x, hx⟩ := hall u hu
    obtain ⟨y, hy, hle⟩ := rest g.net g.pos h a (by rw [e]; exact ha) (by omega) x (by rw [e]; exact hx)
    simp only [times, e, hx, hy, Option.getD_some]
    exact hle
  · obtain ⟨y, hy⟩ := hall x hx
    obtain ⟨k, h1, h2, h3, _, _, h4⟩ := chain hi hp hx hy
    have := sums4 g g.pos k x h3
    have := g.most
    simp only [times, hy, Option.getD_some]
    omega
  · obtain ⟨y, hy⟩ := hall x hx; rw [hy]; simp

theorem least_le (g : Good V es) {t : Nat → Int} (ht : Fits V es t) {f x : Nat} (hf : f < V) (hx : x < V) {y : Int} (hy : (longest (lvs es V) V f).1.lab x = some y) : t f + y ≤ t x := by
  obtain ⟨k, h1, h2, h3, _, _, h4⟩ := chain (inv_of g hf) (ht.par g hf) hx hy
  have := sums_le (inv_of g hf) (ht.par g hf) k x h3
  rw [h2] at this
  omega

/-! ### nodes that edges join with the first one -/
def adj (es : List Ed) (u v : Nat) : Prop := ∃ e ∈ es, (e.f.toNat = u ∧ e.t.toNat = v) ∨ (e.f.toNat = v ∧ e.t.toNat = u)
def joined (es : List Ed) (V x : Nat) : Prop := ∃ (k : Nat) (p : Nat → Nat), p 0 = 0 ∧ p k = x ∧ (∀ i ≤ k, p i < V) ∧ ∀ i < k, adj es (p i) (p (i + 1))

theorem joined_zero (g : Good V es) : joined es V 0 := ⟨0, fun _ => 0, rfl, rfl, fun _ _ => g.pos, fun i hi => by omega⟩
theorem joined_next {u v : Nat} (h : joined es V u) (ha : adj es u v) (hv : v < V) : joined es V v := by
  obtain ⟨k, p, h1, h2, h3, h4⟩ := h
  refine ⟨k + 1, fun i => if i ≤ k then p i else v, by simp [h1], if_neg (by omega), fun i hi => ?_, fun i hi => ?_⟩
  · show (if i ≤ k then p i else v) < V
    split
    · exact h3 i (by assumption)
    · exact hv
  · show adj es (if i ≤ k then p i else v) (if i + 1 ≤ k then p (i + 1) else v)
    by_cases e : i = k
    · subst e; rw [if_pos (Nat.le_refl _), if_neg (by omega), h2]; exact ha
    · rw [if_pos (by omega), if_pos (by omega)]; exact h4 i (by omega)

theorem joined_short (g : Good V es) {x : Nat} (h : joined es V x) : ∃ (k : Nat) (p : Nat → Nat), k < V ∧ p 0 = 0 ∧ p k = x ∧ (∀ i ≤ k, p i < V) ∧ ∀ i < k, adj es (p i) (p (i + 1)) := by
  obtain ⟨k, p, h1, h2, h3, h4⟩ := h
  induction k using Nat.strongRecOn generalizing p with
  | _ k ih =>
    by_cases hk : k < V
    · exact ⟨k, p, hk, h1, h2, h3, h4⟩
    · obtain ⟨i, j, a1, a2, a3⟩ := pigeon V p (fun i hi => h3 i (by omega))
      refine ih (k - (j - i)) (by omega) (fun n => if n ≤ i then p n else p (n + (j - i))) (by simp [h1]) ?_ (fun n hn => ?_) (fun n hn => ?_)
      · show (if k - (j - i) ≤ i then p (k - (j - i)) else p (k - (j - i) + (j - i))) = x
        split
        · rw [show k - (j - i) = i by omega, a3, show j = k by omega]; exact h2
        · rw [show k - (j - i) + (j - i) = k by omega]; exact h2
      · show (if n ≤ i then p n else p (n + (j - i))) < V
        split <;> exact h3 _ (by omega)
      · show adj es (if n ≤ i then p n else p (n + (j - i))) (if n + 1 ≤ i then p (n + 1) else p (n + 1 + (j - i)))
        by_cases e1 : n + 1 ≤ i
        · rw [if_pos (by omega), if_pos e1]; exact h4 n (by omega)
        · rw [if_neg e1]
          by_cases e2 : n = i
          · subst e2
            rw [if_pos (Nat.le_refl _), a3, show n + 1 + (j - n) = j + 1 by omega]; exact h4 j (by omega)
          · rw [if_neg (by omega), show n + 1 + (j - i) = n + (j - i) + 1 by omega]; exact h4 _ (by omega)

theorem joined_le (g : Good V es) {t : Nat → Int} (ht : Fits V es t) {x : Nat} (h : joined es V x) : t x ≤ 12 := by
  obtain ⟨k, p, h0, h1, h2, h3, h4⟩ := joined_short g h
  have : ∀ i ≤ k, t (p i) ≤ 4 * i := by
    intro i
    induction i with
    | zero => intro _; rw [h1, ht.zero]; omega
    | succ i ih =>
      intro hi
      have h5 := ih (by omega)
      obtain ⟨e, he, hh⟩ := h4 i (by omega)
      have h6 := ht.ed e he
      have h7 := g.ed e he
      rcases hh with ⟨q1, q2⟩ | ⟨q1, q2⟩ <;> rw [q1, q2] at h6 <;> omega
  have := this k (Nat.le_refl _)
  rw [h2] at this
  have := g.most
  omega

/-- the greatest time of a node from which a way leads back -/
theorem greatest (g : Good V es) (h : (longest (lvs es V) V 0).2 = none) {m : Nat} (hm : m < V) {L : Int} (hL : (longest (lvs es V) V m).1.lab 0 = some L) :
    ∃ t, Fits V es t ∧ (∀ x < V, t x ≤ 12) ∧ t m = -L := by
  obtain ⟨hl, hl12, hlall⟩ := labels g h
  have hr := rests g hl hm
  have hi := inv_of g hm
  have hp := times_par g.net hm hr
  obtain ⟨k0, k1, k2, k3, k4, k5, k6⟩ := chain hi hp g.pos hL
  have lm : times (longest (lvs es V) V 0).1 m ≤ -L := by
    have := least_le g hl hm g.pos hL
    rw [hl.zero] at this; omega
  -- the times
  let T : Nat → Int := fun x => match (longest (lvs es V) V m).1.lab x with
    | none => times (longest (lvs es V) V 0).1 x
    | some y => max (times (longest (lvs es V) V 0).1 x) (-L + y)
  have T1 : ∀ x y, (longest (lvs es V) V m).1.lab x = some y → T x = max (times (longest (lvs es V) V 0).1 x) (-L + y) := fun x y hy => by simp only [T, hy]
  have T0 : ∀ x, times (longest (lvs es V) V 0).1 x ≤ T x := fun x => by
    simp only [T]; split <;> omega
  have hT : Fits V es T := by
    refine fits_of g ?_ (fun u a hu ha => ?_)
    · rw [T1 0 L hL, hl.zero]; omega
    · have e := g.net.u _ _ ha
      have h1 := hl.arc ha
      have h2 := T0 a.v
      cases hy : (longest (lvs es V) V m).1.lab a.u with
      | none => simp only [T, hy]; simp only [T] at h2; omega
      | some y =>
        obtain ⟨z, hz, hle⟩ := rest g.net hm hr a (by rw [e]; exact ha) (by omega) y hy
        rw [T1 _ _ hy, T1 _ _ hz]
        omega
  refine ⟨T, hT, fun x hx => ?_, by rw [T1 m 0 k5]; omega⟩
  -- the nodes on the ways
  have jm : joined es V m := by
    have : ∀ i ≤ k0, joined es V (backs (longest (lvs es V) V m).1 i 0) := by
      intro i
      induction i with
      | zero => intro _; exact joined_zero g
      | succ i ih =>
        intro hle
        cases hpi : (longest (lvs es V) V m).1.par (backs (longest (lvs es V) V m).1 i 0) with
        | none => exact absurd hpi (k3 i (by omega))
        | some a =>
          obtain ⟨b1, b2, b3, _⟩ := hi.par _ a hpi
          have hb : backs (longest (lvs es V) V m).1 (i + 1) 0 = a.u := by rw [backs_add]; simp [backs, back, hpi]
          rw [hb]
          rcases mem_lv b1 with ⟨j, e, he, ⟨hae, hu⟩ | ⟨hae, hu⟩⟩ | ⟨hu, x, hx, hae⟩
          · refine joined_next (ih (by omega)) ⟨e, List.mem_of_getElem? he, .inr ⟨hu, ?_⟩⟩ b2
            rw [← b3, hae]; rfl
          · refine joined_next (ih (by omega)) ⟨e, List.mem_of_getElem? he, .inl ⟨?_, hu⟩⟩ b2
            rw [← b3, hae]; rfl
          · exfalso
            exact no_loop hi hp (k := i + 1) (v := 0) (by omega) (fun j hj => k3 j (by omega)) (by rw [hb, hu])
    have := this k0 (Nat.le_refl _)
    rwa [k2] at this
  have key : ∀ k v, v < V → (∀ i < k, (longest (lvs es V) V m).1.par (backs (longest (lvs es V) V m).1 i v) ≠ none) → backs (longest (lvs es V) V m).1 k v = m →
      joined es V v ∨ ∀ y, (longest (lvs es V) V m).1.lab v = some y → -L + y ≤ times (longest (lvs es V) V 0).1 v := by
    intro k
    induction k with
    | zero => intro v _ _ e; left; simp only [backs] at e; rw [e]; exact jm
    | succ k ih =>
      intro v hv hpar e
      cases hpv : (longest (lvs es V) V m).1.par v with
      | none => exact absurd hpv (hpar 0 (by omega))
      | some a =>
        have hb : back (longest (lvs es V) V m).1 v = a.u := by simp [back, hpv]
        obtain ⟨b1, b2, b3, _, _, x0, y0, b6, b7, b8, _⟩ := hi.par v a hpv
        have h1 := hl.arc b1
        rw [b3] at h1
        rcases ih a.u b2 (fun i hi => by have := hpar (i + 1) (by omega); simpa [backs, hb] using this) (by simpa [backs, hb] using e) with hj | hj
        · rcases mem_lv b1 with ⟨j, e, he, ⟨hae, hu⟩ | ⟨hae, hu⟩⟩ | ⟨hu, x, hx, hae⟩
          · refine .inl (joined_next hj ⟨e, List.mem_of_getElem? he, .inl ⟨hu, ?_⟩⟩ hv)
            rw [← b3, hae]; rfl
          · refine .inl (joined_next hj ⟨e, List.mem_of_getElem? he, .inr ⟨?_, hu⟩⟩ hv)
            rw [← b3, hae]; rfl
          · right
            intro y hy
            rw [b7] at hy; cases hy
            rw [hu, hL] at b6; cases b6
            have := hl.low v hv
            have : a.w = 0 := by rw [hae]; rfl
            omega
        · right
          intro y hy
          rw [b7] at hy; cases hy
          have := hj x0 b6
          omega
  cases hy : (longest (lvs es V) V m).1.lab x with
  | none => have := hl12 x hx; simp only [T, hy]; omega
  | some y =>
    obtain ⟨c0, c1, c2, c3, _⟩ := chain hi hp hx hy
    rcases key c0 x hx c3 c2 with hj | hj
    · exact joined_le g hT hj
    · have := hj y hy
      have := hl12 x hx
      rw [T1 x y hy]; omega

theorem below_greatest (g : Good V es) {m : Nat} (hm : m < V) {L : Int} (hL : (longest (lvs es V) V m).1.lab 0 = some L) {t : Nat → Int} (ht : Fits V es t) : t m ≤ -L := by
  have := least_le g ht hm g.pos hL
  rw [ht.zero] at this; omega
end
end Go.Proofs.A1
