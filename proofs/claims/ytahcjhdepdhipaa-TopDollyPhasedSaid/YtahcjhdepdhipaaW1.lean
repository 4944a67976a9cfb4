/- The argument of the law, opened; the statement. -/
import Derived.Test.YtahcjhdepdhipaaD3
import Derived.Lib.SmallJoins
import Derived.Deep.Slices
import Derived.Deep.Fields
import Derived.ChangeSame
import Derived.ChangeBook
import Derived.ChangeStays
import Derived.WalkKit
import Derived.ProofKit
import Derived.OpenShut
import Derived.Below
set_option linter.unusedSectionVars false
set_option linter.unusedVariables false
set_option linter.unusedSimpArgs false
namespace Go.Proofs.A1
open Go Go.SL Go.ChangeShapes Go.WideShapes Go.Deep Go.Joins
open Go.RowKit (Below)

section
variable {H : Type} {enc : TypeId × Value → H} {P : Program} {w : World} {base : Nat} {spare : Nat → Bool} {held : Bool}
theorem open_slice_fields {t e : TypeId} {fs : Array Field} {fuel : Nat} {cs : List Value} {x : DataW H × List MemPlace} (ht : P.underlying t = some (.slice e)) (he : P.underlying e = some (.struct fs))
    (hone : oneCellFields P fs = true) (hC : P.cellsOf e = fs.size) (h : DataW.trod enc P w base spare held fuel t cs = some x) :
    (cs = [.slice none 0 0] ∧ x = (.nil, [])) ∨
    ∃ (a : Addr) (len cap m : Nat) (D : Nat → DataW H) (Pl : Nat → List MemPlace), cs = [.slice (some a) len cap] ∧ base ≤ a.block ∧ len ≤ cap ∧ cap ≤ maxLen ∧ m = (if spare a.block then cap else len) ∧
      x = (.slice ((List.range len).map D) ((List.range (m - len)).map fun j => D (len + j)), MemPlace.row a (m * fs.size) ++ (List.range m).flatMap Pl) ∧
      ∀ i, i < m → ∃ (ys : List (DataW H × List MemPlace)) (n : Nat), D i = .agg (ys.map (·.1)) ∧ Pl i = ys.flatMap (·.2) ∧ ys.length = fs.size ∧
        ∀ (j : Nat) (f : Field), fs[j]? = some f → ∃ (v : Value) (y : DataW H × List MemPlace), w.cell? (a.add (i * fs.size + j)) = some v ∧ ys[j]? = some y ∧ DataW.trod enc P w base spare held n f.type [v] = some y := by
  rcases open_slice ht h with h0 | ⟨a, len, cap, m, n, D, Pl, hcs, hb, hl, hm, hmm, hx, hi⟩
  · exact .inl h0
  · refine .inr ⟨a, len, cap, m, D, Pl, hcs, hb, hl, hm, hmm, by rw [hC] at hx; exact hx, fun i him => ?_⟩
    obtain ⟨cs', hc, ht'⟩ := hi i him
    rw [hC] at hc
    obtain ⟨ys, n', hn', hy, hlen, hyl, hf⟩ := DataW.trod_struct he ht'
    obtain ⟨_, hcl, hat⟩ := World.cells?_some hc
    simp only [Prod.mk.injEq] at hy
    refine ⟨ys, n', hy.1, hy.2, hyl, fun j f hj => ?_⟩
    obtain ⟨ho, hk⟩ := hone_of hone j f hj
    have hjl : j < fs.size := (Array.getElem?_eq_some_iff.1 hj).1
    have hcell := hat j hjl
    have hv : cs'[j]? = some (cs'[j]'(by omega)) := List.getElem?_eq_getElem (by omega)
    have h1 := hf j f hj
    rw [ho, hk] at h1
    have hone' : (cs'.drop j).take 1 = [cs'[j]'(by omega)] := by
      rw [List.drop_eq_getElem_cons (by omega)]
      rfl
    rw [hone'] at h1
    have hys : ys[j]? = some (ys[j]'(by omega)) := List.getElem?_eq_getElem (by omega)
    refine ⟨_, _, ?_, hys, h1.trans hys⟩
    rw [← Go.Deep.add_add, hcell, hv]
end

theorem laidOut : laidOutB Try.prog = true := by kernel_rfl
theorem rec25 : Try.prog.readableRec 25 = true := by kernel_rfl
theorem row25 : (25 : TypeId) < Try.prog.types.size := of_decide_eq_true (by kernel_rfl)
theorem ownK : ownKnob Try.prog.godebug = none := by kernel_rfl
section
variable {H : Type} {enc : TypeId × Value → H} {w : World}
theorem stays25 {W W' : World} {sp' : Nat → Bool} {n : Nat} {cs : List Value} {x : DataW H × List MemPlace} (h : DataW.trod enc Try.prog W 0 (fun _ => true) true n 25 cs = some x)
    (hsame : ∀ p ∈ x.2, W.sameAt W' p) (hs : ∀ p ∈ x.2, sp' p.block = true) : DataW.trod enc Try.prog W' 0 sp' true n 25 cs = some x :=
  DataW.trod_stays (kids_book laidOut rec25) (book_sized rec25) (fun h => by cases h) ⟨row25, book_self 25⟩ h hsame hs

theorem add_none {b o n : Nat} : Addr.add ⟨b, o, none⟩ n = ⟨b, o + n, none⟩ := addr_add b o n
/-- a slice of strings, read -/
theorem open_strsRd {n : Nat} {v : Value} {y : DataW H × List MemPlace} (h : DataW.trod enc Try.prog w 0 (fun _ => true) true n 22 [v] = some y) : ∃ ns, Rd w v 1 (strs ns) := by
  rcases open_slice Try.underlying22 h with ⟨e, _⟩ | ⟨a, len, cap, m, n', D, Pl, hcs, _, hl, hm, hmm, _, hi⟩
  · simp only [List.cons.injEq, and_true] at e
    subst e
    exact ⟨[], Rd.nil w 1⟩
  · simp only [List.cons.injEq, and_true] at hcs
    subst hcs
    have hC : Try.prog.cellsOf 9 = 1 := by kernel_rfl
    rw [hC] at hi
    have hmc : m = cap := by simpa using hmm
    have hS : ∀ i, i < len → ∃ s : ByteArray, w.cell? (a.add i) = some (.string s) := fun i hil => by
      obtain ⟨cs', hc, ht⟩ := hi i (by omega)
      obtain ⟨_, hcl, hat⟩ := World.cells?_some hc
      obtain ⟨s, rfl, _, _⟩ := DataW.trod_string Try.underlying9 ht
      have := hat 0 (by omega)
      rw [Nat.mul_one] at this
      exact ⟨s, by simpa [Addr.add] using this⟩
    let S : Nat → ByteArray := fun i => match w.cell? (a.add i) with | some (.string s) => s | _ => ⟨#[]⟩
    have hS' : ∀ i, i < len → w.cell? (a.add i) = some (.string (S i)) := fun i hil => by
      obtain ⟨s, hs⟩ := hS i hil
      simp only [S, hs]
    refine ⟨(List.range len).map S, ?_⟩
    by_cases h0 : len = 0
    · subst h0
      exact ⟨some a, cap, 0, 0, by simp [strs], by simp [strs], hm, fun hne => absurd (by simp [strs]) hne, fun i r hr => by simp [strs] at hr⟩
    · obtain ⟨b, off, spot⟩ := a
      have hspot : spot = none := by simpa [Addr.add] using World.cell?_spot (hS' 0 (by omega))
      subst hspot
      refine ⟨some ⟨b, off, none⟩, cap, b, off, by simp [strs], by simpa [strs] using hl, hm, fun _ => rfl, fun i r hr => ?_⟩
      have hil : i < len := by
        have := (List.getElem?_eq_some_iff.1 hr).1
        simpa [strs] using this
      have hr' : r = [.string (S i)] := by
        simp [strs, hil] at hr; exact hr.symm
      subst hr'
      refine ⟨rfl, fun j u hu => ?_⟩
      cases j with
      | zero =>
        simp only [List.getElem?_cons_zero, Option.some.injEq] at hu
        subst hu
        have := hS' i hil
        rw [add_none] at this
        simpa using this
      | succ j => simp at hu
/-- a slice of edges, read -/
theorem open_edgesRd {n : Nat} {v : Value} {y : DataW H × List MemPlace} (h : DataW.trod enc Try.prog w 0 (fun _ => true) true n 23 [v] = some y) : ∃ es, Rd w v 4 (edgesL es) := by
  rcases open_slice_fields Try.underlying23 Try.underlying30 (by kernel_rfl) (by kernel_rfl) h with ⟨e, _⟩ | ⟨a, len, cap, m, D, Pl, hcs, _, hl, hm, hmm, _, hi⟩
  · simp only [List.cons.injEq, and_true] at e
    subst e
    exact ⟨[], Rd.nil w 4⟩
  · simp only [List.cons.injEq, and_true] at hcs
    subst hcs
    have hmc : m = cap := by simpa using hmm
    have hS : ∀ i j, i < len → j < 4 → ∃ k : Int, w.cell? (a.add (i * 4 + j)) = some (.int .i64 k) := fun i j hil hj => by
      obtain ⟨ys, n', _, _, _, hf⟩ := hi i (by omega)
      have key : ∀ (f : Field), f.type = 3 → (∃ (v : Value) (y : DataW H × List MemPlace), w.cell? (a.add (i * 4 + j)) = some v ∧ ys[j]? = some y ∧ DataW.trod enc Try.prog w 0 (fun _ => true) true n' f.type [v] = some y) → ∃ k : Int, w.cell? (a.add (i * 4 + j)) = some (.int .i64 k) := by
        rintro f hft ⟨v, y, h1, _, h3⟩
        rw [hft] at h3
        obtain ⟨k, e, _, _⟩ := DataW.trod_int Try.underlying3 h3
        simp only [List.cons.injEq, and_true] at e
        subst e
        exact ⟨k, h1⟩
      match j, hj with
      | 0, _ => exact key _ rfl (hf 0 _ rfl)
      | 1, _ => exact key _ rfl (hf 1 _ rfl)
      | 2, _ => exact key _ rfl (hf 2 _ rfl)
      | 3, _ => exact key _ rfl (hf 3 _ rfl)
    let S : Nat → Int := fun i => match w.cell? (a.add i) with | some (.int _ k) => k | _ => 0
    have hS' : ∀ i j, i < len → j < 4 → w.cell? (a.add (i * 4 + j)) = some (.int .i64 (S (i * 4 + j))) := fun i j hil hj => by
      obtain ⟨s, hs⟩ := hS i j hil hj
      simp only [S, hs]
    refine ⟨(List.range len).map fun i => ⟨S (i * 4 + 0), S (i * 4 + 1), S (i * 4 + 2), S (i * 4 + 3)⟩, ?_⟩
    by_cases h0 : len = 0
    · subst h0
      exact ⟨some a, cap, 0, 0, by simp [edgesL], by simp [edgesL], hm, fun hne => absurd (by simp [edgesL]) hne, fun i r hr => by simp [edgesL] at hr⟩
    · obtain ⟨b, off, spot⟩ := a
      have hspot : spot = none := by simpa [Addr.add] using World.cell?_spot (hS' 0 0 (by omega) (by omega))
      subst hspot
      refine ⟨some ⟨b, off, none⟩, cap, b, off, by simp [edgesL], by simpa [edgesL] using hl, hm, fun _ => rfl, fun i r hr => ?_⟩
      have hil : i < len := by
        have := (List.getElem?_eq_some_iff.1 hr).1
        simpa [edgesL] using this
      have hr' : r = [.int .i64 (S (i * 4 + 0)), .int .i64 (S (i * 4 + 1)), .int .i64 (S (i * 4 + 2)), .int .i64 (S (i * 4 + 3))] := by
        simp [edgesL, hil, Ed.cells] at hr; exact hr.symm
      subst hr'
      refine ⟨rfl, fun j u hu => ?_⟩
      have key : ∀ j, j < 4 → w.cell? ⟨b, off + i * 4 + j, none⟩ = some (.int .i64 (S (i * 4 + j))) := fun j hj => by
        have := hS' i j hil hj
        rw [add_none] at this
        rw [Nat.add_assoc]; exact this
      match j with
      | 0 => cases hu; exact key 0 (by omega)
      | 1 => cases hu; exact key 1 (by omega)
      | 2 => cases hu; exact key 2 (by omega)
      | 3 => cases hu; exact key 3 (by omega)
      | j + 4 => simp at hu
end
end Go.Proofs.A1
