/- Slices made at a length. -/
import Derived.Test.YtahcjhdepdhipaaGkSlice
import Derived.Laws.MakeOwn
set_option linter.unusedSectionVars false
set_option linter.unusedVariables false
set_option linter.unusedSimpArgs false
namespace Go.SL
open Go
theorem flatten_rep_get {α : Type} {zs : List α} {n i : Nat} (h0 : 0 < zs.length) (hi : i < n * zs.length) : (List.replicate n zs).flatten[i]? = zs[i % zs.length]? := by
  induction n generalizing i with
  | zero => omega
  | succ n ih =>
    rw [List.replicate_succ, List.flatten_cons, List.getElem?_append]
    split
    · rw [Nat.mod_eq_of_lt (by assumption)]
    · rw [ih (by rw [Nat.succ_mul] at hi; omega), Nat.mod_eq_sub_mod (a := i) (by omega)]
theorem madeCells_rows {z : Array Value} {n : Nat} (h0 : 0 < z.size) : (madeCells z (n * z.size)) = (List.replicate n z.toList).flatten.toArray := by
  apply Array.ext'
  apply List.ext_getElem?
  intro i
  rw [Array.getElem?_toList]
  by_cases hi : i < n * z.size
  · have := flatten_rep_get (zs := z.toList) (n := n) (i := i) (by simpa using h0) (by simpa using hi)
    rw [this]
    simp [madeCells, hi, Nat.mod_lt _ h0]
  · rw [Array.getElem?_eq_none (by simp [size_madeCells]; omega), List.getElem?_eq_none (by simp; omega)]
section
variable {P : Program} {c : Cx} {sl : Slots} {hs : List Asn} {dst : Option Tmp} {ty : TypeId} {pos : String} {af : Array Edge} {g : Option (Nat × Bool)}
theorem rk_make {t e : TypeId} {agg : Bool} {size bytes l cp : Nat} {z : Value} {x y : Operand} {kx ky : IntKind} [hu : Und P t (.slice e)] [hT : Ty P e agg size] [hZ : Zer P e z] [hB : Byt P e bytes]
    (hx : Is sl x (.int kx l)) (hy : Is sl y (.int ky cp)) (hl : l ≤ cp) (hb : bytes * cp ≤ 281474976710656) (hz : z.cells.size = size) (hsz : Nat.blt 0 size = true) (h63 : cp ≤ 9223372036854775807) :
    RunN P c sl hs ⟨dst, .makeSlice t x y, ty, pos, af, g⟩ (fun b => .slice (some ⟨b, 0, none⟩) l cp) (.cells (List.replicate cp z.cells.toList).flatten.toArray e (0, 0)) :=
  ⟨by simp, fun a w ha _ => by
    obtain ⟨de, i, hde, hi, _, hsize⟩ := Ty.parts (P := P) (t := e) (agg := agg) (n := size)
    have hzero : i.zero = some z := by have := hZ.eq; rw [hi] at this; simpa using this
    have hbytes : i.bytes = bytes := by have := hB.eq; rw [hi] at this; simpa using this
    have hs0 : 0 < size := by simpa [Nat.blt_eq] using hsz
    have := run_make (P := P) w t e i z hu.eq hi hzero kx ky l cp (by omega) (by omega) (by rw [hbytes]; omega) (by omega)
    have e1 := madeCells_rows (z := z.cells) (n := cp) (by omega)
    rw [hz] at e1
    simp only [execOp, hx a ha, hy a ha]
    refine (by rw [Sem.run_bind, this]; simp only [Int.toNat_natCast, hsize, e1]; rfl)⟩
end
end Go.SL
