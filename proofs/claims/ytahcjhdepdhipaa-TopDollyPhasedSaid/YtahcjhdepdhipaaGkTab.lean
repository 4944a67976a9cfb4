/- Blocks that hold rows of cells, one row a number: what is read, and what is stored. -/
import Derived.Test.YtahcjhdepdhipaaGkSeq
import Derived.Test.YtahcjhdepdhipaaGkMake
set_option linter.unusedSectionVars false
set_option linter.unusedVariables false
set_option linter.unusedSimpArgs false
namespace Go.SL
open Go

def tab (n : Nat) (f : Nat → List Value) : List Value := ((List.range n).map f).flatten
theorem tab_length {n sz : Nat} {f : Nat → List Value} (hf : ∀ i, i < n → (f i).length = sz) : (tab n f).length = n * sz := by
  unfold tab
  induction n with
  | zero => simp
  | succ n ih =>
    rw [List.range_succ, List.map_append, List.flatten_append, List.length_append, ih (fun i h => hf i (by omega))]
    simp [hf n (by omega), Nat.succ_mul]
theorem tab_get {n sz i j : Nat} {f : Nat → List Value} (hf : ∀ i, i < n → (f i).length = sz) (hi : i < n) (hj : j < sz) : (tab n f)[i * sz + j]? = (f i)[j]? := by
  have hl := hf i hi
  obtain ⟨u, hu⟩ : ∃ u, (f i)[j]? = some u := ⟨(f i)[j]'(by omega), List.getElem?_eq_getElem (by omega)⟩
  rw [hu]
  exact flatten_get _ i (fun r hr => by obtain ⟨k, hk, rfl⟩ := List.mem_map.1 hr; exact hf k (List.mem_range.1 hk)) (by simp [hi]) hu
theorem tab_congr {n : Nat} {f g : Nat → List Value} (h : ∀ i, i < n → f i = g i) : tab n f = tab n g := by
  unfold tab
  congr 1
  exact List.map_congr_left fun i hi => h i (List.mem_range.1 hi)
theorem setCells_get : ∀ (vs cs : List Value) (o k : Nat), o + vs.length ≤ cs.length → (setCells cs o vs)[k]? = if o ≤ k ∧ k < o + vs.length then vs[k - o]? else cs[k]?
  | [], cs, o, k, _ => by
    rw [if_neg (by simp only [List.length_nil]; omega)]; rfl
  | v :: vs, cs, o, k, h => by
    simp only [List.length_cons] at h ⊢
    rw [setCells, setCells_get vs _ (o + 1) k (by simp; omega)]
    by_cases h1 : o + 1 ≤ k ∧ k < o + 1 + vs.length
    · rw [if_pos h1, if_pos (by omega), show k - o = (k - (o + 1)) + 1 by omega, List.getElem?_cons_succ]
    · rw [if_neg h1]
      by_cases h2 : k = o
      · subst h2
        rw [if_pos (by omega), Nat.sub_self, List.getElem?_cons_zero, List.getElem?_set_self (by omega)]
      · rw [if_neg (by omega), List.getElem?_set_ne (by omega)]
theorem tab_split {n sz k : Nat} (h : k < n * sz) : k / sz < n ∧ k % sz < sz ∧ k = k / sz * sz + k % sz := by
  have hs : 0 < sz := by
    rcases Nat.eq_zero_or_pos sz with h0 | h0
    · subst h0; simp at h
    · exact h0
  refine ⟨Nat.div_lt_of_lt_mul (by rwa [Nat.mul_comm]), Nat.mod_lt _ hs, ?_⟩
  have := Nat.div_add_mod k sz
  rw [Nat.mul_comm] at this
  exact this.symm
/-- a row, or a part of a row, stored -/
theorem tab_set {n sz i o : Nat} {f : Nat → List Value} {vs : List Value} (hf : ∀ i, i < n → (f i).length = sz) (hi : i < n) (ho : o + vs.length ≤ sz) :
    setCells (tab n f) (i * sz + o) vs = tab n (fun k => if k = i then setCells (f i) o vs else f k) := by
  have hm : (i + 1) * sz ≤ n * sz := Nat.mul_le_mul_right _ hi
  rw [Nat.succ_mul] at hm
  have hg : ∀ k, k < n → ((fun k => if k = i then setCells (f i) o vs else f k) k).length = sz := fun k hk => by
    show (if k = i then _ else _ : List Value).length = sz
    split
    · rw [setCells_length, hf i hi]
    · exact hf k hk
  have hl1 := tab_length hf
  have hl2 := tab_length hg
  apply List.ext_getElem?
  intro k
  rw [setCells_get _ _ _ _ (by rw [hl1]; omega)]
  by_cases hk : k < n * sz
  · obtain ⟨h1, h2, h3⟩ := tab_split hk
    rw [h3, tab_get hg h1 h2, tab_get hf h1 h2]
    by_cases e : k / sz = i
    · rw [e]
      simp only [if_true]
      rw [setCells_get _ _ _ _ (by rw [hf i hi]; omega)]
      by_cases h4 : o ≤ k % sz ∧ k % sz < o + vs.length
      · rw [if_pos h4, if_pos (by omega), show i * sz + k % sz - (i * sz + o) = k % sz - o by omega]
      · rw [if_neg h4, if_neg (by omega)]
    · rw [if_neg]
      · simp only [if_neg e]
      · intro ⟨h4, h5⟩
        rcases Nat.lt_or_gt_of_ne e with e | e
        · have : (k / sz + 1) * sz ≤ i * sz := Nat.mul_le_mul_right _ e
          rw [Nat.succ_mul] at this; omega
        · have : (i + 1) * sz ≤ k / sz * sz := Nat.mul_le_mul_right _ e
          rw [Nat.succ_mul] at this; omega
  · rw [if_neg (by omega), List.getElem?_eq_none (by omega), List.getElem?_eq_none (by omega)]
theorem tab_cells {n sz i : Nat} {f : Nat → List Value} (hf : ∀ i, i < n → (f i).length = sz) (hi : i < n) : cellsAt (tab n f) (i * sz) sz = f i := by
  rw [cellsAt_eq]
  apply List.ext_getElem?
  intro j
  rw [List.getElem?_take]
  split
  · rw [List.getElem?_drop, tab_get hf hi (by assumption)]
  · rw [List.getElem?_eq_none (by rw [hf i hi]; omega)]
theorem rep_tab (n : Nat) (z : List Value) : (List.replicate n z).flatten = tab n (fun _ => z) := by
  unfold tab; congr 1; simp [List.map_const']
theorem tab_eq_map (n : Nat) (f : Nat → List Value) : tab n f = ((List.range n).map f).flatten := rfl

theorem At.blkL {c : Cx} {hs hs' : List Asn} {b o : Nat} {cs : List Value} {E : TypeId} {fz : Nat × Nat} {v : Value} (ht : Take hs (SL.blk b (.cells cs.toArray E fz)) hs') (hv : cs[o]? = some v) : At c hs b o v :=
  At.blk ht (by simpa using hv)

/-- a block of rows, read as a slice -/
theorem Mem.rdTab {c : Cx} {hs hs' : List Asn} {w : World} (hm : Mem c hs w) {b n sz : Nat} {f : Nat → List Value} {E : TypeId} {fz : Nat × Nat} (ht : Take hs (SL.blk b (.cells (tab n f).toArray E fz)) hs') (hf : ∀ i, i < n → (f i).length = sz) (hn : n ≤ maxLen) :
    Rd w (.slice (some ⟨b, 0, none⟩) n n) sz ((List.range n).map f) := by
  refine ⟨_, n, b, 0, by simp, by simp, hn, fun _ => rfl, fun i r hr => ?_⟩
  simp only [List.getElem?_map, Option.map_eq_some_iff] at hr
  obtain ⟨k, hk, rfl⟩ := hr
  obtain ⟨hlt, hk⟩ := List.getElem?_eq_some_iff.1 hk
  simp only [List.getElem_range] at hk
  subst hk
  simp only [List.length_range] at hlt
  refine ⟨hf i hlt, fun j u hu => ?_⟩
  have hj : j < sz := by rw [← hf i hlt]; exact (List.getElem?_eq_some_iff.1 hu).1
  rw [cell_of_block (hm.blk ht)]
  have := tab_get hf hlt hj
  simp only [Nat.zero_add, List.getElem?_toArray]
  rw [this]; exact hu

section
variable {P : Program} {c : Cx} {sl : Slots} {hs hs' : List Asn}
/-- two results, the first in memory -/
theorem endsCT {fn : Func} {t u : Tmp} {T : TypeId} {b o n : Nat} {cs vs : List Value} {E : TypeId} {fz : Nat × Nat} {y : Value} (h : fn.results = #[.cell t T, .tmp u]) (hT : Ty P T true n) (hp : sget sl t = some (.pointer (some ⟨b, o, none⟩))) (ht : Take hs (SL.blk b (.cells cs.toArray E fz)) hs') (hv : cellsAt cs o n = vs) (hl : vs.length = n) (hy : sget sl u = some y) : Ends P fn c sl hs (.tuple #[.agg vs.toArray, y]) :=
  endsL (xs := [.cell t T, .tmp u]) (vs := [.agg vs.toArray, y]) h (RVs.cons (RV.cell hp (loadsN (Ats.blk ht hv) hl)) (RVs.cons (RV.tmp hy) RVs.nil)) (by simp)

variable {dst : Option Tmp} {ty : TypeId} {pos : String} {af : Array Edge} {g : Option (Nat × Bool)}
/-- a slice literal of aggregates -/
theorem rk_sliceLitN {t e : TypeId} {agg : Bool} {n size : Nat} {z : Value} {xs : List (Nat × Operand)} {ps : List (Nat × Value)} {zs cs : List Value} {places : List (Nat × Nat)} [hu : Und P t (.slice e)] [hT : Ty P e agg size] [hZ : Zer P e z] (hp : Parts sl xs ps)
    (hn : Nat.ble (n * size) 1000 = true) (hpos : Nat.blt 0 (n * size) = true) (hpl : (List.range n).map (fun i => (i * size, size)) = places) (hzs : (List.range (n * size)).map (fun i => z.cells[i % z.cells.size]!) = zs) (hf : fillL places zs ps = some cs) :
    RunN P c sl hs ⟨dst, .buildSlice t n xs.toArray, ty, pos, af, g⟩ (fun b => .slice (some ⟨b, 0, none⟩) n n) (.cells cs.toArray e) :=
  rk_buildSlice (ps := ps.toArray) (fun a ha => by have := hp.map ha; rw [List.map_toArray, this]) (fun w => by
    have hn' : n * size ≤ 1000 := by simpa using hn
    have hp' : 0 < n * size := by simpa [Nat.blt_eq] using hpos
    unfold Instr.buildSlice
    simp only [Sem.run_bind, rk_underlying hu.eq, Result.andThen_ok, rk_sizeOf (t := e) (agg := agg) (n := size)]
    rw [if_neg (by omega), if_neg (by omega)]
    simp only [Sem.run_bind, rk_zeroValue (t := e) (v := z), Result.andThen_ok, Sem.run_pure]
    have h1 : (Array.range (n * size)).map (fun i => z.cells[i % z.cells.size]!) = zs.toArray := by
      rw [← hzs]; apply Array.ext'; simp
    have h2 := fill_eq (places := places) (f := fun i => if i < n then some (i * size, size) else none) (fun i x hx => by
      subst hpl
      simp only [List.getElem?_map, Option.map_eq_some_iff] at hx
      obtain ⟨k, hk, rfl⟩ := hx
      obtain ⟨hlt, hk⟩ := List.getElem?_eq_some_iff.1 hk
      simp only [List.getElem_range] at hk; subst hk
      simp only [List.length_range] at hlt
      simp [hlt]) ps zs cs hf
    have h3 : Instr.fill (fun i => some (i * size, size)) zs.toArray ps = some cs.toArray := by
      have key : ∀ (l : List (Nat × Value)) (cc : Array Value) (r : Array Value), Instr.fill (fun i => if i < n then some (i * size, size) else none) cc l = some r → Instr.fill (fun i => some (i * size, size)) cc l = some r := by
        intro l
        induction l with
        | nil => intro cc r h; exact h
        | cons x l ih =>
          obtain ⟨i, v⟩ := x
          intro cc r h
          simp only [Instr.fill] at h ⊢
          by_cases hi : i < n
          · rw [if_pos hi] at h
            simp only at h
            split at h
            · cases h
            · rename_i hc
              rw [if_neg hc]
              exact ih _ _ h
          · rw [if_neg hi] at h; cases h
      exact key ps zs.toArray cs.toArray h2
    rw [h1, h3]
    simp [newRow])
theorem tr_rowOne {D : List Nat} {X : Act → World → Prop} {E : TypeId} {sz n : Nat} {v : Value} {xs : List Value} (ht : Take hs (row E sz v n xs) hs') (k : v.oneCell' = true → Tr c D sl hs X) : Tr c D sl hs X := fun a w hst => by
  refine k ?_ a w hst
  obtain ⟨_, fp, _, ⟨f1, f2, _, h1, _⟩, _⟩ := hst.mem'.take ht
  obtain ⟨_, _, ⟨rfl, _⟩ | ⟨g, cap, cur, rfl, _⟩⟩ := h1
  · rfl
  · rfl
theorem tr_rowSl {D : List Nat} {X : Act → World → Prop} {E : TypeId} {sz n : Nat} {v : Value} {xs : List Value} (ht : Take hs (row E sz v n xs) hs') (k : ∀ a cap, v = .slice a n cap → Tr c D sl hs X) : Tr c D sl hs X := fun a w hst => by
  obtain ⟨_, fp, _, ⟨f1, f2, _, h1, _⟩, _⟩ := hst.mem'.take ht
  obtain ⟨_, _, ⟨rfl, rfl⟩ | ⟨g, cap, cur, rfl, _⟩⟩ := h1
  · exact k _ _ rfl a w hst
  · exact k _ _ rfl a w hst
end
end Go.SL
