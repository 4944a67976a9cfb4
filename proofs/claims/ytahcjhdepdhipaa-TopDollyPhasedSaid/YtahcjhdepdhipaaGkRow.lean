/- Slices: read (Rd), owned (row), appended to; loops. -/
import Derived.Test.YtahcjhdepdhipaaGkPlan
import Derived.Laws.AppendOwn
set_option linter.unusedSectionVars false
set_option linter.unusedVariables false
set_option linter.unusedSimpArgs false
namespace Go.SL
open Go

/-! ### slices that are read: rows of 'sz' cells -/
def Rd (w : World) (v : Value) (sz : Nat) (xs : List (List Value)) : Prop :=
  ∃ a cap b o, v = .slice a xs.length cap ∧ xs.length ≤ cap ∧ cap ≤ maxLen ∧ (xs ≠ [] → a = some ⟨b, o, none⟩) ∧ ∀ i r, xs[i]? = some r → r.length = sz ∧ ∀ j u, r[j]? = some u → w.cell? ⟨b, o + i * sz + j, none⟩ = some u

theorem Rd.keeps {w w' : World} {v : Value} {sz : Nat} {xs : List (List Value)} (h : Rd w v sz xs) (hk : Keeps [] w w') : Rd w' v sz xs := by
  obtain ⟨a, cap, b, o, h1, h2, h2', h3, h4⟩ := h
  refine ⟨a, cap, b, o, h1, h2, h2', h3, fun i r hr => ⟨(h4 i r hr).1, fun j u hu => ?_⟩⟩
  have := (h4 i r hr).2 j u hu
  have hb := World.block_lt_of_cell? w _ this
  rw [← this]
  simp only [World.cell?]
  rw [hk.block b hb (by simp)]

theorem Rd.nil (w : World) (sz : Nat) : Rd w (.slice none 0 0) sz [] := ⟨none, 0, 0, 0, rfl, Nat.le_refl _, by unfold maxLen; omega, fun h => absurd rfl h, fun i r h => by simp at h⟩

/-- an element, read in a state whose base is the world of the fact -/
theorem rd_ats {c : Cx} {hs : List Asn} {b o sz i : Nat} {xs : List (List Value)} {r : List Value} (h : ∀ i r, xs[i]? = some r → r.length = sz ∧ ∀ j u, r[j]? = some u → c.w0.cell? ⟨b, o + i * sz + j, none⟩ = some u) (hmd : c.md = []) (hr : xs[i]? = some r) : Ats c hs b (o + i * sz) r :=
  Ats.of_get fun j v hv => At.base ((h i r hr).2 j v hv) hmd
theorem rd_at1 {c : Cx} {hs : List Asn} {b o i : Nat} {xs : List (List Value)} {u : Value} (h : ∀ i r, xs[i]? = some r → r.length = 1 ∧ ∀ j u, r[j]? = some u → c.w0.cell? ⟨b, o + i * 1 + j, none⟩ = some u) (hmd : c.md = []) (hr : xs[i]? = some [u]) : At c hs b (o + i * 1) u :=
  At.base (by have := (h i _ hr).2 0 u rfl; simpa using this) hmd

theorem rd1 {w : World} {b o i : Nat} {xs : List (List Value)} {u : Value} (h : ∀ i r, xs[i]? = some r → r.length = 1 ∧ ∀ j u, r[j]? = some u → w.cell? ⟨b, o + i * 1 + j, none⟩ = some u) (hr : xs[i]? = some [u]) : w.cell? ⟨b, o + i * 1, none⟩ = some u := (h i _ hr).2 0 u rfl

/-- a literal block read as a slice -/
theorem Mem.rdBlk {c : Cx} {hs hs' : List Asn} {w : World} (hm : Mem c hs w) {b : Nat} {cs : List Value} {E : TypeId} {fz : Nat × Nat} (ht : Take hs (SL.blk b (.cells cs.toArray E fz)) hs') {n : Nat} (hn : cs.length = n) (hle : Nat.ble n 1000 = true) : Rd w (.slice (some ⟨b, 0, none⟩) n n) 1 (cs.map fun v => [v]) := by
  subst hn
  have hle' : cs.length ≤ 1000 := by simpa using hle
  refine ⟨_, cs.length, b, 0, by simp, by simp, by unfold maxLen; omega, fun _ => rfl, fun i r hr => ?_⟩
  rw [List.getElem?_map, Option.map_eq_some_iff] at hr
  obtain ⟨v, hv, rfl⟩ := hr
  refine ⟨rfl, fun j u hu => ?_⟩
  cases j with
  | zero =>
    simp only [List.getElem?_cons_zero, Option.some.injEq] at hu
    subst hu
    rw [cell_of_block (hm.blk ht)]
    simpa using hv
  | succ j => simp at hu

/-! ### owned rows -/
def row (E : TypeId) (sz : Nat) (v : Value) (n : Nat) (xs : List Value) : Asn where
  sat h fp := fp = v.ownBlock.toList ∧ xs.length = n * sz ∧ ((v = .slice none 0 0 ∧ n = 0) ∨
    ∃ g cap cur, v = .slice (some ⟨g, 0, none⟩) n cap ∧ h g = some (.cells cur E (0, 0)) ∧ n ≤ cap ∧ cap ≤ maxLen ∧ cur.size = cap * sz ∧ cur.toList.take (n * sz) = xs)
  loc := by
    rintro h h' fp ⟨e, hl, h1⟩ hb
    refine ⟨e, hl, h1.imp id ?_⟩
    rintro ⟨g, cap, cur, rfl, hg, r⟩
    exact ⟨g, cap, cur, rfl, by rw [hb g (by rw [e]; simp [Value.ownBlock])]; exact hg, r⟩
  own := by
    rintro h fp ⟨e, hl, h1⟩ b hb
    rcases h1 with ⟨rfl, _⟩ | ⟨g, cap, cur, rfl, hg, _⟩
    · rw [e] at hb; simp [Value.ownBlock] at hb
    · rw [e] at hb; simp [Value.ownBlock] at hb; subst hb; exact ⟨_, hg⟩

theorem row_owns {w : World} {E : TypeId} {sz : Nat} {v : Value} {n : Nat} {xs : List Value} {fp : List Nat} (h : (row E sz v n xs).sat (hp w) fp) : w.ownsRow 0 E sz v n xs := by
  obtain ⟨_, hl, h1⟩ := h
  exact ⟨hl, h1.imp id fun ⟨g, cap, cur, e, hg, r⟩ => ⟨g, cap, cur, e, Nat.zero_le _, hg, r⟩⟩
theorem row_of_owns {w : World} {E : TypeId} {sz : Nat} {v : Value} {n : Nat} {xs : List Value} (h : w.ownsRow 0 E sz v n xs) : (row E sz v n xs).sat (hp w) v.ownBlock.toList := by
  obtain ⟨hl, h1⟩ := h
  exact ⟨rfl, hl, h1.imp id fun ⟨g, cap, cur, e, _, hg, r⟩ => ⟨g, cap, cur, e, hg, r⟩⟩

/-- nothing yet -/
theorem Mem.rowNil {c : Cx} {hs : List Asn} {w : World} (hm : Mem c hs w) (E : TypeId) (sz : Nat) : Mem c (row E sz (.slice none 0 0) 0 [] :: hs) w :=
  Mem.change (As := []) (Bs := [row E sz (.slice none 0 0) 0 []]) hm fun fp _ hf => by
    rw [show fp = [] from hf]
    exact ⟨.refl _ _, [], List.nodup_nil, ⟨[], [], rfl, ⟨rfl, by simp, .inl ⟨rfl, rfl⟩⟩, rfl⟩, by simp⟩

theorem tr_rowNil {c : Cx} {D : List Nat} {sl : Slots} {hs : List Asn} {X : Act → World → Prop} (E : TypeId) (sz : Nat) (k : Tr c D sl (row E sz (.slice none 0 0) 0 [] :: hs) X) : Tr c D sl hs X := fun a w hst =>
  k a w (hst.heap (hst.mem.rowNil E sz))

theorem flatten_get {sz j : Nat} {r : List Value} {u : Value} : ∀ (xs : List (List Value)) (i : Nat), (∀ r ∈ xs, r.length = sz) → xs[i]? = some r → r[j]? = some u → xs.flatten[i * sz + j]? = some u
  | [], i, _, hr, _ => by simp at hr
  | x :: xs, 0, hx, hr, hu => by
    simp at hr; subst hr
    rw [List.flatten_cons, List.getElem?_append_left (by rw [Nat.zero_mul, Nat.zero_add]; exact (List.getElem?_eq_some_iff.1 hu).1), Nat.zero_mul, Nat.zero_add]
    exact hu
  | x :: xs, i + 1, hx, hr, hu => by
    have hxl := hx x (by simp)
    rw [List.flatten_cons, List.getElem?_append_right (by rw [hxl, Nat.succ_mul]; omega), hxl, Nat.succ_mul, show i * sz + sz + j - sz = i * sz + j from by omega]
    exact flatten_get xs i (fun r hr' => hx r (by simp [hr'])) (by simpa using hr) hu

/-- an owned row, read as a slice: rows of 'sz' cells -/
theorem row_rd {w : World} {E : TypeId} {sz : Nat} {v : Value} {n : Nat} {xs : List (List Value)} {fp : List Nat} (hx : ∀ r ∈ xs, r.length = sz) (hn : xs.length = n) (h : (row E sz v n xs.flatten).sat (hp w) fp) : Rd w v sz xs := by
  subst hn
  obtain ⟨_, hl, h1⟩ := h
  rcases h1 with ⟨rfl, hn⟩ | ⟨g, cap, cur, rfl, hg, hcap, hm, hsz, htake⟩
  · have : xs = [] := List.length_eq_zero_iff.1 hn
    subst this
    exact Rd.nil w sz
  · refine ⟨_, cap, g, 0, rfl, hcap, hm, fun _ => rfl, fun i r hr => ⟨hx r (List.mem_of_getElem? hr), fun j u hu => ?_⟩⟩
    have hgw : w.heap[g]? = some (.cells cur E (0, 0)) := hg
    rw [cell_of_block hgw]
    have hrl := hx r (List.mem_of_getElem? hr)
    have hi : i < xs.length := (List.getElem?_eq_some_iff.1 hr).1
    have hj : j < sz := by rw [← hrl]; exact (List.getElem?_eq_some_iff.1 hu).1
    have hflat : xs.flatten[i * sz + j]? = some u := flatten_get xs i hx hr hu
    have hlt : i * sz + j < xs.length * sz := by
      have : (i + 1) * sz ≤ xs.length * sz := Nat.mul_le_mul_right _ hi
      rw [Nat.succ_mul] at this
      omega
    rw [← htake, List.getElem?_take, if_pos hlt] at hflat
    simpa using hflat

theorem Mem.rdRow {c : Cx} {hs hs' : List Asn} {w : World} (hm : Mem c hs w) {E : TypeId} {sz : Nat} {v : Value} {n : Nat} {ys : List Value} {xs : List (List Value)} (ht : Take hs (row E sz v n ys) hs') (he : ys = xs.flatten) (hx : ∀ r ∈ xs, r.length = sz) (hn : xs.length = n) : Rd w v sz xs := by
  subst he
  obtain ⟨_, fp, _, ⟨f1, f2, _, h1, _⟩, _⟩ := hm.take ht
  exact row_rd hx hn h1

theorem flatten_singletons {α : Type} (l : List α) : (l.map fun v => [v]).flatten = l := by
  induction l with
  | nil => rfl
  | cons x l ih => simp [ih]

theorem Mem.rdRow1 {c : Cx} {hs hs' : List Asn} {w : World} (hm : Mem c hs w) {E : TypeId} {v : Value} {n : Nat} {ys : List Value} (ht : Take hs (row E 1 v n ys) hs') (hn : ys.length = n) : Rd w v 1 (ys.map fun u => [u]) :=
  hm.rdRow ht (flatten_singletons ys).symm (fun r hr => by obtain ⟨u, _, rfl⟩ := List.mem_map.1 hr; rfl) (by simpa using hn)

/-- the first cells of an owned row, opened -/
theorem tr_rowOpen {c : Cx} {D : List Nat} {sl : Slots} {hs hs' : List Asn} {X : Act → World → Prop} {E : TypeId} {sz : Nat} {v : Value} {n : Nat} {xs : List Value} (ht : Take hs (row E sz v n xs) hs') (hn : 0 < n)
    (k : ∀ g cap cur, v = .slice (some ⟨g, 0, none⟩) n cap → n ≤ cap → cap ≤ maxLen → (xs ++ cur).length = cap * sz → xs.length = n * sz → Tr c D sl (blk g (.cells (xs ++ cur).toArray E (0, 0)) :: hs') X) : Tr c D sl hs X := fun a w hst => by
  have hm := hst.mem.take (ht.append _)
  obtain ⟨kk, fp, hnd, ⟨f1, f2, rfl, ⟨e, hl, h1⟩, h2⟩, hb⟩ := hm
  rcases h1 with ⟨_, h0⟩ | ⟨g, cap, cur, rfl, hg, hcap, hmx, hsz, htake⟩
  · omega
  · have hcur : cur = (xs ++ cur.toList.drop (n * sz)).toArray := by
      rw [← htake, List.take_append_drop]
    have hlen : (xs ++ cur.toList.drop (n * sz)).length = cap * sz := by rw [← htake, List.take_append_drop]; simpa using hsz
    refine k g cap (cur.toList.drop (n * sz)) rfl hcap hmx hlen hl a w (hst.heap ⟨kk, f1 ++ f2, hnd, ⟨f1, f2, rfl, ⟨?_, ?_⟩, h2⟩, hb⟩)
    · rw [e]; rfl
    · rw [← hcur]; exact hg

/-- and shut again -/
theorem Mem.rowShut {c : Cx} {hs : List Asn} {w : World} {E : TypeId} {sz g n cap : Nat} {xs cur : List Value} (hm : Mem c (SL.blk g (.cells (xs ++ cur).toArray E (0, 0)) :: hs) w) (hcap : n ≤ cap) (hmx : cap ≤ maxLen) (hsz : (xs ++ cur).length = cap * sz) (hl : xs.length = n * sz) : Mem c (row E sz (.slice (some ⟨g, 0, none⟩) n cap) n xs :: hs) w := by
  obtain ⟨kk, fp, hnd, ⟨f1, f2, rfl, ⟨e, hg⟩, h2⟩, hb⟩ := hm
  refine ⟨kk, f1 ++ f2, hnd, ⟨f1, f2, rfl, ⟨by rw [e]; rfl, hl, .inr ⟨g, cap, _, rfl, hg, hcap, hmx, by simpa using hsz, ?_⟩⟩, h2⟩, hb⟩
  simp [← hl]
theorem tr_rowShut {c : Cx} {D : List Nat} {sl : Slots} {hs hs' : List Asn} {X : Act → World → Prop} {E : TypeId} {sz g n cap : Nat} {xs cur : List Value} (ht : Take hs (blk g (.cells (xs ++ cur).toArray E (0, 0))) hs') (hcap : n ≤ cap) (hmx : cap ≤ maxLen) (hsz : (xs ++ cur).length = cap * sz) (hl : xs.length = n * sz)
    (k : Tr c D sl (row E sz (.slice (some ⟨g, 0, none⟩) n cap) n xs :: hs') X) : Tr c D sl hs X := fun a w hst =>
  k a w (hst.heap (Mem.rowShut (hst.mem.take (ht.append _)) hcap hmx hsz hl))

/-! ### append -/
section
variable {P : Program} {r : Option Nat} {c : Cx} {D : List Nat} {sl : Slots} {hs hs' : List Asn} {ops : Array Oper} {Q : Exit → Act → World → Prop} {d : Nat} {ty : TypeId} {pos : String} {af : Array Edge} {rest : List Oper}

/-- where the row of an append lies -/
theorem append_loc {w w' : World} {t ty e : TypeId} {i : TypeInfo} {z : Value} (ht : P.underlying t = some (.slice e)) (hi : P.info? e = some i) (hz : i.zero = some z)
    {v v' : Value} {n : Nat} {xs : List Value} (hown : w.ownsRow 0 e i.size v n xs) {a : Addr} {m cp : Nat} {news : List Value} (hl : news.length = m * i.size) (hnews : ∀ j u, news[j]? = some u → w.cell? (a.add j) = some u) (h1 : ∀ u ∈ news, u.oneCell' = true)
    (h63 : n + m ≤ maxLen) (hbytes : (n + m) * i.bytes ≤ 140737488355328) (hrun : (Builtin.append_ #[t, t] ty #[v, .slice (some a) m cp]).run P w = .ok v' w') : v'.ownBlock = v.ownBlock ∨ v'.ownBlock = some w.heap.size := by
  have hsmall : n + m ≤ 9223372036854775807 := by simp only [maxLen] at h63; omega
  rcases hown.2 with ⟨rfl, rfl⟩ | ⟨g, cap, cur, rfl, hbg, hg, hnc, hcm, hcs, htake⟩
  · by_cases hm : m = 0
    · subst hm
      have hn : news = [] := List.eq_nil_of_length_eq_zero (by simpa using hl)
      subst hn
      have : (Builtin.append_ #[t, t] ty #[.slice none 0 0, .slice (some a) 0 cp]).run P w = .ok (.slice none 0 0) w := by
        simp [Builtin.append_, rk_underlying ht, sizeOf, typeInfo, hi, Builtin.lenOf, Builtin.firstCells, loadCells, loadCellsFrom]
      rw [hrun] at this
      cases this
      exact .inl rfl
    · have hr := run_append_nil (P := P) w t ty e i z ht hi hz a m cp news hl hnews (by omega) (by omega) (by have hb := hbytes; simp only [Nat.zero_add] at hb; omega)
      rw [hrun] at hr
      cases hr
      exact .inr rfl
  · by_cases hroom : n + m ≤ cap
    · have hfit : n * i.size + news.length ≤ cur.size := by rw [hl, hcs, ← Nat.add_mul]; exact Nat.mul_le_mul_right _ hroom
      have hr := run_append_room (P := P) w t ty e i ht hi g n cap cur hg a m cp news hl hnews h1 hroom hfit
      rw [hrun] at hr
      cases hr
      exact .inl rfl
    · have holds : ∀ j u, xs[j]? = some u → w.cell? ((⟨g, 0, none⟩ : Addr).add j) = some u := hown.cells (g := g) rfl
      have hr := run_append_grow (P := P) w t ty e i z ht hi hz ⟨g, 0, none⟩ n cap xs hown.1 holds a m cp news hl hnews (by omega) (by omega) (growslice_fits (by omega) hbytes)
      rw [hrun] at hr
      cases hr
      exact .inr rfl

theorem tr_append {t e : TypeId} {agg : Bool} {size bytes : Nat} {z : Value} {x y : Operand} {v : Value} {n b o m cp : Nat} {xs news : List Value} [hu : Und P t (.slice e)] [hT : Ty P e agg size] [hZ : Zer P e z] [hB : Byt P e bytes]
    (hx : Is sl x v) (hy : Is sl y (.slice (some ⟨b, o, none⟩) m cp)) (ht : Take hs (row e size v n xs) hs') (hn : Ats c hs b o news) (hl : news.length = m * size) (h1 : ∀ u ∈ news, u.oneCell' = true) (hz : z.cells.size = size) (hsz : Nat.blt 0 size = true) (hb0 : Nat.blt 0 bytes = true)
    (hb : (n + m) * bytes ≤ 140737488355328) (hd : Nat.blt d c.nt = true)
    (k : ∀ v', Tr c D ((d, v') :: sl) (row e size v' (n + m) (xs ++ news) :: hs') (WL P r ops Q rest)) :
    Tr c D sl hs (WL P r ops Q (⟨some d, .call ⟨.builtin .append, #[x, y], #[t, t]⟩, ty, pos, af, none⟩ :: rest)) := fun a w hst => by
  obtain ⟨de, i, hde, hi, _, hsize⟩ := Ty.parts (P := P) (t := e) (agg := agg) (n := size)
  have hzero : i.zero = some z := by have := hZ.eq; rw [hi] at this; simpa using this
  have hbytes : i.bytes = bytes := by have := hB.eq; rw [hi] at this; simpa using this
  have hm0 := hst.mem'
  have hm := hst.mem.take (ht.append _)
  obtain ⟨kk, fp, hnd, ⟨f1, f2, rfl, hrow, h2⟩, hfb⟩ := hm
  have hown := row_owns hrow
  have hbpos : 0 < bytes := by simpa using hb0
  have hmax : n + m ≤ maxLen := by
    have : (n + m) * 1 ≤ (n + m) * bytes := Nat.mul_le_mul_left _ hbpos
    unfold maxLen; omega
  obtain ⟨v', w', hrun, hown', hgr, _⟩ := run_append_own (P := P) w 0 t ty e i z size bytes hu.eq hi hzero hsize hbytes hz (by simpa using hsz) v n xs hown ⟨b, o, none⟩ m cp news hl
    (fun j u hj => by rw [addr_add]; exact hn.get j u hj w hm0) h1 hmax hb (Nat.zero_le _)
  have hloc := append_loc (P := P) (t := t) (ty := ty) hu.eq hi hzero (by rw [hsize]; exact hown) (a := ⟨b, o, none⟩) (m := m) (cp := cp) (by rw [hsize]; exact hl) (fun j u hj => by rw [addr_add]; exact hn.get j u hj w hm0) h1 hmax (by rw [hbytes]; exact hb) hrun
  refine wl_op rfl ⟨fr_about _ _ _ _ _, ?_⟩
  rw [Oper.semAt_eq _ _ _ (by simp)]
  have : (execOp a.eval ⟨some d, .call ⟨.builtin .append, #[x, y], #[t, t]⟩, ty, pos, af, none⟩).run P w = .ok (.value v') w' := by
    simp [execOp, resolve, invoke, builtin, hx a hst.slots, hy a hst.slots, hrun]
  rw [this]
  refine k v' _ _ ((hst.put (by simpa [Nat.blt_eq] using hd) v').heap ?_)
  have hm : Mem c ([row e size v n xs] ++ (hs' ++ mks D)) w := ⟨kk, f1 ++ f2, hnd, ⟨f1, f2, rfl, hrow, h2⟩, hfb⟩
  have := Mem.change (Bs := [row e size v' (n + m) (xs ++ news)]) (w' := w') hm fun fp hn' hf => by
    obtain ⟨g1, g2, e1, hr, e2⟩ := hf
    have hfp : fp = v.ownBlock.toList := by rw [e1, show g2 = [] from e2, hr.1]; simp
    refine ⟨⟨hgr.os, hgr.tape, hgr.output, hgr.size, fun q hq hnq => hgr.block q hq (fun he => hnq ?_)⟩, v'.ownBlock.toList, ?_, ⟨_, [], by simp, row_of_owns hown', rfl⟩, fun q hq => ?_⟩
    · rw [hfp, ← he]; simp
    · cases v'.ownBlock <;> simp
    · have hq' : v'.ownBlock = some q := by simpa [Option.mem_toList] using hq
      rcases hloc with h | h
      · left; rw [hfp, ← h, hq']; simp
      · right
        rw [h] at hq'
        cases hq'
        exact Nat.le_refl _
  simpa using this
end
end Go.SL
