/- Parts of the proof: TryzShelf S47 S48 S49. -/
import Derived.Shelf.Strings.OnBuilder
import Derived.Shelf.LaysM
import Derived.Shelf.Strconv.Itoa3
import Derived.Ground.NamesProg
import Derived.Test.YtfbgbipclgljaaaGreatDoorProg
import Derived.Test.YtfbgbipclgljaaaGreatDoorM18
import Derived.Lib.ItoaLen
import Derived.Lib.AppendIntMem
import Derived.Test.YtfbgbipclgljaaaGreatDoorM07
set_option linter.unusedSectionVars false
set_option linter.unusedVariables false
set_option linter.unusedSimpArgs false
/- TryzShelf -/
/-
  DERIVED: THE SHELF's CONTRACTS AT THIS DUMP, IN PLAIN WORDS (tools/lay-plain.mjs out of 'TryzShelf.lean', which tools/lay-shelf.mjs wrote): THE SAME DECLARATIONS UNDER THE SAME NAMES: 'import', 'namespace', 'open', 'def', 'theorem' AND NOTHING ELSE: no command of the shelf's: FOR A HAND-IN. Each laying: the table of numbers ('.._ren') and one theorem, a field a fact of the dump's own or the kernel's comparison; each contract: ONE APPLICATION.
-/
namespace Go.Proofs
open Go.Shelf
def Tryz.lays156_ren : Go.Shelf.Ren := ⟨fun | 156 => 155 | 165 => 191 | 166 => 192 | 169 => 193 | 240 => 213 | 241 => 214 | 276 => 228 | 277 => 229 | n => n, fun | 31 => 167 | 9 => 9 | 3 => 3 | 4 => 4 | 0 => 0 | 20 => 20 | 72 => 288 | 76 => 292 | 70 => 285 | 37 => 286 | 75 => 291 | 127 => 311 | 164 => 320 | 5 => 5 | 80 => 251 | n => n, fun | n => n⟩
theorem Tryz.lays156 : Go.Proofs.Lays.n156 Tryz.prog Tryz.lays156_ren := {
  mixed := by kernel_rfl
  f156 := Tryz.func155.trans (congrArg some (by kernel_rfl))
  f165 := Tryz.func191.trans (congrArg some (by kernel_rfl))
  f166 := Tryz.func192.trans (congrArg some (by kernel_rfl))
  f169 := Tryz.func193.trans (congrArg some (by kernel_rfl))
  f240 := Tryz.func213.trans (congrArg some (by kernel_rfl))
  f241 := Tryz.func214.trans (congrArg some (by kernel_rfl))
  f276 := Tryz.func228.trans (congrArg some (by kernel_rfl))
  f277 := Tryz.func229.trans (congrArg some (by kernel_rfl))
  t0 := Tryz.underlying0
  a0 := Tryz.isAgg0
  z0 := Tryz.sizeOf0
  v0 := Tryz.zeroValue0
  t3 := Tryz.underlying3
  a3 := Tryz.isAgg3
  z3 := Tryz.sizeOf3
  v3 := Tryz.zeroValue3
  t4 := Tryz.underlying4
  a4 := Tryz.isAgg4
  z4 := Tryz.sizeOf4
  v4 := Tryz.zeroValue4
  t9 := Tryz.underlying9
  a9 := Tryz.isAgg9
  z9 := Tryz.sizeOf9
  v9 := Tryz.zeroValue9
  t20 := Tryz.underlying20
  a20 := Tryz.isAgg20
  z20 := Tryz.sizeOf20
  v20 := Tryz.zeroValue20
  t31 := Tryz.underlying167
  a31 := Tryz.isAgg167
  z31 := Tryz.sizeOf167
  v31 := Tryz.zeroValue167
  t37 := Tryz.underlying286
  a37 := Tryz.isAgg286
  z37 := Tryz.sizeOf286
  v37 := Tryz.zeroValue286
  t70 := Tryz.underlying285
  a70 := Tryz.isAgg285
  z70 := Tryz.sizeOf285
  v70 := Tryz.zeroValue285
  t72 := Tryz.underlying288
  a72 := Tryz.isAgg288
  z72 := Tryz.sizeOf288
  v72 := Tryz.zeroValue288
  t75 := Tryz.underlying291
  a75 := Tryz.isAgg291
  z75 := Tryz.sizeOf291
  v75 := Tryz.zeroValue291
  t76 := Tryz.underlying292
  a76 := Tryz.isAgg292
  z76 := Tryz.sizeOf292
  v76 := Tryz.zeroValue292
  t127 := Tryz.underlying311
  a127 := Tryz.isAgg311
  z127 := Tryz.sizeOf311
  v127 := Tryz.zeroValue311
  t164 := Tryz.underlying320
  a164 := Tryz.isAgg320
  z164 := Tryz.sizeOf320
  v164 := Tryz.zeroValue320 }
theorem Tryz.Builder_Extra_156 : Builder.Extra Tryz.prog Tryz.lays156_ren := {
  sizeBuilder := by kernel_rfl
  liesBuilder := by kernel_rfl
  t5 := Tryz.underlying5
  a5 := Tryz.isAgg5
  z5 := Tryz.sizeOf5
  v5 := Tryz.zeroValue5
  infoByte := by kernel_rfl
  cellsByte := by kernel_rfl
  sizeByte := by kernel_rfl
  neB5 := by decide }
open Go.RowKit in
/-- No element: the empty string; the world is as it was. (Whatever the slice's address and capacity: a nil slice too.) (LAID: no walk: one application.) -/
theorem Tryz.strings_Join_none (a : Option Addr) (c : Nat) (sep : ByteArray) (w : World) :
    Calls Tryz.prog 155 #[.slice a 0 c, .string sep] w fun e w' => e = .returned (.string ⟨#[]⟩) ∧ w' = w := Any.strings_Join_none Tryz.lays156 Tryz.Builder_Extra_156 a c sep w
open Go.RowKit in
/-- strings.Join: "Join concatenates the elements of its first argument to create a single string. The separator string sep is placed between elements in the resulting string.": HOWEVER MANY ELEMENTS. Below the heap's end the world is as it was. (LAID: no walk: one application.) -/
theorem Tryz.strings_Join (bk o c : Nat) (xs : List ByteArray) (sep : ByteArray) (w : World) (hcells : ∀ (j : Nat) x, xs[j]? = some x → w.cell? ⟨bk, o + j, none⟩ = some (.string x)) (hbk : bk < w.heap.size) (hN : xs.length ≤ 140737488355328) (hcap : xs.length ≤ c) (hlen : (Lib.join (xs.map (·.data.toList)) sep.data.toList).length ≤ 140737488355328) :
    Calls Tryz.prog 155 #[.slice (some ⟨bk, o, none⟩) xs.length c, .string sep] w fun e w' => e = .returned (.string ⟨(Lib.join (xs.map (·.data.toList)) sep.data.toList).toArray⟩) ∧ Below w.heap.size w w' := Any.strings_Join Tryz.lays156 Tryz.Builder_Extra_156 bk o c xs sep w hcells hbk hN hcap hlen
def Tryz.laysM171_ren : Go.Shelf.Ren := ⟨fun | 171 => 195 | 243 => 215 | 246 => 230 | 283 => 247 | 284 => 248 | 285 => 249 | 286 => 250 | 129 => 245 | 317 => 260 | 318 => 261 | 319 => 262 | 320 => 263 | 337 => 269 | 338 => 270 | n => n, fun | 3 => 3 | 9 => 9 | 2 => 2 | 4 => 4 | 171 => 338 | 0 => 0 | 53 => 336 | 37 => 286 | 5 => 5 | 173 => 340 | 212 => 351 | 51 => 334 | 20 => 20 | 213 => 352 | 46 => 317 | 232 => 362 | 233 => 363 | n => n, fun | 17 => 2 | 18 => 5 | 19 => 6 | n => n⟩
theorem Tryz.laysM171 : Go.Proofs.LaysM.n171 Tryz.prog Tryz.laysM171_ren := {
  mixed := by kernel_rfl
  f129 := Tryz.func245.trans (congrArg some (by kernel_rfl))
  f171 := Tryz.func195.trans (congrArg some (by kernel_rfl))
  f243 := Tryz.func215.trans (congrArg some (by kernel_rfl))
  f246 := Tryz.func230.trans (congrArg some (by kernel_rfl))
  f283 := Tryz.func247.trans (congrArg some (by kernel_rfl))
  f284 := Tryz.func248.trans (congrArg some (by kernel_rfl))
  f285 := Tryz.func249.trans (congrArg some (by kernel_rfl))
  f286 := Tryz.func250.trans (congrArg some (by kernel_rfl))
  f317 := Tryz.func260.trans (congrArg some (by kernel_rfl))
  f318 := Tryz.func261.trans (congrArg some (by kernel_rfl))
  f319 := Tryz.func262.trans (congrArg some (by kernel_rfl))
  f320 := Tryz.func263.trans (congrArg some (by kernel_rfl))
  f337 := Tryz.func269.trans (congrArg some (by kernel_rfl))
  f338 := Tryz.func270.trans (congrArg some (by kernel_rfl))
  t0 := Tryz.underlying0
  a0 := Tryz.isAgg0
  z0 := Tryz.sizeOf0
  v0 := Tryz.zeroValue0
  t2 := Tryz.underlying2
  a2 := Tryz.isAgg2
  z2 := Tryz.sizeOf2
  v2 := Tryz.zeroValue2
  t3 := Tryz.underlying3
  a3 := Tryz.isAgg3
  z3 := Tryz.sizeOf3
  v3 := Tryz.zeroValue3
  t4 := Tryz.underlying4
  a4 := Tryz.isAgg4
  z4 := Tryz.sizeOf4
  v4 := Tryz.zeroValue4
  t5 := Tryz.underlying5
  a5 := Tryz.isAgg5
  z5 := Tryz.sizeOf5
  v5 := Tryz.zeroValue5
  t9 := Tryz.underlying9
  a9 := Tryz.isAgg9
  z9 := Tryz.sizeOf9
  v9 := Tryz.zeroValue9
  t20 := Tryz.underlying20
  a20 := Tryz.isAgg20
  z20 := Tryz.sizeOf20
  v20 := Tryz.zeroValue20
  t37 := Tryz.underlying286
  a37 := Tryz.isAgg286
  z37 := Tryz.sizeOf286
  v37 := Tryz.zeroValue286
  t46 := Tryz.underlying317
  a46 := Tryz.isAgg317
  z46 := Tryz.sizeOf317
  v46 := Tryz.zeroValue317
  t51 := Tryz.underlying334
  a51 := Tryz.isAgg334
  z51 := Tryz.sizeOf334
  v51 := Tryz.zeroValue334
  t53 := Tryz.underlying336
  a53 := Tryz.isAgg336
  z53 := Tryz.sizeOf336
  v53 := Tryz.zeroValue336
  t171 := Tryz.underlying338
  a171 := Tryz.isAgg338
  z171 := Tryz.sizeOf338
  v171 := Tryz.zeroValue338
  t173 := Tryz.underlying340
  a173 := Tryz.isAgg340
  z173 := Tryz.sizeOf340
  v173 := Tryz.zeroValue340
  t212 := Tryz.underlying351
  a212 := Tryz.isAgg351
  z212 := Tryz.sizeOf351
  v212 := Tryz.zeroValue351
  t213 := Tryz.underlying352
  a213 := Tryz.isAgg352
  z213 := Tryz.sizeOf352
  t232 := Tryz.underlying362
  a232 := Tryz.isAgg362
  z232 := Tryz.sizeOf362
  v232 := Tryz.zeroValue362
  t233 := Tryz.underlying363
  a233 := Tryz.isAgg363
  z233 := Tryz.sizeOf363
  v233 := Tryz.zeroValue363
  g17 := by kernel_rfl
  g18 := by kernel_rfl
  g19 := by kernel_rfl
  i0 := by kernel_rfl
  i2 := by kernel_rfl
  i3 := by kernel_rfl
  i4 := by kernel_rfl
  i5 := by kernel_rfl
  i9 := by kernel_rfl
  i20 := by kernel_rfl
  i37 := by kernel_rfl
  i46 := by kernel_rfl
  i51 := by kernel_rfl
  i53 := by kernel_rfl
  i171 := by kernel_rfl
  i173 := by kernel_rfl
  i212 := by kernel_rfl
  i232 := by kernel_rfl
  i233 := by kernel_rfl
  m17 := by kernel_rfl
  m18 := by kernel_rfl
  m19 := by kernel_rfl }
open Go.RowKit Go.Sort Go.Lib in
/-- strconv.Itoa: "Itoa is equivalent to FormatInt(int64(i), 10).": i's DECIMAL NUMERAL ('Lib.itoa': a '-' where i is negative, then the digits), FOR EVERY int. The world behind the call: the world before it, new blocks behind the heap (the library's 'var a [24]byte'), draws. (LAID: no walk: one application.) -/
theorem Tryz.strconv_Itoa (n : Int) (h0 : -9223372036854775808 ≤ n) (h1 : n ≤ 9223372036854775807) (w : World) (htab : Lib.TabIs Tryz.prog w "internal/strconv.uint64pow10" .u64 Lib.pow10Tab) :
    Calls Tryz.prog 195 #[.int .i64 n] w fun e w' => e = .returned (.string ⟨(Lib.itoa n).toArray⟩) ∧ ∃ k os, w' = grow (w.drewN k) os := Any.strconv_Itoa Tryz.laysM171 n h0 h1 w htab
end Go.Proofs

/- S47 -/
namespace Go.Proofs.A1
open Go Go.SL

def itoaB (n : Int) : ByteArray := ⟨(Lib.itoa n).toArray⟩
def strB (l : List ByteArray) : List (List Value) := l.map fun s => [Value.string s]
theorem strB_length (l : List ByteArray) : (strB l).length = l.length := by simp [strB]
theorem strB_one (l : List ByteArray) : ∀ r ∈ strB l, ∀ u ∈ r, u.oneCell' = true := by
  intro r hr
  obtain ⟨x, _, rfl⟩ := List.mem_map.1 hr
  exact okc_cons rfl okc_nil
theorem strB_sz (l : List ByteArray) : ∀ r ∈ strB l, r.length = 1 := by
  intro r hr
  obtain ⟨x, _, rfl⟩ := List.mem_map.1 hr
  rfl
theorem strB_flat (l : List ByteArray) : l.map Value.string = (strB l).flatten := by
  induction l with
  | nil => rfl
  | cons x l ih => simp only [strB, List.map_cons, List.flatten_cons] at ih ⊢; rw [← ih]; rfl
theorem rdStrR {c : Cx} {hs hs' : List Asn} {w : World} {E : TypeId} {l : List ByteArray} {n : Nat} {v : Value} {xs : List Value} (hm : Mem c hs w) (ht : Take hs (row E 1 v n xs) hs') (hx : xs = l.map Value.string) (hn : l.length = n) : Rd w v 1 (strB l) :=
  hm.rdRow ht (hx.trans (strB_flat l)) (strB_sz l) (by rw [strB_length, hn])
/-- the library's table of powers of ten -/
def Tab10 (w : World) : Prop := Lib.TabIs Tryz.prog w "internal/strconv.uint64pow10" .u64 Lib.pow10Tab
theorem Tab10.keeps {w w' : World} (h : Tab10 w) (hk : Keeps [] w w') : Tab10 w' := Lib.tabBelow_of_tabIs h w' hk.below
theorem keeps_grow (w : World) (k : Nat) (os : Array Obj) : Keeps [] w (Sort.grow (w.drewN k) os) :=
  ⟨rfl, rfl, rfl, by rw [Sort.size_grow]; exact Nat.le_add_right _ _, fun b hb _ => Sort.heap_grow_old (w.drewN k) os hb⟩
theorem itoa_c (n : Int) (h0 : -9223372036854775808 ≤ n) (h1 : n ≤ 9223372036854775807) (w : World) (hT : Tab10 w) : GivesV Tryz.prog 195 [.int .i64 n] w (.string (itoaB n)) :=
  Calls.mono (Tryz.strconv_Itoa n h0 h1 w hT) fun e w' ⟨he, k, os, hw⟩ => ⟨he, by rw [hw]; exact keeps_grow w k os⟩
def joinB (l : List ByteArray) (sep : ByteArray) : ByteArray := ⟨(Lib.join (l.map (·.data.toList)) sep.data.toList).toArray⟩
theorem join_c {lv : Value} {l : List ByteArray} (sep : ByteArray) {w : World} (h : Rd w lv 1 (strB l)) (hl : l.length ≤ 1000) (hlen : (Lib.join (l.map (·.data.toList)) sep.data.toList).length ≤ 140737488355328) :
    GivesV Tryz.prog 155 [lv, .string sep] w (.string (joinB l sep)) := by
  obtain ⟨a, cap, b, o, rfl, hcap, hmax, ha, hc⟩ := h
  rw [strB_length] at *
  cases l with
  | nil => exact Calls.mono (Tryz.strings_Join_none a cap sep w) fun e w' ⟨he, hw⟩ => ⟨he, by rw [hw]; exact .refl _ _⟩
  | cons x r =>
    have := ha (by simp [strB])
    subst this
    have hcell : ∀ (j : Nat) y, (x :: r)[j]? = some y → w.cell? ⟨b, o + j, none⟩ = some (.string y) := fun j y hj => by
      have := (hc j [.string y] (by unfold strB; rw [List.getElem?_map, hj]; rfl)).2 0 _ rfl
      simpa using this
    refine Calls.mono (Tryz.strings_Join b o cap (x :: r) sep w hcell ?_ (by omega) hcap hlen) fun e w' ⟨he, hw⟩ => ⟨he, Keeps.of_below hw⟩
    exact World.block_lt_of_cell? w _ (hcell 0 x rfl)
theorem mapIt_c {lv : Value} {l : List Int} {w : World} (h : Rd w lv 1 (ints l)) (hi : ∀ x ∈ l, -9223372036854775808 ≤ x ∧ x ≤ 9223372036854775807) (hn : l.length ≤ 1000) (hT : Tab10 w) :
    Gives Tryz.prog 194 [lv, .func (.func 195) #[] #[]] w [] (fun _ : Value => True) id (fun v => [row 9 1 v l.length ((l.map itoaB).map Value.string)]) := by
  obtain ⟨a, cp, b, o, rfl, hcap, hmax, ha, hc⟩ := h
  rw [ints_length] at *
  unfold maxLen at hmax
  refine gives_of_tr Tryz.func194 rfl rfl ?_
  (refine s_r ?_; refine a_s rfl rfl ?_; refine n_r ?_; refine a_s rfl rfl ?_; refine n_t ?_; refine tr_seq ?_; refine s_r ?_; refine m_v rfl rfl ?_; refine tr_val (rk_len_slice (.of rfl)) rfl ?_; refine m_v rfl rfl ?_; refine n_t ?_; refine tr_block ?_)
  refine tr_rowNil 9 1 ?_
  refine tr_for (ι := Nat × Value) (fun x => x.1 ≤ l.length) (fun x => [(10, .int .i64 x.1), (9, .int .i64 l.length), (8, .slice a l.length cp), (5, x.2), (1, .func (.func 195) #[] #[])]) (fun x => [row 9 1 x.2 x.1 (((l.take x.1).map itoaB).map Value.string)]) (fun x => l.length - x.1) ?_ ?_
  · apply tr_start (0, .slice none 0 0) (Nat.zero_le _)
    case hs1 => exact .cons rfl (.cons rfl (.cons rfl (.cons rfl (.cons rfl .nil))))
    case ht =>
      show Takes _ [row 9 1 (.slice none 0 0) 0 []] _
      exact .cons .here .nil
  rintro ⟨k, v⟩ hk
  dsimp only at hk ⊢
  by_cases hlt : k < l.length
  · have ha' := ha (ints_ne hlt)
    have c0 : w.cell? ⟨b, o + k * 1, none⟩ = some (.int .i64 l[k]) := (hc k _ (ints_get hlt)).2 0 _ rfl
    have hi0 := (hi _ (List.getElem_mem hlt)).1
    have hi1 := (hi _ (List.getElem_mem hlt)).2
    have hs : ((l.take (k + 1)).map itoaB).map Value.string = ((l.take k).map itoaB).map Value.string ++ [.string (itoaB l[k])] := by
      rw [List.take_add_one, List.getElem?_eq_getElem hlt, List.map_append, List.map_append]; rfl
    (refine s_r ?_; refine tr_val (rk_lss (.of rfl) (.of rfl)) rfl ?_; refine n_t ?_; refine tr_seq ?_; refine c_d rfl (fun hcd => ?_) (fun _ => by omega); refine s_t ?_; refine tr_seq ?_; refine tr_block ?_; refine s_r ?_; refine tr_val (rk_indexAddr (.of rfl) (.of rfl) ha' (by omega) hcd norm1_) rfl ?_; refine tr_val (rk_load1 (.of rfl) (At.base c0 rfl)) rfl ?_; refine a_s rfl rfl ?_; refine n_t ?_; refine tr_region ?_; refine m_v rfl rfl ?_; refine m_v rfl rfl ?_; refine m_v rfl rfl ?_)
    refine tr_callV (rk_call (.of rfl) (.cons (.of rfl) .nil) inferInstance normc_) rfl (fun w' hm' => (itoa_c _ hi0 hi1 w' (Tab10.keeps hT (Mem.keeps hm')))) ?_
    refine tr_new (rk_sliceLit (.cons (.of rfl) .nil) rfl rfl rfl rfl) rfl (fun _ _ => ?_)
    refine tr_appendB (.of rfl) (.of rfl) (.there .here) .here norm_ (by rfl) (okc_cons rfl okc_nil) (by rfl) (by rfl) (by rfl) lenx_ (by rfl) ?_
    intro v'
    (refine a_s rfl rfl ?_; refine tr_nil ?_; refine tr_blk_normal ?_; refine tr_then ?_; refine tr_region ?_; refine tr_val (rk_add (.of rfl) (.of rfl) (ini (by omega))) rfl ?_; refine m_v rfl rfl ?_; refine n_t ?_)
    apply tr_next (k + 1, v') (show k + 1 ≤ l.length by omega) (show l.length - (k + 1) < l.length - k by omega)
    case hs1 => exact .cons rfl (.cons rfl (.cons rfl (.cons rfl (.cons rfl .nil))))
    case ht =>
      show Takes _ [row 9 1 v' (k + 1) (((l.take (k + 1)).map itoaB).map Value.string)] _
      rw [hs]
      exact .cons .here .nil
  · obtain rfl : k = l.length := by omega
    rw [List.take_length]
    (refine s_r ?_; refine tr_val (rk_lss (.of rfl) (.of rfl)) rfl ?_; refine n_t ?_; refine tr_seq ?_; refine c_d rfl (fun _ => by omega) (fun hcd => ?_); refine x_t ?_; refine tr_then_exit ?_; refine tr_blk_exit ?_; refine tr_then ?_; refine s_r ?_; refine m_v rfl rfl ?_; refine a_s rfl rfl ?_; refine n_t ?_; refine tr_ret ?_)
    first | with_reducible apply tr_retM | with_reducible apply tr_endM
    case he => exact ends1 rfl rfl
    case hR =>
      intro w' hm'
      exact gives_end v trivial (by exact .cons .here .nil) hm' rfl
/-- the words of an entry's line -/
def lineW (e : En) : List ByteArray := [⟨#[101, 110, 116, 114, 121]⟩, e.nm, e.mt, e.kd, itoaB e.tm, itoaB e.ln, itoaB e.ov]
def lineF (e : En) : ByteArray := joinB (lineW e) ⟨#[32]⟩ ++ ⟨#[10]⟩
structure LineOk (e : En) : Prop where
  nm : e.nm.size ≤ 1000
  mt : e.mt.size ≤ 1000
  kd : e.kd.size ≤ 1000
  tm : -9223372036854775808 ≤ e.tm ∧ e.tm ≤ 9223372036854775807
  ln : -9223372036854775808 ≤ e.ln ∧ e.ln ≤ 9223372036854775807
  ov : -9223372036854775808 ≤ e.ov ∧ e.ov ≤ 9223372036854775807
theorem LineOk.of {e : En} (h : EnOk e) : LineOk e := by
  have h1 := h.nm
  have h2 := h.mt
  unfold nameF at h1 h2
  simp only [Bool.and_eq_true, decide_eq_true_eq] at h1 h2
  have h3 := h.tm; have h4 := h.ln; have h5 := h.ov
  refine ⟨by omega, by omega, ?_, by omega, by omega, by omega⟩
  rcases h.kd with e | e | e <;> rw [e] <;> decide
theorem join_len (l : List (List UInt8)) (sep : List UInt8) (n : Nat) (h : ∀ x ∈ l, x.length ≤ n) : (Lib.join l sep).length ≤ l.length * (n + sep.length) := by
  cases l with
  | nil => simp [Lib.join]
  | cons x r =>
    have key : ∀ (r : List (List UInt8)), (∀ y ∈ r, y.length ≤ n) → (Lib.joinTail sep r).length ≤ r.length * (n + sep.length) := by
      intro r
      induction r with
      | nil => intro _; simp [Lib.joinTail]
      | cons y r ih =>
        intro hy
        have h1 := hy y (by simp)
        have h2 := ih fun z hz => hy z (by simp [hz])
        simp only [Lib.joinTail, List.map_cons, List.flatten_cons, List.length_append, List.length_cons, Nat.succ_mul] at h2 ⊢
        omega
    rw [Lib.join_cons, List.length_append, List.length_cons, Nat.succ_mul]
    have h1 := h x (by simp)
    have h2 := key r fun z hz => h z (by simp [hz])
    omega
theorem lineW_len {e : En} (h : LineOk e) : (Lib.join ((lineW e).map (·.data.toList)) [32]).length ≤ 7007 := by
  have := join_len ((lineW e).map (·.data.toList)) [32] 1000 (by
    intro x hx
    have e1 := h.nm; have e2 := h.mt; have e3 := h.kd
    have i1 := Lib.itoa_length_le e.tm h.tm.1 h.tm.2
    have i2 := Lib.itoa_length_le e.ln h.ln.1 h.ln.2
    have i3 := Lib.itoa_length_le e.ov h.ov.1 h.ov.2
    have hsz : ∀ s : ByteArray, s.data.toList.length = s.size := fun s => Array.length_toList
    simp only [lineW, List.map_cons, List.map_nil, List.mem_cons, List.not_mem_nil, or_false] at hx
    rcases hx with rfl | rfl | rfl | rfl | rfl | rfl | rfl
    · decide
    · rw [hsz]; exact e1
    · rw [hsz]; exact e2
    · rw [hsz]; exact e3
    · show (Lib.itoa e.tm).length ≤ 1000; omega
    · show (Lib.itoa e.ln).length ≤ 1000; omega
    · show (Lib.itoa e.ov).length ≤ 1000; omega)
  simpa [lineW] using this
set_option maxHeartbeats 1000000 in
theorem line_c (e : En) (h : LineOk e) (w : World) (hT : Tab10 w) : GivesV Tryz.prog 157 [.agg e.cells.toArray] w (.string (lineF e)) := by
  have hlen := lineW_len h
  unfold En.cells
  refine givesV_of_tr Tryz.func157 rfl rfl ?_
  (refine s_r ?_; refine tr_new (rk_box (.of rfl) rfl) rfl (fun _ _ => ?_); refine a_s rfl rfl ?_; refine n_t ?_; refine tr_seq ?_)
  with_reducible refine tr_draw 17 (by kernel_rfl) ?_
  (refine a_f rfl rfl norm0_ ?_; refine any_val (rk_load1 (.of rfl) (At.lit .here rfl)) rfl ?_; refine a_f rfl rfl norm0_ ?_; refine any_val (rk_load1 (.of rfl) (At.lit .here rfl)) rfl ?_; refine a_f rfl rfl norm0_ ?_; refine a_f rfl rfl norm0_ ?_; refine any_val (rk_load1 (.of rfl) (At.lit .here rfl)) rfl ?_)
  with_reducible apply any_new
  case hr => exact rk_sliceLit (.cons (.of rfl) (.cons (.of rfl) (.cons (.of rfl) (.cons (.of rfl) .nil)))) rfl rfl rfl rfl
  case hd => rfl
  case hn => rfl
  (refine a_f rfl rfl norm0_ ?_; refine a_f rfl rfl norm0_ ?_; refine any_val (rk_load1 (.of rfl) (At.lit .here rfl)) rfl ?_; refine a_f rfl rfl norm0_ ?_; refine any_val (rk_load1 (.of rfl) (At.lit .here rfl)) rfl ?_; refine a_f rfl rfl norm0_ ?_; refine any_val (rk_load1 (.of rfl) (At.lit .here rfl)) rfl ?_)
  with_reducible apply any_new
  case hr => exact rk_sliceLit (.cons (.of rfl) (.cons (.of rfl) (.cons (.of rfl) .nil))) rfl rfl rfl rfl
  case hd => rfl
  case hn => rfl
  refine any_callNR (t := 19) (R := relRd 1 (strB [itoaB e.tm, itoaB e.ln, itoaB e.ov])) (f := 194) (args := fun b => [.slice (some ⟨b, 0, none⟩) 3 3, .func (.func 195) #[] #[]]) (by exact List.mem_cons_self) (by decide) (fun b => ?_) rfl rfl (fun b w' hm' hb => ?_) ?_
  · exact rk_call (Is.of rfl) (Iss.cons (Is.of rfl) (Iss.cons (Is.of rfl) Iss.nil)) inferInstance rfl
  · have hrd : Rd w' (.slice (some ⟨b, 0, none⟩) 3 3) 1 (ints [e.tm, e.ln, e.ov]) := by
      refine ⟨_, 3, b, 0, rfl, by simp [ints], by unfold maxLen; omega, fun _ => rfl, fun i r hr => ?_⟩
      match i, hr with
      | 0, hr =>
        cases hr
        exact ⟨rfl, fun j u hu => by match j, hu with | 0, hu => (cases hu; rw [cell_of_block hb]; rfl)⟩
      | 1, hr =>
        cases hr
        exact ⟨rfl, fun j u hu => by match j, hu with | 0, hu => (cases hu; rw [cell_of_block hb]; rfl)⟩
      | 2, hr =>
        cases hr
        exact ⟨rfl, fun j u hu => by match j, hu with | 0, hu => (cases hu; rw [cell_of_block hb]; rfl)⟩
    refine rd_of_gives (E := 9) (n := 3) (mapIt_c hrd (by
      intro x hx
      simp only [List.mem_cons, List.not_mem_nil, or_false] at hx
      rcases hx with rfl | rfl | rfl
      · exact h.tm
      · exact h.ln
      · exact h.ov) (by simp) (hT.keeps hm'.keeps)) (fun x => ?_) (strB_sz _) rfl
    rfl
  refine any_appendRR (size := 1) (x := 11) (y := 20) (n := 4) (olds := [.string ⟨#[101, 110, 116, 114, 121]⟩, .string e.nm, .string e.mt, .string e.kd]) (rows := strB [itoaB e.tm, itoaB e.ln, itoaB e.ov]) (E := 9) (by exact List.mem_cons_of_mem _ (List.mem_cons_of_mem _ List.mem_cons_self)) (by exact List.mem_cons_self) (by simp [strB]) rfl (strB_one _) rfl rfl (by simp [strB]) rfl fun v' => ?_
  (refine a_s rfl rfl ?_; refine n_r ?_; refine m_v rfl rfl ?_)
  with_reducible apply tr_callV
  case hr => exact rk_call (.of rfl) (.cons (.of rfl) (.cons (.of rfl) .nil)) inferInstance normc_
  case hd => rfl
  case hc =>
    intro w' hm'
    exact join_c (l := lineW e) ⟨#[32]⟩ (rdStrR (n := 4 + (strB [itoaB e.tm, itoaB e.ln, itoaB e.ov]).length) hm' (by exact .here) (by exact rfl) rfl) (by simp [lineW]) (Nat.le_trans hlen (by decide))
  have hj : (joinB (lineW e) ⟨#[32]⟩).size + (ByteArray.size ⟨#[10]⟩) ≤ 9223372036854775807 := by
    have : (joinB (lineW e) ⟨#[32]⟩).size = (Lib.join ((lineW e).map (·.data.toList)) [32]).length := by
      unfold joinB; exact List.size_toArray
    have h2 : ByteArray.size ⟨#[10]⟩ = 1 := rfl
    omega
  (refine tr_val (rk_cat (.of rfl) (.of rfl) hj) rfl ?_; refine a_s rfl rfl ?_; refine n_t ?_; refine tr_ret ?_; refine tr_retE rfl (ends1 rfl rfl) ?_)
  rfl
end Go.Proofs.A1

/- S48 -/
namespace Go.Proofs.A1
open Go Go.SL

theorem mapLn_c {lv : Value} {es : List En} {w : World} (h : Rd w lv 6 (ensL es)) (hi : ∀ k, k < es.length → LineOk (nth es k)) (hn : es.length ≤ 1000) (hT : Tab10 w) :
    Gives Tryz.prog 156 [lv, .func (.func 157) #[] #[]] w [] (fun _ : Value => True) id (fun v => [row 9 1 v es.length ((es.map lineF).map Value.string)]) := by
  obtain ⟨a, cp, b, o, rfl, hcap, hmax, ha, hc⟩ := h
  rw [ensL_length] at *
  unfold maxLen at hmax
  refine gives_of_tr Tryz.func156 rfl rfl ?_
  (refine s_r ?_; refine a_s rfl rfl ?_; refine n_r ?_; refine a_s rfl rfl ?_; refine n_t ?_; refine tr_seq ?_; refine s_r ?_; refine m_v rfl rfl ?_; refine tr_val (rk_len_slice (.of rfl)) rfl ?_; refine m_v rfl rfl ?_; refine n_t ?_; refine tr_block ?_)
  refine tr_rowNil 9 1 ?_
  refine tr_for (ι := Nat × Value) (fun x => x.1 ≤ es.length) (fun x => [(10, .int .i64 x.1), (9, .int .i64 es.length), (8, .slice a es.length cp), (5, x.2), (1, .func (.func 157) #[] #[])]) (fun x => [row 9 1 x.2 x.1 (((es.take x.1).map lineF).map Value.string)]) (fun x => es.length - x.1) ?_ ?_
  · apply tr_start (0, .slice none 0 0) (Nat.zero_le _)
    case hs1 => exact .cons rfl (.cons rfl (.cons rfl (.cons rfl (.cons rfl .nil))))
    case ht =>
      show Takes _ [row 9 1 (.slice none 0 0) 0 []] _
      exact .cons .here .nil
  rintro ⟨k, v⟩ hk
  dsimp only at hk ⊢
  by_cases hlt : k < es.length
  · have ha' := ha (ensL_ne hlt)
    have hcell := (hc k _ (ensL_get hlt)).2
    have hcl : ∀ w', Keeps [] w w' → GivesV Tryz.prog 157 [.agg (nth es k).cells.toArray] w' (.string (lineF (nth es k))) := fun w' hk' => line_c _ (hi k hlt) w' (hT.keeps hk')
    have hs : ((es.take (k + 1)).map lineF).map Value.string = ((es.take k).map lineF).map Value.string ++ [.string (lineF (nth es k))] := by
      rw [List.take_add_one, List.getElem?_eq_getElem hlt, List.map_append, List.map_append, nth_eq hlt]; rfl
    unfold En.cells at hcell hcl
    (refine s_r ?_; refine tr_val (rk_lss (.of rfl) (.of rfl)) rfl ?_; refine n_t ?_; refine tr_seq ?_; refine c_d rfl (fun hcd => ?_) (fun _ => by omega); refine s_t ?_; refine tr_seq ?_; refine tr_block ?_; refine s_r ?_; refine tr_val (rk_indexAddr (.of rfl) (.of rfl) ha' (by omega) hcd norm1_) rfl ?_; refine tr_val (rk_loadN (.of rfl) (Ats.base hcell rfl) rfl) rfl ?_; refine tr_new (rk_alloc rfl) rfl (fun _ _ => ?_); refine tr_store (.of rfl) (.of rfl) .here rfl rfl (okc_cons rfl (okc_cons rfl (okc_cons rfl (okc_cons rfl (okc_cons rfl (okc_cons rfl okc_nil)))))) (lenb rfl) norm_ ?_; refine n_t ?_; refine tr_region ?_; refine m_v rfl rfl ?_; refine m_v rfl rfl ?_; refine tr_val (rk_loadB (.of rfl) .here norm_ (by rfl)) rfl ?_; refine tr_callV (rk_call (.of rfl) (.cons (.of rfl) .nil) inferInstance normc_) rfl (fun w' hm' => (hcl w' (Mem.keeps hm'))) ?_; refine tr_new (rk_sliceLit (.cons (.of rfl) .nil) rfl rfl rfl rfl) rfl (fun _ _ => ?_))
    refine tr_appendB (.of rfl) (.of rfl) (.there (.there .here)) .here norm_ (by rfl) (okc_cons rfl okc_nil) (by rfl) (by rfl) (by rfl) lenx_ (by rfl) ?_
    intro v'
    (refine a_s rfl rfl ?_; refine tr_nil ?_; refine tr_blk_normal ?_; refine tr_then ?_; refine tr_region ?_; refine tr_val (rk_add (.of rfl) (.of rfl) (ini (by omega))) rfl ?_; refine m_v rfl rfl ?_; refine n_t ?_)
    apply tr_next (k + 1, v') (show k + 1 ≤ es.length by omega) (show es.length - (k + 1) < es.length - k by omega)
    case hs1 => exact .cons rfl (.cons rfl (.cons rfl (.cons rfl (.cons rfl .nil))))
    case ht =>
      show Takes _ [row 9 1 v' (k + 1) (((es.take (k + 1)).map lineF).map Value.string)] _
      rw [hs]
      exact .cons .here .nil
  · obtain rfl : k = es.length := by omega
    rw [List.take_length]
    (refine s_r ?_; refine tr_val (rk_lss (.of rfl) (.of rfl)) rfl ?_; refine n_t ?_; refine tr_seq ?_; refine c_d rfl (fun _ => by omega) (fun hcd => ?_); refine x_t ?_; refine tr_then_exit ?_; refine tr_blk_exit ?_; refine tr_then ?_; refine s_r ?_; refine m_v rfl rfl ?_; refine a_s rfl rfl ?_; refine n_t ?_; refine tr_ret ?_)
    first | with_reducible apply tr_retM | with_reducible apply tr_endM
    case he => exact ends1 rfl rfl
    case hR =>
      intro w' hm'
      exact gives_end v trivial (by exact .cons .here .nil) hm' rfl
def prF (es : List En) : ByteArray := if chkF es = 0 then joinB (es.map lineF) ⟨#[]⟩ else ⟨#[]⟩
theorem lineF_len {e : En} (h : LineOk e) : (lineF e).data.toList.length ≤ 7008 := by
  have := lineW_len h
  unfold lineF joinB
  show (Array.toList _).length ≤ 7008
  simp only [ByteArray.data_append, Array.toList_append, List.length_append]
  have e2 : ([10] : List UInt8).length = 1 := rfl
  show (Lib.join ((lineW e).map (·.data.toList)) [32]).length + ([10] : List UInt8).length ≤ 7008
  omega
theorem print_c {sv : Value} {es : List En} {w : World} (h1 : Rd w sv 6 (ensL es)) (hG : Glob w) (hT : Tab10 w) :
    GivesV Tryz.prog 81 [.agg #[sv]] w (.tuple #[.string (prF es), .int .i64 (chkF es)]) := by
  have h1' := h1
  obtain ⟨a, cap, b, o, rfl, hcap, hmax, ha, hc⟩ := h1'
  rw [ensL_length] at *
  unfold maxLen at hmax
  refine givesV_of_tr Tryz.func81 rfl rfl ?_
  (refine s_r ?_; refine tr_new (rk_box (.of rfl) rfl) rfl (fun _ _ => ?_); refine a_s rfl rfl ?_; refine a_s rfl rfl ?_; refine n_t ?_; refine tr_seq ?_; refine s_r ?_; refine tr_val (rk_loadB (.of rfl) .here norm_ (by rfl)) rfl ?_; refine tr_callV (rk_call (.of rfl) (.cons (.of rfl) .nil) inferInstance normc_) rfl (fun w' hm' => (chk_c (Rd.keeps h1 (Mem.keeps hm')) (Glob.keeps hG (Mem.keeps hm')))) ?_; refine a_s rfl rfl ?_; refine n_r ?_; refine m_v rfl rfl ?_; refine tr_val (rk_neq (.of rfl) (.of rfl)) rfl ?_; refine n_t ?_; refine c_d rfl (fun hcd => ?_) (fun hcd => ?_); refine s_r ?_; refine m_v rfl rfl ?_; refine a_s rfl rfl ?_; refine a_s rfl rfl ?_; refine n_t ?_; refine r_t ?_; refine tr_retE rfl (ends2 rfl rfl rfl) ?_; rotate_left; refine s_t ?_; refine s_r ?_; refine f_a rfl rfl norm0_ ?_; refine tr_val (rk_load1 (.of rfl) (At.lit .here rfl)) rfl ?_; rotate_right)
  · rw [prF, if_neg hcd]
  have hz : chkF es = 0 := Decidable.not_not.1 hcd
  have hs := Sound.of hz
  have hfew := hs.all.few
  have hlo : ∀ k, k < es.length → LineOk (nth es k) := fun k hk => LineOk.of (hs.all.ok k hk)
  with_reducible apply tr_call
  case hr => exact rk_call (.of rfl) (.cons (.of rfl) (.cons (.of rfl) .nil)) inferInstance normc_
  case hd => rfl
  case ht => exact Takes.nil
  case hc =>
    intro w1 fp hm1 _ hs1
    obtain rfl : fp = [] := hs1
    exact mapLn_c (h1.keeps hm1.keeps) hlo (by omega) (hT.keeps hm1.keeps)
  intro v _
  dsimp only [id_eq, List.cons_append, List.nil_append]
  with_reducible apply tr_callV
  case hr => exact rk_call (.of rfl) (.cons (.of rfl) (.cons (.of rfl) .nil)) inferInstance normc_
  case hd => rfl
  case hc =>
    intro w' hm'
    refine join_c (l := es.map lineF) ⟨#[]⟩ (rdStrR (n := es.length) hm' (by exact .here) (by exact rfl) (by simp)) (by simp; omega) ?_
    have := join_len ((es.map lineF).map (·.data.toList)) [] 7008 (by
      intro x hx
      rw [List.map_map, List.mem_map] at hx
      obtain ⟨e, he, rfl⟩ := hx
      obtain ⟨k, hk, rfl⟩ := List.getElem_of_mem he
      rw [← nth_eq hk]
      exact lineF_len (hlo k hk))
    simp only [List.length_map, List.length_nil, Nat.add_zero] at this
    have h2 : es.length * 7008 ≤ 24 * 7008 := Nat.mul_le_mul_right _ hfew
    exact Nat.le_trans this (Nat.le_trans h2 (by decide))
  rw [prF, if_pos hz, hz]
  (refine a_s rfl rfl ?_; refine a_s rfl rfl ?_; refine n_t ?_; refine tr_ret ?_; refine tr_retE rfl (ends2 rfl rfl rfl) ?_)
  rfl
theorem it100 : Lib.itoa 100 = [49, 48, 48] := by simp [Lib.itoa, Lib.decDigits]
theorem it50 : Lib.itoa 50 = [53, 48] := by simp [Lib.itoa, Lib.decDigits]
theorem it5 : Lib.itoa 5 = [53] := by simp [Lib.itoa, Lib.decDigits]
def awZ : ByteArray := ⟨#[101, 110, 116, 114, 121, 32, 110, 101, 119, 115, 32, 110, 49, 32, 102, 105, 120, 101, 100, 32, 49, 48, 48, 32, 53, 48, 32, 53, 10]⟩
theorem ev_z : prF [sh0] = awZ := by
  rw [prF, if_pos ev_one]
  have h1 : itoaB sh0.tm = ⟨#[49, 48, 48]⟩ := by unfold itoaB; rw [show sh0.tm = 100 from rfl, it100]
  have h2 : itoaB sh0.ln = ⟨#[53, 48]⟩ := by unfold itoaB; rw [show sh0.ln = 50 from rfl, it50]
  have h3 : itoaB sh0.ov = ⟨#[53]⟩ := by unfold itoaB; rw [show sh0.ov = 5 from rfl, it5]
  have h4 : lineF sh0 = awZ := by
    unfold lineF lineW
    rw [h1, h2, h3]
    rfl
  rw [List.map_cons, List.map_nil, h4]
  rfl
end Go.Proofs.A1

/- S49 -/
namespace Go.Proofs.A1
open Go Go.SL

theorem tr_cut {c : Cx} {D : List Nat} {sl : Slots} {hs rest : List Asn} {X : Act → World → Prop} (sl2 : Slots) (hs2 : List Asn) (h1 : Subs sl sl2) (ht : Takes hs hs2 rest) (k : Tr c D sl2 hs2 X) : Tr c D sl hs X := fun a w hst => k a w (hst.weaken h1 ht)
theorem rk_pickB {P : Program} {c : Cx} {sl : Slots} {hs : List Asn} {dst : Option Tmp} {ty : TypeId} {pos : String} {af : Array Edge} {g : Option (Nat × Bool)} {x y z : Operand} {q : Bool} {v u V : Value} (hx : Is sl x (.bool q)) (hy : Is sl y v) (hz : Is sl z u) (e : (bif q then v else u) = V) : RunV P c sl hs ⟨dst, .pick x y z, ty, pos, af, g⟩ V := e ▸ rk_pick hx hy hz
theorem rdTriN {c : Cx} {hs hs' : List Asn} {w : World} {E : TypeId} {l : List (Int × Int × Int)} {n : Nat} {v : Value} (hm : Mem c hs w) (ht : Take hs (row E 3 v n (l.flatMap triV)) hs') (hn : l.length = n) : Rd w v 3 (l.map triV) := by
  subst hn; exact rdTri hm ht
theorem rdDuoN {c : Cx} {hs hs' : List Asn} {w : World} {E : TypeId} {l : List (Int × Int)} {n : Nat} {v : Value} (hm : Mem c hs w) (ht : Take hs (row E 2 v n (l.flatMap duoV)) hs') (hn : l.length = n) : Rd w v 2 (l.map duoV) := by
  subst hn; exact rdDuo hm ht
theorem rdNatN {c : Cx} {hs hs' : List Asn} {w : World} {E : TypeId} {l : List Nat} {n : Nat} {v : Value} (hm : Mem c hs w) (ht : Take hs (row E 1 v n (natsV l)) hs') (hn : l.length = n) : Rd w v 1 ((l.map fun (i : Nat) => (i : Int)).map oneV) := by
  subst hn
  have := rdRowN hm ht
  rw [natsL_ints] at this
  exact this
theorem sameSpans_t {v1 v2 : Value} {l : List (Int × Int)} {w : World} (h1 : Rd w v1 2 (l.map duoV)) (h2 : Rd w v2 2 (l.map duoV)) : GivesV Tryz.prog 96 [v1, v2] w (.bool true) := by
  have := sameSpans_c h1 h2
  rwa [decide_eq_true rfl] at this
theorem sameGaps_t {v1 v2 : Value} {l : List (Int × Int × Int)} {w : World} (h1 : Rd w v1 3 (l.map triV)) (h2 : Rd w v2 3 (l.map triV)) : GivesV Tryz.prog 31 [v1, v2] w (.bool true) := by
  have := sameGaps_c h1 h2
  rwa [decide_eq_true rfl] at this
theorem sameShares_t {v1 v2 : Value} {l : List (Int × Int × Int)} {w : World} (h1 : Rd w v1 3 (l.map triV)) (h2 : Rd w v2 3 (l.map triV)) : GivesV Tryz.prog 33 [v1, v2] w (.bool true) := by
  have := sameShares_c h1 h2
  rwa [decide_eq_true rfl] at this
theorem sameInts_t {v1 v2 : Value} {l : List Int} {w : World} (h1 : Rd w v1 1 (l.map oneV)) (h2 : Rd w v2 1 (l.map oneV)) : GivesV Tryz.prog 97 [v1, v2] w (.bool true) := by
  have := sameInts_c h1 h2
  rwa [decide_eq_true rfl] at this
def awT : List (Int × Int) := [(100, 150), (145, 345), (400, 420), (420, 450)]
def awT2 : List (Int × Int) := [(100, 150), (145, 345), (410, 440)]
def awG : List (Int × Int × Int) := [(1, 345, 400)]
def awA : List (Int × Int × Int) := [(0, 5, 6), (1, 1, 6)]
def awB : List (Int × Int × Int) := [(1, 1, 1)]
def awX : List (Int × Int) := [(155, 175), (315, 335)]
def awV : List Nat := [1, 3]
def awF : List Nat := [1, 2]
def awR : List En := [sh0, sh1, sh3]

theorem aw_times {v : Value} {w : World} (h : Rd w v 6 (ensL shL)) (hG : Glob w) : Gives Tryz.prog 19 [.agg #[v]] w [] (fun _ : Value => True) (fun v => .tuple #[v, .int .i64 0]) (fun v => [row 66 2 v awT.length (awT.flatMap duoV)]) := by
  have := times_c h hG
  rwa [ev_chk, ev_tm] at this
theorem aw_gaps {v : Value} {w : World} (h : Rd w v 6 (ensL shL)) (hG : Glob w) : Gives Tryz.prog 21 [.agg #[v]] w [] (fun _ : Value => True) (fun v => .tuple #[v, .int .i64 0]) (fun v => [row 120 3 v awG.length (awG.flatMap triV)]) := by
  have := gapsX_c h hG
  rwa [ev_chk, ev_gps] at this
theorem aw_air1 {v : Value} {w : World} (h : Rd w v 6 (ensL shL)) (hG : Glob w) : Gives Tryz.prog 22 [.agg #[v], .int .i64 145] w [] (fun _ : Value => True) (fun v => .tuple #[v, .int .i64 0]) (fun v => [row 117 3 v awA.length (awA.flatMap triV)]) := by
  have := onAir_c (f := 145) h hG
  rwa [ev_air1.1, ev_air1.2] at this
theorem aw_air2 {v : Value} {w : World} (h : Rd w v 6 (ensL shL)) (hG : Glob w) : Gives Tryz.prog 22 [.agg #[v], .int .i64 150] w [] (fun _ : Value => True) (fun v => .tuple #[v, .int .i64 0]) (fun v => [row 117 3 v awB.length (awB.flatMap triV)]) := by
  have := onAir_c (f := 150) h hG
  rwa [ev_air2.1, ev_air2.2] at this
theorem aw_air3 {v : Value} {w : World} (h : Rd w v 6 (ensL shL)) (hG : Glob w) : Gives Tryz.prog 22 [.agg #[v], .int .i64 360] w [] (fun _ : Value => True) (fun v => .tuple #[v, .int .i64 0]) (fun v => [row 117 3 v ([] : List (Int × Int × Int)).length (([] : List (Int × Int × Int)).flatMap triV)]) := by
  have := onAir_c (f := 360) h hG
  rwa [ev_air3.1, ev_air3.2] at this
theorem aw_ex {v lv : Value} {w : World} (h : Rd w v 6 (ensL shL)) (h2 : Rd w lv 4 (seL aw6)) (hG : Glob w) : Gives Tryz.prog 36 [.agg #[v], lv] w [] (fun _ : Value => True) (fun v => .tuple #[v, .int .i64 0]) (fun v => [row 66 2 v awX.length (awX.flatMap duoV)]) := by
  have := expanded_c h h2 hG
  rwa [ev_ex.1, ev_ex.2] at this
theorem aw_vi {v lv : Value} {w : World} (h : Rd w v 6 (ensL shL)) (h2 : Rd w lv 3 (riL aw7)) (hG : Glob w) : Gives Tryz.prog 37 [.agg #[v], lv] w [] (fun _ : Value => True) (fun v => .tuple #[v, .int .i64 0]) (fun v => [row 3 1 v awV.length (natsV awV)]) := by
  have := violations_c h h2 hG
  rwa [ev_vi.1, ev_vi.2] at this
theorem aw_rm1 {v : Value} {w : World} (h : Rd w v 6 (ensL shL)) (hG : Glob w) : Gives Tryz.prog 71 [.agg #[v], .int .i64 380, .int .i64 1] w [] (fun _ : Value => True) (fun v => .tuple #[.agg #[v], .int .i64 23]) (fun v => [row 138 6 v ([] : List En).length (ensL []).flatten]) := by
  have := removed_c (now := 380) (at' := 1) h hG
  rwa [ev_rm1.1, ev_rm1.2] at this
theorem aw_rm2 {v : Value} {w : World} (h : Rd w v 6 (ensL shL)) (hG : Glob w) : Gives Tryz.prog 71 [.agg #[v], .int .i64 380, .int .i64 2] w [] (fun _ : Value => True) (fun v => .tuple #[.agg #[v], .int .i64 0]) (fun v => [row 138 6 v awR.length (ensL awR).flatten]) := by
  have := removed_c (now := 380) (at' := 2) h hG
  rwa [ev_rm2.1, ev_rm2.2] at this
theorem aw_tm2 {v : Value} {w : World} (h : Rd w v 6 (ensL awR)) (hG : Glob w) : Gives Tryz.prog 19 [.agg #[v]] w [] (fun _ : Value => True) (fun v => .tuple #[v, .int .i64 0]) (fun v => [row 66 2 v awT2.length (awT2.flatMap duoV)]) := by
  have := times_c h hG
  rwa [show chkF awR = 0 from ev_tm2.1, show tmL awR = awT2 from ev_tm2.2] at this
theorem aw_in1 {v : Value} {w : World} (h : Rd w v 6 (ensL shL)) (hG : Glob w) : Gives Tryz.prog 69 [.agg #[v], .int .i64 300, .int .i64 2, .agg (ad 60).cells.toArray] w [] (fun _ : Value => True) (fun v => .tuple #[.agg #[v], .int .i64 15]) (fun v => [row 138 6 v ([] : List En).length (ensL ([] : List En)).flatten]) := by
  have := inserted_c (now := 300) (at' := 2) (ad 60) h (by decide) hG
  rwa [ev_in1.1, ev_in1.2] at this
theorem aw_in2 {v : Value} {w : World} (h : Rd w v 6 (ensL shL)) (hG : Glob w) : Gives Tryz.prog 69 [.agg #[v], .int .i64 300, .int .i64 2, .agg (ad 55).cells.toArray] w [] (fun _ : Value => True) (fun v => .tuple #[.agg #[v], .int .i64 0]) (fun v => [row 138 6 v (inL shL 300 2 (ad 55)).length (ensL (inL shL 300 2 (ad 55))).flatten]) := by
  have := inserted_c (now := 300) (at' := 2) (ad 55) h (by decide) hG
  rwa [ev_in2] at this
theorem aw_in3 {v : Value} {w : World} (h : Rd w v 6 (ensL shL)) (hG : Glob w) : Gives Tryz.prog 69 [.agg #[v], .int .i64 346, .int .i64 2, .agg (ad 55).cells.toArray] w [] (fun _ : Value => True) (fun v => .tuple #[.agg #[v], .int .i64 23]) (fun v => [row 138 6 v ([] : List En).length (ensL ([] : List En)).flatten]) := by
  have := inserted_c (now := 346) (at' := 2) (ad 55) h (by decide) hG
  rwa [ev_in3.1, ev_in3.2] at this
theorem aw_fi {pv cv : Value} {w : World} (h2 : Rd w pv 4 (spsL ofL)) (h3 : Rd w cv 1 (ints [2, 2])) : Gives Tryz.prog 62 [.agg #[.int .i64 55, pv, cv, .slice none 0 0]] w [] (fun _ : Value => True) (fun v => .tuple #[v, .agg #[.int .i64 76, .int .i64 55], .int .i64 0]) (fun v => [row 3 1 v awF.length (natsV awF)]) := by
  have := fill_c (b := ofB) h2 h3 (Rd.nil _ _)
  rwa [ev_br, ev_fi.1, ev_fi.2] at this
theorem aw_cf1 {pv cv ov : Value} {w : World} (h2 : Rd w pv 4 (spsL ofL)) (h3 : Rd w cv 1 (ints [2, 2])) (h4 : Rd w ov 1 (ints [0, 3, 1])) : GivesV Tryz.prog 61 [.agg #[.int .i64 55, pv, cv, .slice none 0 0], ov] w (.tuple #[.agg #[.int .i64 75, .int .i64 55], .int .i64 0]) := by
  have := checkFill_c (b := ofB) h2 h3 (Rd.nil _ _) h4
  rwa [ev_cf1.1, ev_cf1.2] at this
theorem aw_cf2 {pv cv ov : Value} {w : World} (h2 : Rd w pv 4 (spsL ofL)) (h3 : Rd w cv 1 (ints [2, 2])) (h4 : Rd w ov 1 (ints [0, 1])) : GivesV Tryz.prog 61 [.agg #[.int .i64 55, pv, cv, .slice none 0 0], ov] w (.tuple #[.agg #[.int .i64 0, .int .i64 0], .int .i64 21]) := by
  have := checkFill_c (b := ofB) h2 h3 (Rd.nil _ _) h4
  rwa [ev_cf2.1, ev_cf2.2] at this
theorem aw_bd1 {pv cv : Value} {w : World} (h2 : Rd w pv 4 (spsL ofL)) (h3 : Rd w cv 1 (ints [2, 2])) : GivesV Tryz.prog 46 [.agg #[.int .i64 55, pv, cv, .slice none 0 0], .agg #[.int .i64 6, .int .i64 5]] w (.tuple #[.int .i64 82, .int .i64 0]) := by
  have := boundX_c (p := (6, 5)) (b := ofB) h2 h3 (Rd.nil _ _)
  rwa [ev_bd1.1, ev_bd1.2, if_pos rfl] at this
theorem aw_bd2 {pv cv : Value} {w : World} (h2 : Rd w pv 4 (spsL ofL)) (h3 : Rd w cv 1 (ints [2, 2])) : GivesV Tryz.prog 46 [.agg #[.int .i64 55, pv, cv, .slice none 0 0], .agg #[.int .i64 3, .int .i64 2]] w (.tuple #[.int .i64 85, .int .i64 0]) := by
  have := boundX_c (p := (3, 2)) (b := ofB) h2 h3 (Rd.nil _ _)
  rwa [ev_bd2.1, ev_bd2.2, if_pos rfl] at this
theorem aw_pr {pv cv : Value} {w : World} (h2 : Rd w pv 4 (spsL ofL)) (h3 : Rd w cv 1 (ints [2, 2])) : GivesV Tryz.prog 44 [.agg #[.int .i64 55, pv, cv, .slice none 0 0]] w (.tuple #[.agg #[.int .i64 6, .int .i64 5], .int .i64 0]) := by
  have := priceX_c (b := ofB) h2 h3 (Rd.nil _ _)
  rwa [ev_br, if_pos rfl, ev_pr] at this
theorem aw_pl {v pv cv ov : Value} {w : World} (h : Rd w v 6 (ensL shL)) (h2 : Rd w pv 4 (spsL ofL)) (h3 : Rd w cv 1 (ints [2, 2])) (h5 : Rd w ov 1 (ints [1, 2])) (hG : Glob w) : Gives Tryz.prog 52 [.agg #[v], .int .i64 0, .agg #[.int .i64 55, pv, cv, .slice none 0 0], ov] w [] (fun _ : Value => True) (fun v => .tuple #[.agg #[v], .int .i64 0]) (fun v => [row 138 6 v awP.length (ensL awP).flatten]) := by
  have := placed_c (b := ofB) (gap := 0) h h2 h3 (Rd.nil _ _) h5 hG
  rwa [ev_pl.1, ev_pl.2] at this
theorem aw_z {v : Value} {w : World} (h : Rd w v 6 (ensL [sh0])) (hG : Glob w) (hT : Tab10 w) : GivesV Tryz.prog 81 [.agg #[v]] w (.tuple #[.string awZ, .int .i64 0]) := by
  have := print_c h hG hT
  rwa [ev_z, ev_one] at this
end Go.Proofs.A1