/- Parts of the proof: S52 SPost SOpen R1. -/
import Derived.Test.YtfbgbipclgljaaaGreatDoorLM21
import Derived.Test.YtfbgbipclgljaaaGreatDoorTie
import Derived.Test.YtfbgbipclgljaaaGreatDoorCards
import Derived.Lib.SmallJoins
import Derived.Lib.LaidTab
import Derived.Deep.Slices
import Derived.Deep.Fields
import Derived.ChangeSame
import Derived.ChangeBook
import Derived.ChangeStays
import Derived.WalkKit
import Derived.ProofKit
import Derived.OpenShut
import Derived.Below
import Derived.LaidMore
import Derived.Lay
import Derived.SevenTiedAt
import Derived.Stop.Joined
import Derived.Test.YtfbgbipclgljaaaGreatDoorLM12
import Derived.Test.YtfbgbipclgljaaaGreatDoorLM13
import Derived.Test.YtfbgbipclgljaaaGreatDoorLM06
set_option linter.unusedSectionVars false
set_option linter.unusedVariables false
set_option linter.unusedSimpArgs false
/- S52 -/
/- ScheduleTimes: the argument opened, what the listed tables give, the row, the card. -/
namespace Go.Proofs.A1
open Go Go.SL Go.ChangeShapes Go.WideShapes Go.Deep Go.Joins

section
variable {H : Type} {enc : TypeId × Value → H} {w : World}
theorem c9 : Tryz.prog.cellsOf 9 = 1 := by kernel_rfl
theorem c3 : Tryz.prog.cellsOf 3 = 1 := by kernel_rfl
theorem c113 : Tryz.prog.cellsOf 113 = 2 := by kernel_rfl
theorem c115 : Tryz.prog.cellsOf 115 = 6 := by kernel_rfl
theorem c24 : Tryz.prog.cellsOf 24 = 1 := by kernel_rfl
theorem c22 : Tryz.prog.cellsOf 22 = 1 := by kernel_rfl
theorem laidOut : laidOutB Tryz.prog = true := by kernel_rfl
theorem rec24 : Tryz.prog.readableRec 24 = true := by kernel_rfl
theorem row24 : (24 : TypeId) < Tryz.prog.types.size := of_decide_eq_true (by kernel_rfl)
theorem ownK : ownKnob Tryz.prog.godebug = none := by kernel_rfl
theorem stays24 {W W' : World} {sp' : Nat → Bool} {n : Nat} {cs : List Value} {x : DataW H × List MemPlace} (h : DataW.trod enc Tryz.prog W 0 (fun _ => true) true n 24 cs = some x)
    (hsame : ∀ p ∈ x.2, W.sameAt W' p) (hs : ∀ p ∈ x.2, sp' p.block = true) : DataW.trod enc Tryz.prog W' 0 sp' true n 24 cs = some x :=
  DataW.trod_stays (kids_book laidOut rec24) (book_sized rec24) (fun h => by cases h) ⟨row24, book_self 24⟩ h hsame hs
theorem add_none {b o n : Nat} : Addr.add ⟨b, o, none⟩ n = ⟨b, o + n, none⟩ := addr_add b o n
theorem list6 {α : Type} : ∀ {l : List α}, l.length = 6 → ∃ a b c d e f, l = [a, b, c, d, e, f]
  | [a, b, c, d, e, f], _ => ⟨a, b, c, d, e, f, rfl⟩
/-- an entry's cells -/
theorem ent_cells {n : Nat} {cs : List Value} {x : DataW H × List MemPlace} (h : DataW.trod enc Tryz.prog w 0 (fun _ => true) true n 115 cs = some x) : ∃ e : En, cs = e.cells := by
  obtain ⟨ys, n', _, _, hlen, hyl, hf⟩ := DataW.trod_struct Tryz.underlying115 h
  rw [c115] at hlen
  have hyl5 : ys.length = 5 := hyl
  obtain ⟨k0, k1, k2, k3, k4, k5, rfl⟩ := list6 hlen
  have f0 : DataW.trod enc Tryz.prog w 0 (fun _ => true) true n' 9 (List.take (Tryz.prog.cellsOf 9) (List.drop 0 [k0, k1, k2, k3, k4, k5])) = ys[0]? := hf 0 _ rfl
  rw [c9, List.getElem?_eq_getElem (by omega)] at f0
  have f1 : DataW.trod enc Tryz.prog w 0 (fun _ => true) true n' 9 (List.take (Tryz.prog.cellsOf 9) (List.drop 1 [k0, k1, k2, k3, k4, k5])) = ys[1]? := hf 1 _ rfl
  rw [c9, List.getElem?_eq_getElem (by omega)] at f1
  have f2 : DataW.trod enc Tryz.prog w 0 (fun _ => true) true n' 113 (List.take (Tryz.prog.cellsOf 113) (List.drop 2 [k0, k1, k2, k3, k4, k5])) = ys[2]? := hf 2 _ rfl
  rw [c113, List.getElem?_eq_getElem (by omega)] at f2
  have f3 : DataW.trod enc Tryz.prog w 0 (fun _ => true) true n' 3 (List.take (Tryz.prog.cellsOf 3) (List.drop 4 [k0, k1, k2, k3, k4, k5])) = ys[3]? := hf 3 _ rfl
  rw [c3, List.getElem?_eq_getElem (by omega)] at f3
  have f4 : DataW.trod enc Tryz.prog w 0 (fun _ => true) true n' 3 (List.take (Tryz.prog.cellsOf 3) (List.drop 5 [k0, k1, k2, k3, k4, k5])) = ys[4]? := hf 4 _ rfl
  rw [c3, List.getElem?_eq_getElem (by omega)] at f4
  obtain ⟨s0, e0, _, _⟩ := DataW.trod_string Tryz.underlying9 f0
  obtain ⟨s1, e1, _, _⟩ := DataW.trod_string Tryz.underlying9 f1
  obtain ⟨i3, e3, _, _⟩ := DataW.trod_int Tryz.underlying3 f3
  obtain ⟨i4, e4, _, _⟩ := DataW.trod_int Tryz.underlying3 f4
  obtain ⟨zs, n2, _, _, _, hzl, hg⟩ := DataW.trod_struct Tryz.underlying113 f2
  have hzl2 : zs.length = 2 := hzl
  have g0 : DataW.trod enc Tryz.prog w 0 (fun _ => true) true n2 9 (List.take (Tryz.prog.cellsOf 9) (List.drop 0 (List.take 2 (List.drop 2 [k0, k1, k2, k3, k4, k5])))) = zs[0]? := hg 0 _ rfl
  rw [c9, List.getElem?_eq_getElem (by omega)] at g0
  have g1 : DataW.trod enc Tryz.prog w 0 (fun _ => true) true n2 3 (List.take (Tryz.prog.cellsOf 3) (List.drop 1 (List.take 2 (List.drop 2 [k0, k1, k2, k3, k4, k5])))) = zs[1]? := hg 1 _ rfl
  rw [c3, List.getElem?_eq_getElem (by omega)] at g1
  obtain ⟨s2, e2, _, _⟩ := DataW.trod_string Tryz.underlying9 g0
  obtain ⟨i2, e5, _, _⟩ := DataW.trod_int Tryz.underlying3 g1
  simp at e0 e1 e2 e3 e4 e5
  subst e0 e1 e2 e3 e4 e5
  exact ⟨⟨s0, s1, s2, i2, i3, i4⟩, rfl⟩
/-- what reads as a value of a type reads so again where its places are the same -/
theorem staysT {T : TypeId} (hrec : Tryz.prog.readableRec T = true) (hrow : T < Tryz.prog.types.size) {W W' : World} {sp' : Nat → Bool} {n : Nat} {cs : List Value} {x : DataW H × List MemPlace} (h : DataW.trod enc Tryz.prog W 0 (fun _ => true) true n T cs = some x)
    (hsame : ∀ p ∈ x.2, W.sameAt W' p) (hs : ∀ p ∈ x.2, sp' p.block = true) : DataW.trod enc Tryz.prog W' 0 sp' true n T cs = some x :=
  DataW.trod_stays (kids_book laidOut hrec) (book_sized hrec) (fun h => by cases h) ⟨hrow, book_self T⟩ h hsame hs
/-- a slice, read row by row -/
theorem open_rows {α : Type} [Inhabited α] {T E : TypeId} {sz : Nat} {cells : α → List Value} (hu : Tryz.prog.underlying T = some (.slice E)) (hsz : Tryz.prog.cellsOf E = sz) (h0 : 0 < sz) (hlen : ∀ a, (cells a).length = sz)
    (hE : ∀ (n : Nat) (cs : List Value) (x : DataW H × List MemPlace), DataW.trod enc Tryz.prog w 0 (fun _ => true) true n E cs = some x → ∃ e : α, cs = cells e)
    {n : Nat} {v : Value} {y : DataW H × List MemPlace} (h : DataW.trod enc Tryz.prog w 0 (fun _ => true) true n T [v] = some y) : ∃ l : List α, Rd w v sz (l.map cells) := by
  rcases open_slice hu h with ⟨e, _⟩ | ⟨a, len, cap, m, n', D, Pl, hcs, _, hl, hm, hmm, _, hi⟩
  · simp only [List.cons.injEq, and_true] at e
    subst e
    exact ⟨[], Rd.nil w sz⟩
  · simp only [List.cons.injEq, and_true] at hcs
    subst hcs
    rw [hsz] at hi
    have hmc : m = cap := by simpa using hmm
    have hE : ∀ i, i < len → ∃ e : α, ∀ j, j < sz → w.cell? (a.add (i * sz + j)) = (cells e)[j]? := fun i hil => by
      obtain ⟨cs', hc, ht⟩ := hi i (by omega)
      obtain ⟨_, hcl, hat⟩ := World.cells?_some hc
      obtain ⟨e, rfl⟩ := hE _ _ _ ht
      exact ⟨e, fun j hj => by rw [← Go.Deep.add_add]; exact hat j hj⟩
    let S : Nat → α := fun i => if hil : i < len then (hE i hil).choose else default
    have hS : ∀ i j, i < len → j < sz → w.cell? (a.add (i * sz + j)) = (cells (S i))[j]? := fun i j hil hj => by
      have := (hE i hil).choose_spec j hj
      simpa only [S, dif_pos hil] using this
    have hlenE : (((List.range len).map S).map cells).length = len := by simp
    refine ⟨(List.range len).map S, ?_⟩
    by_cases hz : len = 0
    · subst hz
      exact ⟨some a, cap, 0, 0, by rw [hlenE], by rw [hlenE]; omega, hm, fun hne => absurd (List.length_eq_zero_iff.1 hlenE) hne, fun i r hr => by
        have := (List.getElem?_eq_some_iff.1 hr).1
        rw [hlenE] at this; omega⟩
    · obtain ⟨b, off, spot⟩ := a
      have hspot : spot = none := by
        have h1 := hS 0 0 (by omega) h0
        rw [List.getElem?_eq_getElem (by rw [hlen]; exact h0)] at h1
        simpa [Addr.add] using World.cell?_spot h1
      subst hspot
      refine ⟨some ⟨b, off, none⟩, cap, b, off, by rw [hlenE], by rw [hlenE]; exact hl, hm, fun _ => rfl, fun i r hr => ?_⟩
      have hil : i < len := by
        have := (List.getElem?_eq_some_iff.1 hr).1
        rwa [hlenE] at this
      have hr' : r = cells (S i) := by
        simp [hil] at hr; exact hr.symm
      subst hr'
      refine ⟨hlen _, fun j u hu => ?_⟩
      have hj : j < sz := by
        have := (List.getElem?_eq_some_iff.1 hu).1
        rwa [hlen] at this
      have := hS i j hil hj
      rw [add_none, hu] at this
      rw [Nat.add_assoc]; exact this
/-- a slice of entries, read -/
theorem open_ens {n : Nat} {v : Value} {y : DataW H × List MemPlace} (h : DataW.trod enc Tryz.prog w 0 (fun _ => true) true n 22 [v] = some y) : ∃ es, Rd w v 6 (ensL es) := by
  haveI : Inhabited En := ⟨En.zero⟩
  exact open_rows (cells := En.cells) Tryz.underlying22 c115 (by decide) (fun _ => rfl) (fun _ _ _ h => ent_cells h) h
end

/-- what the row's list gives -/
theorem of_laid {W : World} (h : laidMetH Tryz.prog YtfbgbipclgljaaaGreatDoor.Rows.scheduleTimesRow.laid W) : Glob W ∧ Tab10 W := by
  rw [MakeChecks.laidMetH_plain _ _ _ (by kernel_rfl)] at h
  obtain ⟨ps, ⟨g0, t0, cs0, f0, p0, q0, hg0, ht0, hv0, hd0, ⟨g1, t1, cs1, f1, p1, q1, hg1, ht1, hv1, hd1, ⟨g2, t2, cs2, f2, p2, q2, hg2, ht2, hv2, hd2, ⟨g3, t3, cs3, f3, p3, q3, hg3, ht3, hv3, hd3, _, _⟩, _⟩, _⟩, _⟩, _, _⟩ := h
  obtain rfl := Option.some.inj ((show Tryz.prog.globalNamed "internal/strconv.uint64pow10" = some 2 by kernel_rfl).symm.trans hg2)
  obtain rfl := Option.some.inj ((show (Tryz.prog.globals[2]?).map (·.type) = some 351 by kernel_rfl).symm.trans ht2)
  obtain rfl := Option.some.inj ((show Tryz.prog.globalNamed "genlock/schedule.names" = some 0 by kernel_rfl).symm.trans hg3)
  obtain rfl := Option.some.inj ((show (Tryz.prog.globals[0]?).map (·.type) = some 229 by kernel_rfl).symm.trans ht3)
  refine ⟨?_, ?_⟩
  · obtain ⟨xs, m, _, ex, _, hl, hel⟩ := DataW.trod_array Tryz.underlying229 hd3
    have e3 : (xs.map (·.1)) = [.lit (.string [102, 105, 120, 101, 100]), .lit (.string [102, 111, 108, 108, 111, 119, 105, 110, 103]), .lit (.string [109, 97, 110, 117, 97, 108])] := (DataW.agg.inj (Prod.mk.inj ex).1).symm
    have key : ∀ (i : Nat) (l : List UInt8) (s : ByteArray), i < 3 → (xs.map (·.1))[i]? = some (.lit (.string l)) → s.data.toList = l → W.cell? ⟨0, i, none⟩ = some (.string s) := fun i l s hi h1 hs => by
      have hE := hel i hi
      rw [c9, Nat.mul_one, List.getElem?_eq_getElem (by omega)] at hE
      obtain ⟨z, e1, e2, _⟩ := DataW.trod_string Tryz.underlying9 hE
      rw [List.getElem?_map, List.getElem?_eq_getElem (by omega : i < xs.length), e2] at h1
      simp only [Option.map_some, Option.some.injEq, DataW.lit.injEq, Lit.string.injEq] at h1
      have hz : z = s := by
        have : z.data = s.data := Array.ext' (h1.trans hs.symm)
        cases z; cases s; simpa using this
      subst hz
      rw [World.var?_cell hg3 hv3 i]
      have : cs3.toList[i]? = some (.string z) := by
        have h0 : ((cs3.toList.drop i).take 1)[0]? = some (.string z) := by rw [e1]; rfl
        simpa using h0
      simpa using this
    exact ⟨key 0 _ sFix (by omega) (by rw [e3]; rfl) rfl, key 1 _ sFol (by omega) (by rw [e3]; rfl) rfl, key 2 _ sMan (by omega) (by rw [e3]; rfl) rfl⟩
  · have hd2' : DataW.trod _ Tryz.prog W 0 _ false f2 351 cs2.toList = some (Lib.tabData .u64 Lib.pow10Tab, p2) := hd2
    unfold Tab10 Lib.TabIs
    rw [hv2, ← Lib.cells_of_tab Tryz.underlying351 (by kernel_rfl) (by kernel_rfl) (by kernel_rfl) hd2']
end Go.Proofs.A1

/- SPost -/
/- What a law's row asks at its end. -/
namespace Go.Proofs.YtfbgbipclgljaaaGreatDoor
open Go Go.SL Go.Proofs.A1 Go.ChangeShapes Go.WideShapes Go.ChangeAt Go.RowKit Go.Joins

section
variable {H : Type} {enc : TypeId × Value → H} {P : Program}
theorem post_of_below {f : Func} {s : ChangeSpec} {apart fresh handsOn again : Bool} {W W' : World} {args : Array Value} {v : Value} {ds gs : List (DataW H)} {before pa pv : List MemPlace}
    (hW : DataW.Whole enc P f.params.toList s.vars apart W args.toList ds gs before)
    (hres : ∀ (b : Nat) (sp : Nat → Bool) (hd : Bool), DataW.TrodAll enc P W' b sp hd f.resultTypes.toList (v.resultList f.resultTypes.size) (s.fn H (ds ++ gs)).results [])
    (hargs : ∀ sp : Nat → Bool, (∀ p ∈ before, sp p.block = true) → DataW.TrodAll enc P W' 0 sp true f.params.toList args.toList (s.fn H (ds ++ gs)).args pa)
    (hvars : ∀ sp : Nat → Bool, (∀ p ∈ before, sp p.block = true) → DataW.TrodVars enc P W' sp s.vars (s.fn H (ds ++ gs)).vars pv)
    (hps : before = pa ++ pv) (hb : Below W.heap.size W W')
    (hok : ∀ (j : Nat) (t : TypeId) (r : Value), f.resultTypes[j]? = some t → (v.resultList f.resultTypes.size)[j]? = some r → Value.okWide P W' .any 0 t r) :
    s.post enc P f apart fresh handsOn again W args v W' := by
  have hlt : ∀ p ∈ before, p.block < W.heap.size := fun p hp => hW.lt p hp
  have hold : ∀ p ∈ before, (fun b => decide (b < W.heap.size)) p.block = true := fun p hp => by simpa using hlt p hp
  refine ⟨ds, gs, before, [], pa, pv, hW, hres _ _ _, hargs _ hold, hvars _ hold, World.keptBut_mono (fun p hp => ⟨hp, ?_⟩) (hb.frame (· ∈ before)), fun _ => ?_⟩
  · rw [hps, List.mem_append] at hp
    exact Or.inr hp
  · obtain ⟨_, _, _, _, _, hz, hn⟩ := hW
    refine ⟨hok, _, _, ([] ++ pa) ++ pv, ⟨[] ++ pa, pv, trodAll_append (hargs _ (fun _ _ => rfl)) (hres _ _ _), hvars _ (fun _ _ => rfl), rfl, ?_, ?_⟩, ?_⟩
    · intro b off hp
      have hin : MemPlace.cell b off ∈ before := by rw [hps]; simpa using hp
      rw [hb.frozen (hlt _ hin)]
      exact hz b off hin
    · intro ha
      have := hn ha
      rw [hps] at this
      simpa using this
    · intro p hp _
      rw [hps]
      simpa using hp
end

end Go.Proofs.YtfbgbipclgljaaaGreatDoor

/- SOpen -/
/- The arguments of the laws: what their cells are. -/
namespace Go.Proofs.A1
open Go Go.SL Go.ChangeShapes Go.WideShapes Go.Deep Go.Joins

section
variable {H : Type} {enc : TypeId × Value → H} {w : World}
theorem list1 {α : Type} : ∀ {l : List α}, l.length = 1 → ∃ a, l = [a]
  | [a], _ => ⟨a, rfl⟩
theorem list2 {α : Type} : ∀ {l : List α}, l.length = 2 → ∃ a b, l = [a, b]
  | [a, b], _ => ⟨a, b, rfl⟩
theorem list3 {α : Type} : ∀ {l : List α}, l.length = 3 → ∃ a b c, l = [a, b, c]
  | [a, b, c], _ => ⟨a, b, c, rfl⟩
theorem list4 {α : Type} : ∀ {l : List α}, l.length = 4 → ∃ a b c d, l = [a, b, c, d]
  | [a, b, c, d], _ => ⟨a, b, c, d, rfl⟩
theorem c62 : Tryz.prog.cellsOf 62 = 4 := by kernel_rfl
theorem c4 : Tryz.prog.cellsOf 4 = 1 := by kernel_rfl
theorem cells62 {n : Nat} {cs : List Value} {x : DataW H × List MemPlace} (h : DataW.trod enc Tryz.prog w 0 (fun _ => true) true n 62 cs = some x) : ∃ (a0 : Int) (a1 : Bool) (a2 : Int) (a3 : Int), cs = [.int .i64 a0, .bool a1, .int .i64 a2, .int .i64 a3] := by
  obtain ⟨ys, n0, _, _, hlen, hyl, hf⟩ := DataW.trod_struct Tryz.underlying62 h
  rw [c62] at hlen
  have hyl0 : ys.length = 4 := hyl
  obtain ⟨k0, k1, k2, k3, rfl⟩ := list4 hlen
  have f0_0 : DataW.trod enc Tryz.prog w 0 (fun _ => true) true n0 3 (List.take (Tryz.prog.cellsOf 3) (List.drop 0 [k0, k1, k2, k3])) = ys[0]? := hf 0 _ rfl
  rw [c3, List.getElem?_eq_getElem (by omega)] at f0_0
  obtain ⟨b0, eb0, _, _⟩ := DataW.trod_int Tryz.underlying3 f0_0
  simp at eb0
  have f0_1 : DataW.trod enc Tryz.prog w 0 (fun _ => true) true n0 4 (List.take (Tryz.prog.cellsOf 4) (List.drop 1 [k0, k1, k2, k3])) = ys[1]? := hf 1 _ rfl
  rw [c4, List.getElem?_eq_getElem (by omega)] at f0_1
  obtain ⟨b1, eb1, _⟩ := DataW.trod_bool Tryz.underlying4 f0_1
  simp at eb1
  have f0_2 : DataW.trod enc Tryz.prog w 0 (fun _ => true) true n0 3 (List.take (Tryz.prog.cellsOf 3) (List.drop 2 [k0, k1, k2, k3])) = ys[2]? := hf 2 _ rfl
  rw [c3, List.getElem?_eq_getElem (by omega)] at f0_2
  obtain ⟨b2, eb2, _, _⟩ := DataW.trod_int Tryz.underlying3 f0_2
  simp at eb2
  have f0_3 : DataW.trod enc Tryz.prog w 0 (fun _ => true) true n0 3 (List.take (Tryz.prog.cellsOf 3) (List.drop 3 [k0, k1, k2, k3])) = ys[3]? := hf 3 _ rfl
  rw [c3, List.getElem?_eq_getElem (by omega)] at f0_3
  obtain ⟨b3, eb3, _, _⟩ := DataW.trod_int Tryz.underlying3 f0_3
  simp at eb3
  subst eb0 eb1 eb2 eb3
  exact ⟨b0, b1, b2, b3, rfl⟩
theorem c68 : Tryz.prog.cellsOf 68 = 3 := by kernel_rfl
theorem c66 : Tryz.prog.cellsOf 66 = 2 := by kernel_rfl
theorem cells68 {n : Nat} {cs : List Value} {x : DataW H × List MemPlace} (h : DataW.trod enc Tryz.prog w 0 (fun _ => true) true n 68 cs = some x) : ∃ (a0 : ByteArray) (a1 : Int) (a2 : Int), cs = [.string a0, .int .i64 a1, .int .i64 a2] := by
  obtain ⟨ys, n0, _, _, hlen, hyl, hf⟩ := DataW.trod_struct Tryz.underlying68 h
  rw [c68] at hlen
  have hyl0 : ys.length = 2 := hyl
  obtain ⟨k0, k1, k2, rfl⟩ := list3 hlen
  have f0_0 : DataW.trod enc Tryz.prog w 0 (fun _ => true) true n0 9 (List.take (Tryz.prog.cellsOf 9) (List.drop 0 [k0, k1, k2])) = ys[0]? := hf 0 _ rfl
  rw [c9, List.getElem?_eq_getElem (by omega)] at f0_0
  obtain ⟨b0, eb0, _, _⟩ := DataW.trod_string Tryz.underlying9 f0_0
  simp at eb0
  have f0_1 : DataW.trod enc Tryz.prog w 0 (fun _ => true) true n0 66 (List.take (Tryz.prog.cellsOf 66) (List.drop 1 [k0, k1, k2])) = ys[1]? := hf 1 _ rfl
  rw [c66, List.getElem?_eq_getElem (by omega)] at f0_1
  obtain ⟨zs2, m2, _, _, _, hzl2, hg2⟩ := DataW.trod_struct Tryz.underlying66 f0_1
  have hzl2_ : zs2.length = 2 := hzl2
  have f1_2 : DataW.trod enc Tryz.prog w 0 (fun _ => true) true m2 3 (List.take (Tryz.prog.cellsOf 3) (List.drop 0 (List.take 2 (List.drop 1 [k0, k1, k2])))) = zs2[0]? := hg2 0 _ rfl
  rw [c3, List.getElem?_eq_getElem (by omega)] at f1_2
  obtain ⟨b1, eb1, _, _⟩ := DataW.trod_int Tryz.underlying3 f1_2
  simp at eb1
  have f1_3 : DataW.trod enc Tryz.prog w 0 (fun _ => true) true m2 3 (List.take (Tryz.prog.cellsOf 3) (List.drop 1 (List.take 2 (List.drop 1 [k0, k1, k2])))) = zs2[1]? := hg2 1 _ rfl
  rw [c3, List.getElem?_eq_getElem (by omega)] at f1_3
  obtain ⟨b2, eb2, _, _⟩ := DataW.trod_int Tryz.underlying3 f1_3
  simp at eb2
  subst eb0 eb1 eb2
  exact ⟨b0, b1, b2, rfl⟩
theorem c132 : Tryz.prog.cellsOf 132 = 4 := by kernel_rfl
theorem cells132 {n : Nat} {cs : List Value} {x : DataW H × List MemPlace} (h : DataW.trod enc Tryz.prog w 0 (fun _ => true) true n 132 cs = some x) : ∃ (a0 : ByteArray) (a1 : Int) (a2 : Int) (a3 : Int), cs = [.string a0, .int .i64 a1, .int .i64 a2, .int .i64 a3] := by
  obtain ⟨ys, n0, _, _, hlen, hyl, hf⟩ := DataW.trod_struct Tryz.underlying132 h
  rw [c132] at hlen
  have hyl0 : ys.length = 4 := hyl
  obtain ⟨k0, k1, k2, k3, rfl⟩ := list4 hlen
  have f0_0 : DataW.trod enc Tryz.prog w 0 (fun _ => true) true n0 9 (List.take (Tryz.prog.cellsOf 9) (List.drop 0 [k0, k1, k2, k3])) = ys[0]? := hf 0 _ rfl
  rw [c9, List.getElem?_eq_getElem (by omega)] at f0_0
  obtain ⟨b0, eb0, _, _⟩ := DataW.trod_string Tryz.underlying9 f0_0
  simp at eb0
  have f0_1 : DataW.trod enc Tryz.prog w 0 (fun _ => true) true n0 3 (List.take (Tryz.prog.cellsOf 3) (List.drop 1 [k0, k1, k2, k3])) = ys[1]? := hf 1 _ rfl
  rw [c3, List.getElem?_eq_getElem (by omega)] at f0_1
  obtain ⟨b1, eb1, _, _⟩ := DataW.trod_int Tryz.underlying3 f0_1
  simp at eb1
  have f0_2 : DataW.trod enc Tryz.prog w 0 (fun _ => true) true n0 3 (List.take (Tryz.prog.cellsOf 3) (List.drop 2 [k0, k1, k2, k3])) = ys[2]? := hf 2 _ rfl
  rw [c3, List.getElem?_eq_getElem (by omega)] at f0_2
  obtain ⟨b2, eb2, _, _⟩ := DataW.trod_int Tryz.underlying3 f0_2
  simp at eb2
  have f0_3 : DataW.trod enc Tryz.prog w 0 (fun _ => true) true n0 3 (List.take (Tryz.prog.cellsOf 3) (List.drop 3 [k0, k1, k2, k3])) = ys[3]? := hf 3 _ rfl
  rw [c3, List.getElem?_eq_getElem (by omega)] at f0_3
  obtain ⟨b3, eb3, _, _⟩ := DataW.trod_int Tryz.underlying3 f0_3
  simp at eb3
  subst eb0 eb1 eb2 eb3
  exact ⟨b0, b1, b2, b3, rfl⟩
theorem c85 : Tryz.prog.cellsOf 85 = 2 := by kernel_rfl
theorem cells85 {n : Nat} {cs : List Value} {x : DataW H × List MemPlace} (h : DataW.trod enc Tryz.prog w 0 (fun _ => true) true n 85 cs = some x) : ∃ (a0 : Int) (a1 : Int), cs = [.int .i64 a0, .int .i64 a1] := by
  obtain ⟨ys, n0, _, _, hlen, hyl, hf⟩ := DataW.trod_struct Tryz.underlying85 h
  rw [c85] at hlen
  have hyl0 : ys.length = 2 := hyl
  obtain ⟨k0, k1, rfl⟩ := list2 hlen
  have f0_0 : DataW.trod enc Tryz.prog w 0 (fun _ => true) true n0 3 (List.take (Tryz.prog.cellsOf 3) (List.drop 0 [k0, k1])) = ys[0]? := hf 0 _ rfl
  rw [c3, List.getElem?_eq_getElem (by omega)] at f0_0
  obtain ⟨b0, eb0, _, _⟩ := DataW.trod_int Tryz.underlying3 f0_0
  simp at eb0
  have f0_1 : DataW.trod enc Tryz.prog w 0 (fun _ => true) true n0 3 (List.take (Tryz.prog.cellsOf 3) (List.drop 1 [k0, k1])) = ys[1]? := hf 1 _ rfl
  rw [c3, List.getElem?_eq_getElem (by omega)] at f0_1
  obtain ⟨b1, eb1, _, _⟩ := DataW.trod_int Tryz.underlying3 f0_1
  simp at eb1
  subst eb0 eb1
  exact ⟨b0, b1, rfl⟩
theorem cells66 {n : Nat} {cs : List Value} {x : DataW H × List MemPlace} (h : DataW.trod enc Tryz.prog w 0 (fun _ => true) true n 66 cs = some x) : ∃ (a0 : Int) (a1 : Int), cs = [.int .i64 a0, .int .i64 a1] := by
  obtain ⟨ys, n0, _, _, hlen, hyl, hf⟩ := DataW.trod_struct Tryz.underlying66 h
  rw [c66] at hlen
  have hyl0 : ys.length = 2 := hyl
  obtain ⟨k0, k1, rfl⟩ := list2 hlen
  have f0_0 : DataW.trod enc Tryz.prog w 0 (fun _ => true) true n0 3 (List.take (Tryz.prog.cellsOf 3) (List.drop 0 [k0, k1])) = ys[0]? := hf 0 _ rfl
  rw [c3, List.getElem?_eq_getElem (by omega)] at f0_0
  obtain ⟨b0, eb0, _, _⟩ := DataW.trod_int Tryz.underlying3 f0_0
  simp at eb0
  have f0_1 : DataW.trod enc Tryz.prog w 0 (fun _ => true) true n0 3 (List.take (Tryz.prog.cellsOf 3) (List.drop 1 [k0, k1])) = ys[1]? := hf 1 _ rfl
  rw [c3, List.getElem?_eq_getElem (by omega)] at f0_1
  obtain ⟨b1, eb1, _, _⟩ := DataW.trod_int Tryz.underlying3 f0_1
  simp at eb1
  subst eb0 eb1
  exact ⟨b0, b1, rfl⟩
theorem cells113 {n : Nat} {cs : List Value} {x : DataW H × List MemPlace} (h : DataW.trod enc Tryz.prog w 0 (fun _ => true) true n 113 cs = some x) : ∃ (a0 : ByteArray) (a1 : Int), cs = [.string a0, .int .i64 a1] := by
  obtain ⟨ys, n0, _, _, hlen, hyl, hf⟩ := DataW.trod_struct Tryz.underlying113 h
  rw [c113] at hlen
  have hyl0 : ys.length = 2 := hyl
  obtain ⟨k0, k1, rfl⟩ := list2 hlen
  have f0_0 : DataW.trod enc Tryz.prog w 0 (fun _ => true) true n0 9 (List.take (Tryz.prog.cellsOf 9) (List.drop 0 [k0, k1])) = ys[0]? := hf 0 _ rfl
  rw [c9, List.getElem?_eq_getElem (by omega)] at f0_0
  obtain ⟨b0, eb0, _, _⟩ := DataW.trod_string Tryz.underlying9 f0_0
  simp at eb0
  have f0_1 : DataW.trod enc Tryz.prog w 0 (fun _ => true) true n0 3 (List.take (Tryz.prog.cellsOf 3) (List.drop 1 [k0, k1])) = ys[1]? := hf 1 _ rfl
  rw [c3, List.getElem?_eq_getElem (by omega)] at f0_1
  obtain ⟨b1, eb1, _, _⟩ := DataW.trod_int Tryz.underlying3 f0_1
  simp at eb1
  subst eb0 eb1
  exact ⟨b0, b1, rfl⟩
theorem c83 : Tryz.prog.cellsOf 83 = 4 := by kernel_rfl
theorem c80 : Tryz.prog.cellsOf 80 = 1 := by kernel_rfl
theorem c44 : Tryz.prog.cellsOf 44 = 1 := by kernel_rfl
theorem c81 : Tryz.prog.cellsOf 81 = 1 := by kernel_rfl
theorem cells83 {n : Nat} {cs : List Value} {x : DataW H × List MemPlace} (h : DataW.trod enc Tryz.prog w 0 (fun _ => true) true n 83 cs = some x) : ∃ (a0 : Int) (a1 : Value) (a2 : Value) (a3 : Value), cs = [.int .i64 a0, a1, a2, a3] ∧ (∃ (m : Nat) (y : DataW H × List MemPlace), DataW.trod enc Tryz.prog w 0 (fun _ => true) true m 80 [a1] = some y) ∧ (∃ (m : Nat) (y : DataW H × List MemPlace), DataW.trod enc Tryz.prog w 0 (fun _ => true) true m 44 [a2] = some y) ∧ (∃ (m : Nat) (y : DataW H × List MemPlace), DataW.trod enc Tryz.prog w 0 (fun _ => true) true m 81 [a3] = some y) := by
  obtain ⟨ys, n0, _, _, hlen, hyl, hf⟩ := DataW.trod_struct Tryz.underlying83 h
  rw [c83] at hlen
  have hyl0 : ys.length = 4 := hyl
  obtain ⟨k0, k1, k2, k3, rfl⟩ := list4 hlen
  have f0_0 : DataW.trod enc Tryz.prog w 0 (fun _ => true) true n0 3 (List.take (Tryz.prog.cellsOf 3) (List.drop 0 [k0, k1, k2, k3])) = ys[0]? := hf 0 _ rfl
  rw [c3, List.getElem?_eq_getElem (by omega)] at f0_0
  obtain ⟨b0, eb0, _, _⟩ := DataW.trod_int Tryz.underlying3 f0_0
  simp at eb0
  have f0_1 : DataW.trod enc Tryz.prog w 0 (fun _ => true) true n0 80 (List.take (Tryz.prog.cellsOf 80) (List.drop 1 [k0, k1, k2, k3])) = ys[1]? := hf 1 _ rfl
  rw [c80, List.getElem?_eq_getElem (by omega)] at f0_1
  have f0_2 : DataW.trod enc Tryz.prog w 0 (fun _ => true) true n0 44 (List.take (Tryz.prog.cellsOf 44) (List.drop 2 [k0, k1, k2, k3])) = ys[2]? := hf 2 _ rfl
  rw [c44, List.getElem?_eq_getElem (by omega)] at f0_2
  have f0_3 : DataW.trod enc Tryz.prog w 0 (fun _ => true) true n0 81 (List.take (Tryz.prog.cellsOf 81) (List.drop 3 [k0, k1, k2, k3])) = ys[3]? := hf 3 _ rfl
  rw [c81, List.getElem?_eq_getElem (by omega)] at f0_3
  subst eb0
  exact ⟨b0, k1, k2, k3, rfl, ⟨_, _, by simpa using f0_1⟩, ⟨_, _, by simpa using f0_2⟩, ⟨_, _, by simpa using f0_3⟩⟩
theorem c102 : Tryz.prog.cellsOf 102 = 2 := by kernel_rfl
theorem cells102 {n : Nat} {cs : List Value} {x : DataW H × List MemPlace} (h : DataW.trod enc Tryz.prog w 0 (fun _ => true) true n 102 cs = some x) : ∃ (a0 : Int) (a1 : Value), cs = [.int .i64 a0, a1] ∧ (∃ (m : Nat) (y : DataW H × List MemPlace), DataW.trod enc Tryz.prog w 0 (fun _ => true) true m 44 [a1] = some y) := by
  obtain ⟨ys, n0, _, _, hlen, hyl, hf⟩ := DataW.trod_struct Tryz.underlying102 h
  rw [c102] at hlen
  have hyl0 : ys.length = 2 := hyl
  obtain ⟨k0, k1, rfl⟩ := list2 hlen
  have f0_0 : DataW.trod enc Tryz.prog w 0 (fun _ => true) true n0 3 (List.take (Tryz.prog.cellsOf 3) (List.drop 0 [k0, k1])) = ys[0]? := hf 0 _ rfl
  rw [c3, List.getElem?_eq_getElem (by omega)] at f0_0
  obtain ⟨b0, eb0, _, _⟩ := DataW.trod_int Tryz.underlying3 f0_0
  simp at eb0
  have f0_1 : DataW.trod enc Tryz.prog w 0 (fun _ => true) true n0 44 (List.take (Tryz.prog.cellsOf 44) (List.drop 1 [k0, k1])) = ys[1]? := hf 1 _ rfl
  rw [c44, List.getElem?_eq_getElem (by omega)] at f0_1
  subst eb0
  exact ⟨b0, k1, rfl, ⟨_, _, by simpa using f0_1⟩⟩
theorem cells24 {n : Nat} {cs : List Value} {x : DataW H × List MemPlace} (h : DataW.trod enc Tryz.prog w 0 (fun _ => true) true n 24 cs = some x) : ∃ (a0 : Value), cs = [a0] ∧ (∃ (m : Nat) (y : DataW H × List MemPlace), DataW.trod enc Tryz.prog w 0 (fun _ => true) true m 22 [a0] = some y) := by
  obtain ⟨ys, n0, _, _, hlen, hyl, hf⟩ := DataW.trod_struct Tryz.underlying24 h
  rw [c24] at hlen
  have hyl0 : ys.length = 1 := hyl
  obtain ⟨k0, rfl⟩ := list1 hlen
  have f0_0 : DataW.trod enc Tryz.prog w 0 (fun _ => true) true n0 22 (List.take (Tryz.prog.cellsOf 22) (List.drop 0 [k0])) = ys[0]? := hf 0 _ rfl
  rw [c22, List.getElem?_eq_getElem (by omega)] at f0_0
  exact ⟨k0, rfl, ⟨_, _, by simpa using f0_0⟩⟩
theorem c121 : Tryz.prog.cellsOf 121 = 2 := by kernel_rfl
theorem cells121 {n : Nat} {cs : List Value} {x : DataW H × List MemPlace} (h : DataW.trod enc Tryz.prog w 0 (fun _ => true) true n 121 cs = some x) : ∃ a0 a1 : Int, cs = [.int .i64 a0, .int .i64 a1] := by
  obtain ⟨ys, n0, _, _, hlen, hyl, hf⟩ := DataW.trod_array Tryz.underlying121 h
  rw [c121] at hlen
  obtain ⟨k0, k1, rfl⟩ := list2 hlen
  have key : ∀ i, i < 2 → DataW.trod enc Tryz.prog w 0 (fun _ => true) true n0 3 (List.take 1 (List.drop i [k0, k1])) = ys[i]? := fun i hi => by
    have := hf i hi
    rwa [c3, Nat.mul_one] at this
  have f0 := key 0 (by omega)
  have f1 := key 1 (by omega)
  rw [List.getElem?_eq_getElem (by omega)] at f0 f1
  obtain ⟨b0, e0, _, _⟩ := DataW.trod_int Tryz.underlying3 f0
  obtain ⟨b1, e1, _, _⟩ := DataW.trod_int Tryz.underlying3 f1
  simp at e0 e1
  subst e0 e1
  exact ⟨b0, b1, rfl⟩
theorem open_sched {n : Nat} {sv : Value} {x : DataW H × List MemPlace} (h : DataW.trod enc Tryz.prog w 0 (fun _ => true) true n 24 [sv] = some x) : ∃ es, Rd w sv 6 (ensL es) := by
  obtain ⟨a, e, m, y, h2⟩ := cells24 h
  simp only [List.cons.injEq, and_true] at e
  subst e
  exact open_ens h2
theorem open_ses {n : Nat} {v : Value} {x : DataW H × List MemPlace} (h : DataW.trod enc Tryz.prog w 0 (fun _ => true) true n 57 [v] = some x) : ∃ l, Rd w v 4 (seL l) := by
  haveI : Inhabited Se := ⟨⟨0, false, 0, 0⟩⟩
  exact open_rows (cells := Se.cells) Tryz.underlying57 c62 (by decide) (fun _ => rfl) (fun _ _ _ h => by obtain ⟨a, b, c, d, rfl⟩ := cells62 h; exact ⟨⟨a, b, c, d⟩, rfl⟩) h
theorem open_ris {n : Nat} {v : Value} {x : DataW H × List MemPlace} (h : DataW.trod enc Tryz.prog w 0 (fun _ => true) true n 58 [v] = some x) : ∃ l, Rd w v 3 (riL l) := by
  haveI : Inhabited Ri := ⟨⟨⟨#[]⟩, 0, 0⟩⟩
  exact open_rows (cells := Ri.cells) Tryz.underlying58 c68 (by decide) (fun _ => rfl) (fun _ _ _ h => by obtain ⟨a, b, c, rfl⟩ := cells68 h; exact ⟨⟨a, b, c⟩, rfl⟩) h
theorem open_ints {n : Nat} {v : Value} {x : DataW H × List MemPlace} (h : DataW.trod enc Tryz.prog w 0 (fun _ => true) true n 44 [v] = some x) : ∃ l, Rd w v 1 (ints l) :=
  open_rows (α := Int) (cells := fun e => [.int .i64 e]) Tryz.underlying44 c3 (by decide) (fun _ => rfl) (fun _ _ _ h => by obtain ⟨a, rfl, _⟩ := DataW.trod_int Tryz.underlying3 h; exact ⟨a, rfl⟩) h
theorem open_sps {n : Nat} {v : Value} {x : DataW H × List MemPlace} (h : DataW.trod enc Tryz.prog w 0 (fun _ => true) true n 80 [v] = some x) : ∃ l, Rd w v 4 (spsL l) := by
  haveI : Inhabited Sp := ⟨⟨⟨#[]⟩, 0, 0, 0⟩⟩
  exact open_rows (cells := Sp.cells) Tryz.underlying80 c132 (by decide) (fun _ => rfl) (fun _ _ _ h => by obtain ⟨a, b, c, d, rfl⟩ := cells132 h; exact ⟨⟨a, b, c, d⟩, rfl⟩) h
theorem open_prs {n : Nat} {v : Value} {x : DataW H × List MemPlace} (h : DataW.trod enc Tryz.prog w 0 (fun _ => true) true n 81 [v] = some x) : ∃ l, Rd w v 2 (prsL l) :=
  open_rows (α := Int × Int) (cells := prV) Tryz.underlying81 c121 (by decide) (fun _ => rfl) (fun _ _ _ h => by obtain ⟨a, b, rfl⟩ := cells121 h; exact ⟨(a, b), rfl⟩) h
theorem open_brk {n : Nat} {cs : List Value} {x : DataW H × List MemPlace} (h : DataW.trod enc Tryz.prog w 0 (fun _ => true) true n 83 cs = some x) : ∃ (b : Br) (sv cv xv : Value), cs = [.int .i64 b.n, sv, cv, xv] ∧ Rd w sv 4 (spsL b.sp) ∧ Rd w cv 1 (ints b.cm) ∧ Rd w xv 2 (prsL b.ex) := by
  obtain ⟨a, sv, cv, xv, rfl, ⟨_, _, h1⟩, ⟨_, _, h2⟩, ⟨_, _, h3⟩⟩ := cells83 h
  obtain ⟨l1, r1⟩ := open_sps h1
  obtain ⟨l2, r2⟩ := open_ints h2
  obtain ⟨l3, r3⟩ := open_prs h3
  exact ⟨⟨a, l1, l2, l3⟩, sv, cv, xv, rfl, r1, r2, r3⟩
end
end Go.Proofs.A1

/- R1 -/
namespace Go.Proofs.A1
open Go Go.SL

def findS (l : List Sp) (s : ByteArray) (n : Nat) : Int := ((List.range n).find? fun i => decide ((nthS l i).nm = s)).elim (-1) (fun i => (i : Int))
theorem findS_le (l : List Sp) (s : ByteArray) (n : Nat) : decide (0 ≤ findS l s n) = knwS l n s := by
  unfold findS knwS
  cases h : (List.range n).find? fun i => decide ((nthS l i).nm = s) with
  | none =>
    have : (List.range n).any (fun i => decide ((nthS l i).nm = s)) = false := by
      rw [List.any_eq_false]
      exact List.find?_eq_none.1 h
    rw [this]; rfl
  | some i =>
    have : (List.range n).any (fun i => decide ((nthS l i).nm = s)) = true := by
      rw [List.any_eq_true]
      exact ⟨i, List.mem_of_find?_eq_some h, by simpa using List.find?_some h⟩
    rw [this]; simp
theorem findS_at {l : List Sp} {s : ByteArray} {k n : Nat} (h : ∀ i, i < k → ¬ (nthS l i).nm = s) (hk : k < n) (hs : (nthS l k).nm = s) : findS l s n = k := by
  unfold findS
  have : (List.range n).find? (fun i => decide ((nthS l i).nm = s)) = some k := by
    rw [List.find?_range_eq_some]
    exact ⟨by simpa using hs, by simpa using hk, fun i hi => by simpa using h i hi⟩
  rw [this]; rfl
theorem findS_none {l : List Sp} {s : ByteArray} {n : Nat} (h : ∀ i, i < n → ¬ (nthS l i).nm = s) : findS l s n = -1 := by
  unfold findS
  have : (List.range n).find? (fun i => decide ((nthS l i).nm = s)) = none := by
    rw [List.find?_eq_none]
    intro i hi
    simpa using h i (List.mem_range.1 hi)
  rw [this]; rfl
theorem findSQ_c {sv cv xv : Value} {b : Br} {w : World} (s : ByteArray) (n : Nat) (h1 : Rd w sv 4 (spsL b.sp)) (hone2 : cv.oneCell' = true) (hone3 : xv.oneCell' = true) (hn : n ≤ b.sp.length) :
    GivesV Tryz.prog 129 [.agg #[.int .i64 b.n, sv, cv, xv], .string s, .int .i64 n] w (.int .i64 (findS b.sp s n)) := by
  obtain ⟨a, cap, bb, o, rfl, hcap, hmax, ha, hc⟩ := h1
  rw [spsL_length] at *
  unfold maxLen at hmax
  refine givesV_of_tr Tryz.func129 rfl rfl ?_
  (refine s_r ?_; refine tr_new (rk_box (.of rfl) rfl) rfl (fun _ _ => ?_); refine a_s rfl rfl ?_; refine n_t ?_; refine tr_seq ?_; refine s_r ?_; refine a_s rfl rfl ?_; refine n_t ?_; refine tr_block ?_)
  rename_i b3 hb3
  refine tr_for (fun k : Nat => k ≤ n ∧ ∀ i, i < k → ¬ (nthS b.sp i).nm = s) (fun k => [(7, .int .i64 k), (1, .string s), (2, .int .i64 n), (3, .pointer (some ⟨b3, 0, none⟩))])
    (fun _ => [blk b3 (.cells #[.int .i64 b.n, .slice a b.sp.length cap, cv, xv] 83 (0, 0))]) (fun k => n - k) ?_ ?_
  · apply tr_start 0 ⟨by omega, fun i h => by omega⟩
    case hs1 => exact .cons rfl (.cons rfl (.cons rfl (.cons rfl .nil)))
    case ht => (try simp only [List.take_zero, List.map_nil, List.nil_append]); exact .cons .here .nil
  rintro k ⟨hk, hf⟩
  by_cases hlt : k < n
  · have ha' := ha (spsL_ne (k := k) (by omega))
    have hcell := (hc k _ (spsL_get (k := k) (by omega))).2 0 _ rfl
    (refine tr_seq ?_; refine s_r ?_; refine m_v rfl rfl ?_; refine m_v rfl rfl ?_; refine tr_val (rk_lss (.of rfl) (.of rfl)) rfl ?_; refine n_t ?_; refine c_d rfl (fun hcd => ?_) (fun _ => by omega); refine s_t ?_; refine tr_seq ?_; refine tr_block ?_; refine s_r ?_; refine f_a rfl rfl norm0_ ?_; refine tr_val (rk_load1 (.of rfl) (At.lit .here rfl)) rfl ?_; refine m_v rfl rfl ?_; refine tr_val (rk_indexAddr (.of rfl) (.of rfl) ha' (by omega) (by omega) norm1_) rfl ?_; refine f_a rfl rfl norm0_ ?_; refine tr_val (rk_load1 (.of rfl) (At.base hcell rfl)) rfl ?_; refine m_v rfl rfl ?_; refine tr_val (rk_eqls (.of rfl) (.of rfl)) rfl ?_; refine n_t ?_; refine c_d rfl (fun hcd => ?_) (fun hcd => ?_); refine s_r ?_; refine m_v rfl rfl ?_; refine a_s rfl rfl ?_; refine n_t ?_; refine tr_ret ?_; refine tr_blk_ret ?_; refine tr_then_ret ?_; refine tr_then_ret ?_; refine tr_blk_ret ?_; refine tr_then_ret ?_; refine tr_retE rfl (ends1 rfl rfl) ?_; rotate_left; refine tr_skip ?_; refine tr_blk_normal ?_; refine tr_then ?_; refine tr_region ?_; refine m_v rfl rfl ?_; refine tr_val (rk_add (.of rfl) (.of rfl) (ini (by omega))) rfl ?_; refine a_s rfl rfl ?_; refine n_t ?_; rotate_right)
    · rw [findS_at hf hlt hcd]
    · apply tr_next (k + 1) ⟨by omega, fun i hi => by
        by_cases e : i = k
        · rw [e]; exact hcd
        · exact hf i (by omega)⟩ (by omega)
      case hs1 => exact .cons rfl (.cons rfl (.cons rfl (.cons rfl .nil)))
      case ht => (try simp only [List.take_zero, List.map_nil, List.nil_append]); exact .cons .here .nil
  · obtain rfl : k = n := by omega
    (refine tr_seq ?_; refine s_r ?_; refine m_v rfl rfl ?_; refine m_v rfl rfl ?_; refine tr_val (rk_lss (.of rfl) (.of rfl)) rfl ?_; refine n_t ?_; refine c_d rfl (fun _ => by omega) (fun hcd => ?_); refine x_t ?_; refine tr_then_exit ?_; refine tr_blk_exit ?_; refine tr_then ?_; refine s_r ?_; refine a_s rfl rfl ?_; refine n_t ?_; refine tr_ret ?_; refine tr_retE rfl (ends1 rfl rfl) ?_)
    rw [findS_none hf]
theorem campQ_c {sv cv xv : Value} {b : Br} (n : Int) {w : World} (hone1 : sv.oneCell' = true) (h2 : Rd w cv 1 (ints b.cm)) (hone3 : xv.oneCell' = true) :
    GivesV Tryz.prog 130 [.agg #[.int .i64 b.n, sv, cv, xv], .int .i64 n] w (.int .i64 (campF b.cm.length n)) := by
  obtain ⟨a, cap, bb, o, rfl, hcap, hmax, ha, hc⟩ := h2
  rw [ints_length] at *
  unfold maxLen at hmax
  refine givesV_of_tr Tryz.func130 rfl rfl ?_
  (refine s_r ?_; refine tr_new (rk_box (.of rfl) rfl) rfl (fun _ _ => ?_); refine a_s rfl rfl ?_; refine n_r ?_; refine m_v rfl rfl ?_; refine tr_val (rk_lss (.of rfl) (.of rfl)) rfl ?_; refine m_v rfl rfl ?_; refine v_g rfl rfl rfl rfl ?_; refine tr_vG1 rfl rfl inferInstance (fun hg hgp => (rk_fieldAddr (.of rfl) norm0_)) rfl ?_; refine tr_vG1 rfl rfl inferInstance (fun hg hgp => (rk_load1 (.ofg hg rfl) (At.lit .here rfl))) rfl ?_; refine tr_vG1 rfl rfl inferInstance (fun hg hgp => (rk_len_slice (.ofg hg rfl))) rfl ?_; refine tr_vG1 rfl rfl inferInstance (fun hg hgp => (rk_geq (.ofg hg rfl) (.ofg hg rfl))) rfl ?_; refine tr_val (rk_pick_or (.of rfl) rfl) rfl ?_; refine tr_callV (rk_call (.of rfl) (.cons (.of rfl) (.cons (.of rfl) .nil)) inferInstance normc_) rfl (fun w' hm' => (when_q _ 10 w')) ?_; refine a_s rfl rfl ?_; refine n_t ?_; refine tr_ret ?_; refine tr_retE rfl (ends1 rfl rfl) ?_)
  rfl
def shortBr (b : Br) : Bool := (b.sp.all fun x => decide (x.nm.size ≤ 40)) && ((decide (b.sp.length ≤ 6) || decide (b.sp.length = 9)) && decide (b.cm.length ≤ 9) && decide (b.ex.length ≤ 17))
theorem shortBr_few {b : Br} (h : shortBr b = true) : b.sp.length ≤ 9 ∧ b.cm.length ≤ 9 ∧ b.ex.length ≤ 17 := by
  unfold shortBr at h
  simp only [Bool.and_eq_true, Bool.or_eq_true, decide_eq_true_eq] at h
  omega
theorem shortBr_c {sv cv xv : Value} {b : Br} {w : World} (h1 : Rd w sv 4 (spsL b.sp)) (h2 : Rd w cv 1 (ints b.cm)) (h3 : Rd w xv 2 (prsL b.ex)) :
    GivesV Tryz.prog 43 [.agg #[.int .i64 b.n, sv, cv, xv]] w (.bool (shortBr b)) := by
  obtain ⟨a, cap, bb, o, rfl, hcap, hmax, ha, hc⟩ := h1
  obtain ⟨a2, cap2, bb2, o2, rfl, hcap2, hmax2, ha2, hc2⟩ := h2
  obtain ⟨a3, cap3, bb3, o3, rfl, hcap3, hmax3, ha3, hc3⟩ := h3
  rw [spsL_length] at *
  rw [ints_length] at *
  rw [prsL_length] at *
  unfold maxLen at hmax hmax2 hmax3
  refine givesV_of_tr Tryz.func43 rfl rfl ?_
  (refine s_r ?_; refine tr_new (rk_box (.of rfl) rfl) rfl (fun _ _ => ?_); refine a_s rfl rfl ?_; refine n_t ?_; refine tr_seq ?_; refine s_r ?_; refine a_s rfl rfl ?_; refine n_t ?_; refine tr_block ?_)
  rename_i b1 hb1
  refine tr_for (fun k : Nat => k ≤ b.sp.length ∧ ∀ i (hi : i < k) (hl : i < b.sp.length), b.sp[i].nm.size ≤ 40) (fun k => [(3, .int .i64 k), (1, .pointer (some ⟨b1, 0, none⟩))])
    (fun _ => [blk b1 (.cells #[.int .i64 b.n, .slice a b.sp.length cap, .slice a2 b.cm.length cap2, .slice a3 b.ex.length cap3] 83 (0, 0))]) (fun k => b.sp.length - k) ?_ ?_
  · apply tr_start 0 ⟨Nat.zero_le _, fun i h => by omega⟩
    case hs1 => exact .cons rfl (.cons rfl .nil)
    case ht => (try simp only [List.take_zero, List.map_nil, List.nil_append]); exact .cons .here .nil
  rintro k ⟨hk, hf⟩
  by_cases hlt : k < b.sp.length
  · have ha' := ha (spsL_ne hlt)
    have hcell := (hc k _ (spsL_get hlt)).2 0 _ rfl
    have hnk := nthS_eq hlt
    rw [hnk] at hcell
    (refine tr_seq ?_; refine s_r ?_; refine m_v rfl rfl ?_; refine f_a rfl rfl norm0_ ?_; refine tr_val (rk_load1 (.of rfl) (At.lit .here rfl)) rfl ?_; refine tr_val (rk_len_slice (.of rfl)) rfl ?_; refine tr_val (rk_lss (.of rfl) (.of rfl)) rfl ?_; refine n_t ?_; refine c_d rfl (fun hcd => ?_) (fun _ => by omega); refine s_t ?_; refine tr_seq ?_; refine tr_block ?_; refine s_r ?_; refine f_a rfl rfl norm0_ ?_; refine tr_val (rk_load1 (.of rfl) (At.lit .here rfl)) rfl ?_; refine m_v rfl rfl ?_; refine tr_val (rk_indexAddr (.of rfl) (.of rfl) ha' (by omega) hcd norm1_) rfl ?_; refine f_a rfl rfl norm0_ ?_; refine tr_val (rk_load1 (.of rfl) (At.base hcell rfl)) rfl ?_; refine tr_val (rk_len_string (.of rfl)) rfl ?_; refine tr_val (rk_gtr (.of rfl) (.of rfl)) rfl ?_; refine n_t ?_; refine c_d rfl (fun hcd => ?_) (fun hcd => ?_); refine s_r ?_; refine a_s rfl rfl ?_; refine n_t ?_; refine tr_ret ?_; refine tr_blk_ret ?_; refine tr_then_ret ?_; refine tr_then_ret ?_; refine tr_blk_ret ?_; refine tr_then_ret ?_; refine tr_retE rfl (ends1 rfl rfl) ?_; rotate_left; refine tr_skip ?_; refine tr_blk_normal ?_; refine tr_then ?_; refine tr_region ?_; refine m_v rfl rfl ?_; refine tr_val (rk_add (.of rfl) (.of rfl) (ini (by omega))) rfl ?_; refine a_s rfl rfl ?_; refine n_t ?_; rotate_right)
    · have : (b.sp.all fun x => decide (x.nm.size ≤ 40)) = false := by
        rw [List.all_eq_false]
        refine ⟨b.sp[k], List.getElem_mem hlt, ?_⟩
        simp only [decide_eq_true_eq]
        omega
      rw [shortBr, this]; rfl
    · apply tr_next (k + 1) ⟨by omega, fun i hi hl => by
        by_cases e : i = k
        · subst e; omega
        · exact hf i (by omega) hl⟩ (by omega)
      case hs1 => exact .cons rfl (.cons rfl .nil)
      case ht => (try simp only [List.take_zero, List.map_nil, List.nil_append]); exact .cons .here .nil
  · obtain rfl : k = b.sp.length := by omega
    have hall : (b.sp.all fun x => decide (x.nm.size ≤ 40)) = true := by
      rw [List.all_eq_true]
      intro x hx
      obtain ⟨i, hi, rfl⟩ := List.getElem_of_mem hx
      exact decide_eq_true (hf i hi hi)
    (refine tr_seq ?_; refine s_r ?_; refine m_v rfl rfl ?_; refine f_a rfl rfl norm0_ ?_; refine tr_val (rk_load1 (.of rfl) (At.lit .here rfl)) rfl ?_; refine tr_val (rk_len_slice (.of rfl)) rfl ?_; refine tr_val (rk_lss (.of rfl) (.of rfl)) rfl ?_; refine n_t ?_; refine c_d rfl (fun _ => by omega) (fun hcd => ?_); refine x_t ?_; refine tr_then_exit ?_; refine tr_blk_exit ?_; refine tr_then ?_; refine s_r ?_; refine f_a rfl rfl norm0_ ?_; refine tr_val (rk_load1 (.of rfl) (At.lit .here rfl)) rfl ?_; refine tr_val (rk_len_slice (.of rfl)) rfl ?_; refine tr_val (rk_leq (.of rfl) (.of rfl)) rfl ?_; refine m_v rfl rfl ?_; refine tr_vG1 rfl rfl inferInstance (fun hg hgp => (rk_fieldAddr (.of rfl) norm0_)) rfl ?_; refine tr_vG1 rfl rfl inferInstance (fun hg hgp => (rk_load1 (.ofg hg rfl) (At.lit .here rfl))) rfl ?_; refine tr_vG1 rfl rfl inferInstance (fun hg hgp => (rk_len_slice (.ofg hg rfl))) rfl ?_; refine tr_vG1 rfl rfl inferInstance (fun hg hgp => (rk_eql (.ofg hg rfl) (.of rfl))) rfl ?_; refine tr_val (rk_pick_or (.of rfl) rfl) rfl ?_; refine m_v rfl rfl ?_; refine tr_vG1 rfl rfl inferInstance (fun hg hgp => (rk_fieldAddr (.of rfl) norm0_)) rfl ?_; refine tr_vG1 rfl rfl inferInstance (fun hg hgp => (rk_load1 (.ofg hg rfl) (At.lit .here rfl))) rfl ?_; refine tr_vG1 rfl rfl inferInstance (fun hg hgp => (rk_len_slice (.ofg hg rfl))) rfl ?_; refine tr_vG1 rfl rfl inferInstance (fun hg hgp => (rk_leq (.ofg hg rfl) (.of rfl))) rfl ?_; refine tr_val (rk_pick_and (.of rfl) rfl) rfl ?_; refine m_v rfl rfl ?_; refine tr_vG1 rfl rfl inferInstance (fun hg hgp => (rk_fieldAddr (.of rfl) norm0_)) rfl ?_; refine tr_vG1 rfl rfl inferInstance (fun hg hgp => (rk_load1 (.ofg hg rfl) (At.lit .here rfl))) rfl ?_; refine tr_vG1 rfl rfl inferInstance (fun hg hgp => (rk_len_slice (.ofg hg rfl))) rfl ?_; refine tr_vG1 rfl rfl inferInstance (fun hg hgp => (rk_leq (.ofg hg rfl) (.of rfl))) rfl ?_; refine tr_val (rk_pick_and (.of rfl) rfl) rfl ?_; refine a_s rfl rfl ?_; refine n_t ?_; refine tr_ret ?_; refine tr_retE rfl (ends1 rfl rfl) ?_)
    rw [shortBr, hall, Bool.true_and]
    have e1 : decide ((b.sp.length : Int) ≤ 6) = decide (b.sp.length ≤ 6) := decide_eq_decide.2 (by omega)
    have e2 : decide ((b.sp.length : Int) = 9) = decide (b.sp.length = 9) := decide_eq_decide.2 (by omega)
    have e3 : decide ((b.cm.length : Int) ≤ 9) = decide (b.cm.length ≤ 9) := decide_eq_decide.2 (by omega)
    have e4 : decide ((b.ex.length : Int) ≤ 17) = decide (b.ex.length ≤ 17) := decide_eq_decide.2 (by omega)
    rw [e1, e2, e3, e4]
end Go.Proofs.A1
