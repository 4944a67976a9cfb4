/-
  NARROWER THAN 'FOR EVERY INPUT', by the rows' own cells (each row's printed sentence says how): TopPedestalTitles: laid · TopCraneLabelled: laid.
  DERIVED. THE GIVEN ROWS OF THIS SEAT. 2 by the template 'for every input the law returns true; each argument reads behind the call as it read before'; 0 by the template 'total and deterministic' (their statements: YthhidjfahmcekaaDoorTotals.lean).
  GIVEN WITH THE SEED: the statements are not yours to turn. If you find one false, say at which input.
  Laid BY PROGRAM, IN A SANDBOX (cutbox-rows.mjs): the forced cells as the released guide's own fill.sh prints them over the translation e8e2a2674f64dfc1… (all of the seat's roots in one cut). By AI agents, Wed Nov 11 2026. No macro, syntax, notation, axiom, sorry.
-/
import Derived.Test.YthhidjfahmcekaaDoorChecked
import GoSem.Claim
import GoSem.ClaimJoined
import GoSem.ClaimMapViews
import Derived.JoinedTies
import Derived.KernelRfl
namespace Go.Proofs.YthhidjfahmcekaaDoor
/- THE CELL 'sum', in the pinned program and in every row, IS THE sha256 OF THE DUMP (.gsa) THAT YthhidjfahmcekaaDoorProg.lean LOADS. Nothing in Lean hashes anything: it is a label: what it is worth is what the hold of that sum in a sandbox is worth. -/
noncomputable def Tryd.pinned : Pinned := { name := "ythhidjfahmcekaadoor", sum := "e8e2a2674f64dfc1e18f198caab542cc503079e9b52dc2a6c04081a0bf825e97", checked := Tryd.checked }
namespace Rows
def none {H : Type} : Left H := { results := [], args := [] }

/- WHAT THE LISTED PACKAGE-LEVEL VARIABLES READ AS WHEN THE CALL BEGINS. Each datum BY PROGRAM (the guide's laid-datum.mjs) off the statement by which the dump's own 'gosem.cut.vars' lays the variable. In a bare row this is a premise. The card (YthhidjfahmcekaaDoorCards.lean) ties it to the program's text. -/
def laid_genlock_code_rates {H : Type} : DataW H := .agg [.lit (.int .i64 24), .lit (.int .i64 25), .lit (.int .i64 30)]
def laid_genlock_schedule_names {H : Type} : DataW H := .agg [.lit (.string [102, 105, 120, 101, 100]), .lit (.string [102, 111, 108, 108, 111, 119, 105, 110, 103]), .lit (.string [109, 97, 110, 117, 97, 108])]

/-- 'genlocktop.TopPedestalTitles': WHATEVER THE INPUT: true; the input reads as it did. -/
def topPedestalTitlesSpec : ChangeSpec := { name := "topPedestalTitles", fn := fun _ => fun
  | [d1, d2] => { results := [.lit (.bool true)], args := [d1, d2] }
  | _ => none }
def topPedestalTitlesRow : OpenClaim := { program := "ythhidjfahmcekaadoor", sum := "e8e2a2674f64dfc1e18f198caab542cc503079e9b52dc2a6c04081a0bf825e97", func := "genlock/genlocktop.TopPedestalTitles", spec := "topPedestalTitles", unfollowed := true, recurses := true, named := ["genlock/code.rates"], apart := false, laid := [("genlock/code.rates", laid_genlock_code_rates)] }
def TopPedestalTitlesSaid : Prop := topPedestalTitlesRow.holds Tryd.pinned (OpenSpec.ofChange topPedestalTitlesSpec)

/-- ITS FALSE NEIGHBOUR: 'it returns false'. Refute it at one input. -/
def topPedestalTitlesWrong : ChangeSpec := { name := "topPedestalTitles", fn := fun _ => fun
  | [d1, d2] => { results := [.lit (.bool false)], args := [d1, d2] }
  | _ => none }
def TopPedestalTitlesWrongFalsely : Prop := topPedestalTitlesRow.holds Tryd.pinned (OpenSpec.ofChange topPedestalTitlesWrong)

/-- 'genlocktop.TopCraneLabelled': WHATEVER THE INPUT: true; the input reads as it did. -/
def topCraneLabelledSpec : ChangeSpec := { name := "topCraneLabelled", fn := fun _ => fun
  | [d1, d2, d3] => { results := [.lit (.bool true)], args := [d1, d2, d3] }
  | _ => none }
def topCraneLabelledRow : OpenClaim := { program := "ythhidjfahmcekaadoor", sum := "e8e2a2674f64dfc1e18f198caab542cc503079e9b52dc2a6c04081a0bf825e97", func := "genlock/genlocktop.TopCraneLabelled", spec := "topCraneLabelled", unfollowed := true, recurses := true, named := ["genlock/schedule.names", "genlock/code.rates"], apart := false, laid := [("genlock/code.rates", laid_genlock_code_rates), ("genlock/schedule.names", laid_genlock_schedule_names)] }
def TopCraneLabelledSaid : Prop := topCraneLabelledRow.holds Tryd.pinned (OpenSpec.ofChange topCraneLabelledSpec)

/-- ITS FALSE NEIGHBOUR: 'it returns false'. Refute it at one input. -/
def topCraneLabelledWrong : ChangeSpec := { name := "topCraneLabelled", fn := fun _ => fun
  | [d1, d2, d3] => { results := [.lit (.bool false)], args := [d1, d2, d3] }
  | _ => none }
def TopCraneLabelledWrongFalsely : Prop := topCraneLabelledRow.holds Tryd.pinned (OpenSpec.ofChange topCraneLabelledWrong)

/- THE SECOND FORM. 'bulk': how many values and letters a reading holds, each counted each time it is reached (what is shared counts as often as it is met; a slice's spare places count too). A statement '..UptoSaid' is the law's where the arguments, and the package variables that the reading takes, are together of bulk at most 1048576: NARROWER than '..Said'. Prove '..Said' where nothing that the law and all that it calls make is longer than what came in: it says more and counts as full. Else prove '..UptoSaid'. A law counts once. -/
mutual
def uptoBulk {H : Type} : DataW H → Nat
  | .lit (.string bytes) => bytes.length + 1
  | .lit _ => 1
  | .nil => 1
  | .ptr d => uptoBulk d + 1
  | .slice elems spare => uptoBulkAll elems + uptoBulkAll spare + 1
  | .agg parts => uptoBulkAll parts + 1
  | .iface _ d => uptoBulk d + 1
  | .map entries => uptoBulkEntries entries + 1
  | .held _ => 1
def uptoBulkAll {H : Type} : List (DataW H) → Nat
  | [] => 0
  | d :: r => uptoBulk d + uptoBulkAll r
def uptoBulkEntries {H : Type} : List (Lit × DataW H) → Nat
  | [] => 0
  | x :: r => uptoBulkEntry x + uptoBulkEntries r
def uptoBulkEntry {H : Type} : Lit × DataW H → Nat
  | (.string bytes, d) => bytes.length + uptoBulk d + 1
  | (_, d) => uptoBulk d + 1
 end
def uptoSmall : (H : Type) → List (DataW H) → Bool := fun _ ds => decide (uptoBulkAll ds ≤ 1048576)
def OpenSpec.upto (s : _root_.Go.ChangeSpec) : _root_.Go.OpenSpec := { _root_.Go.OpenSpec.ofChange s with cond := some uptoSmall }

/-- 'genlocktop.TopPedestalTitles', WHERE WHAT IT READS IS OF BULK AT MOST 1048576: true; the input reads as it did. -/
def topPedestalTitlesUptoRow : OpenClaim := { program := "ythhidjfahmcekaadoor", sum := "e8e2a2674f64dfc1e18f198caab542cc503079e9b52dc2a6c04081a0bf825e97", func := "genlock/genlocktop.TopPedestalTitles", spec := "topPedestalTitles", unfollowed := true, recurses := true, named := ["genlock/code.rates"], apart := false, laid := [("genlock/code.rates", laid_genlock_code_rates)], narrowed := true }
def TopPedestalTitlesUptoSaid : Prop := topPedestalTitlesUptoRow.holds Tryd.pinned (OpenSpec.upto topPedestalTitlesSpec)

/-- 'genlocktop.TopCraneLabelled', WHERE WHAT IT READS IS OF BULK AT MOST 1048576: true; the input reads as it did. -/
def topCraneLabelledUptoRow : OpenClaim := { program := "ythhidjfahmcekaadoor", sum := "e8e2a2674f64dfc1e18f198caab542cc503079e9b52dc2a6c04081a0bf825e97", func := "genlock/genlocktop.TopCraneLabelled", spec := "topCraneLabelled", unfollowed := true, recurses := true, named := ["genlock/schedule.names", "genlock/code.rates"], apart := false, laid := [("genlock/code.rates", laid_genlock_code_rates), ("genlock/schedule.names", laid_genlock_schedule_names)], narrowed := true }
def TopCraneLabelledUptoSaid : Prop := topCraneLabelledUptoRow.holds Tryd.pinned (OpenSpec.upto topCraneLabelledSpec)

end Rows
end Go.Proofs.YthhidjfahmcekaaDoor
