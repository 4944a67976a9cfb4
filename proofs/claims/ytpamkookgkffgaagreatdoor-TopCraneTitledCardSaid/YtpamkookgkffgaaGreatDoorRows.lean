/-
  NARROWER THAN 'FOR EVERY INPUT', by the rows' own cells (each row's printed sentence says how): TopCraneTitled: laid.
  DERIVED. THE GIVEN ROWS OF THIS SEAT. 1 by the template 'for every input the law returns true; each argument reads behind the call as it read before'; 0 by the template 'total and deterministic' (their statements: YtpamkookgkffgaaGreatDoorTotals.lean).
  GIVEN WITH THE SEED: the statements are not yours to turn. If you find one false, say at which input.
  Laid BY PROGRAM, IN A SANDBOX (cutbox-rows.mjs): the forced cells as the released guide's own fill.sh prints them over the translation 6fa533eb9e4eb8c9… (all of the seat's roots in one cut). By AI agents, Wed Nov 11 2026. No macro, syntax, notation, axiom, sorry.
-/
import Derived.Test.YtpamkookgkffgaaGreatDoorChecked
import GoSem.Claim
import GoSem.ClaimJoined
import GoSem.ClaimMapViews
import Derived.JoinedTies
import Derived.KernelRfl
namespace Go.Proofs.YtpamkookgkffgaaGreatDoor
/- THE CELL 'sum', in the pinned program and in every row, IS THE sha256 OF THE DUMP (.gsa) THAT YtpamkookgkffgaaGreatDoorProg.lean LOADS. Nothing in Lean hashes anything: it is a label: what it is worth is what the hold of that sum in a sandbox is worth. -/
noncomputable def Tryz.pinned : Pinned := { name := "ytpamkookgkffgaagreatdoor", sum := "6fa533eb9e4eb8c9ea06454b7167cef177d19ddcb03474426e10f4da738124b9", checked := Tryz.checked }
namespace Rows
def none {H : Type} : Left H := { results := [], args := [] }

/- WHAT THE LISTED PACKAGE-LEVEL VARIABLES READ AS WHEN THE CALL BEGINS. Each datum BY PROGRAM (the guide's laid-datum.mjs) off the statement by which the dump's own 'gosem.cut.vars' lays the variable. In a bare row this is a premise. The card (YtpamkookgkffgaaGreatDoorCards.lean) ties it to the program's text. -/
def laid_genlock_code_rates {H : Type} : DataW H := .agg [.lit (.int .i64 24), .lit (.int .i64 25), .lit (.int .i64 30)]
def laid_genlock_schedule_names {H : Type} : DataW H := .agg [.lit (.string [102, 105, 120, 101, 100]), .lit (.string [102, 111, 108, 108, 111, 119, 105, 110, 103]), .lit (.string [109, 97, 110, 117, 97, 108])]

/-- 'genlocktop.TopCraneTitled': WHATEVER THE INPUT: true; the input reads as it did. -/
def topCraneTitledSpec : ChangeSpec := { name := "topCraneTitled", fn := fun _ => fun
  | [d1, d2, d3] => { results := [.lit (.bool true)], args := [d1, d2, d3] }
  | _ => none }
def topCraneTitledRow : OpenClaim := { program := "ytpamkookgkffgaagreatdoor", sum := "6fa533eb9e4eb8c9ea06454b7167cef177d19ddcb03474426e10f4da738124b9", func := "genlock/genlocktop.TopCraneTitled", spec := "topCraneTitled", unfollowed := true, recurses := true, named := ["genlock/schedule.names", "genlock/code.rates"], apart := false, laid := [("genlock/code.rates", laid_genlock_code_rates), ("genlock/schedule.names", laid_genlock_schedule_names)] }
def TopCraneTitledSaid : Prop := topCraneTitledRow.holds Tryz.pinned (OpenSpec.ofChange topCraneTitledSpec)

/-- ITS FALSE NEIGHBOUR: 'it returns false'. Refute it at one input. -/
def topCraneTitledWrong : ChangeSpec := { name := "topCraneTitled", fn := fun _ => fun
  | [d1, d2, d3] => { results := [.lit (.bool false)], args := [d1, d2, d3] }
  | _ => none }
def TopCraneTitledWrongFalsely : Prop := topCraneTitledRow.holds Tryz.pinned (OpenSpec.ofChange topCraneTitledWrong)

/- THE SECOND FORM. 'bulk': how many values and letters a reading holds, each counted each time it is reached (what is shared counts as often as it is met; a slice's spare places count too). A statement '..UptoSaid' is the law's where the arguments, and the package variables that the reading takes, are together of bulk at most 1048576: NARROWER than '..Said'. Prove '..Said' where nothing that the law and all that it calls make is longer than what came in: it says more and counts as full. Else prove '..UptoSaid'. A law counts once. -/
mutual
def uptoBulk {H : Type} : DataW H → Nat
  | .lit (.string bytes) => bytes.length + 1
  | .lit _ => 1
  | .nil => 1
  | .ptr d => uptoBulk d + 1
  | .slice elems spare => uptoBulkAll elems + uptoBulkAll spare + 1
  | .agg parts => uptoBulkAll parts + 1
  | .iface _ d => uptoBulk d + 1
  | .map entries => uptoBulkEntries entries + 1
  | .held _ => 1
def uptoBulkAll {H : Type} : List (DataW H) → Nat
  | [] => 0
  | d :: r => uptoBulk d + uptoBulkAll r
def uptoBulkEntries {H : Type} : List (Lit × DataW H) → Nat
  | [] => 0
  | x :: r => uptoBulkEntry x + uptoBulkEntries r
def uptoBulkEntry {H : Type} : Lit × DataW H → Nat
  | (.string bytes, d) => bytes.length + uptoBulk d + 1
  | (_, d) => uptoBulk d + 1
 end
def uptoSmall : (H : Type) → List (DataW H) → Bool := fun _ ds => decide (uptoBulkAll ds ≤ 1048576)
def OpenSpec.upto (s : _root_.Go.ChangeSpec) : _root_.Go.OpenSpec := { _root_.Go.OpenSpec.ofChange s with cond := some uptoSmall }

/-- 'genlocktop.TopCraneTitled', WHERE WHAT IT READS IS OF BULK AT MOST 1048576: true; the input reads as it did. -/
def topCraneTitledUptoRow : OpenClaim := { program := "ytpamkookgkffgaagreatdoor", sum := "6fa533eb9e4eb8c9ea06454b7167cef177d19ddcb03474426e10f4da738124b9", func := "genlock/genlocktop.TopCraneTitled", spec := "topCraneTitled", unfollowed := true, recurses := true, named := ["genlock/schedule.names", "genlock/code.rates"], apart := false, laid := [("genlock/code.rates", laid_genlock_code_rates), ("genlock/schedule.names", laid_genlock_schedule_names)], narrowed := true }
def TopCraneTitledUptoSaid : Prop := topCraneTitledUptoRow.holds Tryz.pinned (OpenSpec.upto topCraneTitledSpec)

end Rows
end Go.Proofs.YtpamkookgkffgaaGreatDoor
