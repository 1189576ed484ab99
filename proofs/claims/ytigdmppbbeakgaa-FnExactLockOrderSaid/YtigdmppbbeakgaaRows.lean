/-
  No cell of these rows narrows 'for every input' (looked for: loops, veiled, ifaces, maps, wideKeys, modest, calm, conditions, laid).
  DERIVED. THE GIVEN ROWS OF THIS SEAT. 12 by the template 'for every input the law returns true; each argument reads behind the call as it read before'; 0 by the template 'total and deterministic' (their statements: YtigdmppbbeakgaaTotals.lean).
  GIVEN WITH THE SEED: the statements are not yours to turn. If you find one false, say at which input.
  Laid BY PROGRAM, IN A SANDBOX (cutbox-rows.mjs): the forced cells as the released guide's own fill.sh prints them over the translation 5a571b2519467ae4… (all of the seat's roots in one cut). By AI agents, Wed Nov 11 2026. No macro, syntax, notation, axiom, sorry.
-/
import Derived.Test.YtigdmppbbeakgaaChecked
import GoSem.Claim
import GoSem.ClaimJoined
import GoSem.ClaimMapViews
import Derived.JoinedTies
import Derived.KernelRfl
namespace Go.Proofs.Ytigdmppbbeakgaa
/- THE CELL 'sum', in the pinned program and in every row, IS THE sha256 OF THE DUMP (.gsa) THAT YtigdmppbbeakgaaProg.lean LOADS. Nothing in Lean hashes anything: it is a label: what it is worth is what the hold of that sum in a sandbox is worth. -/
noncomputable def Try.pinned : Pinned := { name := "ytigdmppbbeakgaa", sum := "5a571b2519467ae4727bbd1802c1c2fd68c3877b025cb7ccc1a7e1ed5f0a6e19", checked := Try.checked }
namespace Rows
def none {H : Type} : Left H := { results := [], args := [] }

/-- 'laws.FnExactRegimeOk': WHATEVER THE INPUT: true; the input reads as it did. -/
def fnExactRegimeOkSpec : ChangeSpec := { name := "fnExactRegimeOk", fn := fun _ => fun
  | [d] => { results := [.lit (.bool true)], args := [d] }
  | _ => none }
def fnExactRegimeOkRow : OpenClaim := { program := "ytigdmppbbeakgaa", sum := "5a571b2519467ae4727bbd1802c1c2fd68c3877b025cb7ccc1a7e1ed5f0a6e19", func := "loop.example/g00831/laws.FnExactRegimeOk", spec := "fnExactRegimeOk", apart := false }
def FnExactRegimeOkSaid : Prop := fnExactRegimeOkRow.holds Try.pinned (OpenSpec.ofChange fnExactRegimeOkSpec)

/-- ITS FALSE NEIGHBOUR: 'it returns false'. Refute it at one input. -/
def fnExactRegimeOkWrong : ChangeSpec := { name := "fnExactRegimeOk", fn := fun _ => fun
  | [d] => { results := [.lit (.bool false)], args := [d] }
  | _ => none }
def FnExactRegimeOkWrongFalsely : Prop := fnExactRegimeOkRow.holds Try.pinned (OpenSpec.ofChange fnExactRegimeOkWrong)

/-- 'laws.FnExactOverlaps': WHATEVER THE INPUT: true; the input reads as it did. -/
def fnExactOverlapsSpec : ChangeSpec := { name := "fnExactOverlaps", fn := fun _ => fun
  | [d1, d2] => { results := [.lit (.bool true)], args := [d1, d2] }
  | _ => none }
def fnExactOverlapsRow : OpenClaim := { program := "ytigdmppbbeakgaa", sum := "5a571b2519467ae4727bbd1802c1c2fd68c3877b025cb7ccc1a7e1ed5f0a6e19", func := "loop.example/g00831/laws.FnExactOverlaps", spec := "fnExactOverlaps", apart := false }
def FnExactOverlapsSaid : Prop := fnExactOverlapsRow.holds Try.pinned (OpenSpec.ofChange fnExactOverlapsSpec)

/-- ITS FALSE NEIGHBOUR: 'it returns false'. Refute it at one input. -/
def fnExactOverlapsWrong : ChangeSpec := { name := "fnExactOverlaps", fn := fun _ => fun
  | [d1, d2] => { results := [.lit (.bool false)], args := [d1, d2] }
  | _ => none }
def FnExactOverlapsWrongFalsely : Prop := fnExactOverlapsRow.holds Try.pinned (OpenSpec.ofChange fnExactOverlapsWrong)

/-- 'laws.FnExactConflictName': WHATEVER THE INPUT: true; the input reads as it did. -/
def fnExactConflictNameSpec : ChangeSpec := { name := "fnExactConflictName", fn := fun _ => fun
  | [d] => { results := [.lit (.bool true)], args := [d] }
  | _ => none }
def fnExactConflictNameRow : OpenClaim := { program := "ytigdmppbbeakgaa", sum := "5a571b2519467ae4727bbd1802c1c2fd68c3877b025cb7ccc1a7e1ed5f0a6e19", func := "loop.example/g00831/laws.FnExactConflictName", spec := "fnExactConflictName", apart := false }
def FnExactConflictNameSaid : Prop := fnExactConflictNameRow.holds Try.pinned (OpenSpec.ofChange fnExactConflictNameSpec)

/-- ITS FALSE NEIGHBOUR: 'it returns false'. Refute it at one input. -/
def fnExactConflictNameWrong : ChangeSpec := { name := "fnExactConflictName", fn := fun _ => fun
  | [d] => { results := [.lit (.bool false)], args := [d] }
  | _ => none }
def FnExactConflictNameWrongFalsely : Prop := fnExactConflictNameRow.holds Try.pinned (OpenSpec.ofChange fnExactConflictNameWrong)

/-- 'laws.FnExactChamberOk': WHATEVER THE INPUT: true; the input reads as it did. -/
def fnExactChamberOkSpec : ChangeSpec := { name := "fnExactChamberOk", fn := fun _ => fun
  | [d] => { results := [.lit (.bool true)], args := [d] }
  | _ => none }
def fnExactChamberOkRow : OpenClaim := { program := "ytigdmppbbeakgaa", sum := "5a571b2519467ae4727bbd1802c1c2fd68c3877b025cb7ccc1a7e1ed5f0a6e19", func := "loop.example/g00831/laws.FnExactChamberOk", spec := "fnExactChamberOk", apart := false }
def FnExactChamberOkSaid : Prop := fnExactChamberOkRow.holds Try.pinned (OpenSpec.ofChange fnExactChamberOkSpec)

/-- ITS FALSE NEIGHBOUR: 'it returns false'. Refute it at one input. -/
def fnExactChamberOkWrong : ChangeSpec := { name := "fnExactChamberOk", fn := fun _ => fun
  | [d] => { results := [.lit (.bool false)], args := [d] }
  | _ => none }
def FnExactChamberOkWrongFalsely : Prop := fnExactChamberOkRow.holds Try.pinned (OpenSpec.ofChange fnExactChamberOkWrong)

/-- 'laws.FnExactStricterRegime': WHATEVER THE INPUT: true; the input reads as it did. -/
def fnExactStricterRegimeSpec : ChangeSpec := { name := "fnExactStricterRegime", fn := fun _ => fun
  | [d1, d2] => { results := [.lit (.bool true)], args := [d1, d2] }
  | _ => none }
def fnExactStricterRegimeRow : OpenClaim := { program := "ytigdmppbbeakgaa", sum := "5a571b2519467ae4727bbd1802c1c2fd68c3877b025cb7ccc1a7e1ed5f0a6e19", func := "loop.example/g00831/laws.FnExactStricterRegime", spec := "fnExactStricterRegime", apart := false }
def FnExactStricterRegimeSaid : Prop := fnExactStricterRegimeRow.holds Try.pinned (OpenSpec.ofChange fnExactStricterRegimeSpec)

/-- ITS FALSE NEIGHBOUR: 'it returns false'. Refute it at one input. -/
def fnExactStricterRegimeWrong : ChangeSpec := { name := "fnExactStricterRegime", fn := fun _ => fun
  | [d1, d2] => { results := [.lit (.bool false)], args := [d1, d2] }
  | _ => none }
def FnExactStricterRegimeWrongFalsely : Prop := fnExactStricterRegimeRow.holds Try.pinned (OpenSpec.ofChange fnExactStricterRegimeWrong)

/-- 'laws.FnExactStayingMoves': WHATEVER THE INPUT: true; the input reads as it did. -/
def fnExactStayingMovesSpec : ChangeSpec := { name := "fnExactStayingMoves", fn := fun _ => fun
  | [] => { results := [.lit (.bool true)], args := [] }
  | _ => none }
def fnExactStayingMovesRow : OpenClaim := { program := "ytigdmppbbeakgaa", sum := "5a571b2519467ae4727bbd1802c1c2fd68c3877b025cb7ccc1a7e1ed5f0a6e19", func := "loop.example/g00831/laws.FnExactStayingMoves", spec := "fnExactStayingMoves", apart := false }
def FnExactStayingMovesSaid : Prop := fnExactStayingMovesRow.holds Try.pinned (OpenSpec.ofChange fnExactStayingMovesSpec)

/-- ITS FALSE NEIGHBOUR: 'it returns false'. Refute it at one input. -/
def fnExactStayingMovesWrong : ChangeSpec := { name := "fnExactStayingMoves", fn := fun _ => fun
  | [] => { results := [.lit (.bool false)], args := [] }
  | _ => none }
def FnExactStayingMovesWrongFalsely : Prop := fnExactStayingMovesRow.holds Try.pinned (OpenSpec.ofChange fnExactStayingMovesWrong)

/-- 'laws.FnExactLockingTime': WHATEVER THE INPUT: true; the input reads as it did. -/
def fnExactLockingTimeSpec : ChangeSpec := { name := "fnExactLockingTime", fn := fun _ => fun
  | [d1, d2] => { results := [.lit (.bool true)], args := [d1, d2] }
  | _ => none }
def fnExactLockingTimeRow : OpenClaim := { program := "ytigdmppbbeakgaa", sum := "5a571b2519467ae4727bbd1802c1c2fd68c3877b025cb7ccc1a7e1ed5f0a6e19", func := "loop.example/g00831/laws.FnExactLockingTime", spec := "fnExactLockingTime", apart := false }
def FnExactLockingTimeSaid : Prop := fnExactLockingTimeRow.holds Try.pinned (OpenSpec.ofChange fnExactLockingTimeSpec)

/-- ITS FALSE NEIGHBOUR: 'it returns false'. Refute it at one input. -/
def fnExactLockingTimeWrong : ChangeSpec := { name := "fnExactLockingTime", fn := fun _ => fun
  | [d1, d2] => { results := [.lit (.bool false)], args := [d1, d2] }
  | _ => none }
def FnExactLockingTimeWrongFalsely : Prop := fnExactLockingTimeRow.holds Try.pinned (OpenSpec.ofChange fnExactLockingTimeWrong)

/-- 'laws.FnExactLengthsOk': WHATEVER THE INPUT: true; the input reads as it did. -/
def fnExactLengthsOkSpec : ChangeSpec := { name := "fnExactLengthsOk", fn := fun _ => fun
  | [d] => { results := [.lit (.bool true)], args := [d] }
  | _ => none }
def fnExactLengthsOkRow : OpenClaim := { program := "ytigdmppbbeakgaa", sum := "5a571b2519467ae4727bbd1802c1c2fd68c3877b025cb7ccc1a7e1ed5f0a6e19", func := "loop.example/g00831/laws.FnExactLengthsOk", spec := "fnExactLengthsOk", apart := false }
def FnExactLengthsOkSaid : Prop := fnExactLengthsOkRow.holds Try.pinned (OpenSpec.ofChange fnExactLengthsOkSpec)

/-- ITS FALSE NEIGHBOUR: 'it returns false'. Refute it at one input. -/
def fnExactLengthsOkWrong : ChangeSpec := { name := "fnExactLengthsOk", fn := fun _ => fun
  | [d] => { results := [.lit (.bool false)], args := [d] }
  | _ => none }
def FnExactLengthsOkWrongFalsely : Prop := fnExactLengthsOkRow.holds Try.pinned (OpenSpec.ofChange fnExactLengthsOkWrong)

/-- 'laws.FnExactEmptyLockings': WHATEVER THE INPUT: true; the input reads as it did. -/
def fnExactEmptyLockingsSpec : ChangeSpec := { name := "fnExactEmptyLockings", fn := fun _ => fun
  | [d] => { results := [.lit (.bool true)], args := [d] }
  | _ => none }
def fnExactEmptyLockingsRow : OpenClaim := { program := "ytigdmppbbeakgaa", sum := "5a571b2519467ae4727bbd1802c1c2fd68c3877b025cb7ccc1a7e1ed5f0a6e19", func := "loop.example/g00831/laws.FnExactEmptyLockings", spec := "fnExactEmptyLockings", apart := false }
def FnExactEmptyLockingsSaid : Prop := fnExactEmptyLockingsRow.holds Try.pinned (OpenSpec.ofChange fnExactEmptyLockingsSpec)

/-- ITS FALSE NEIGHBOUR: 'it returns false'. Refute it at one input. -/
def fnExactEmptyLockingsWrong : ChangeSpec := { name := "fnExactEmptyLockings", fn := fun _ => fun
  | [d] => { results := [.lit (.bool false)], args := [d] }
  | _ => none }
def FnExactEmptyLockingsWrongFalsely : Prop := fnExactEmptyLockingsRow.holds Try.pinned (OpenSpec.ofChange fnExactEmptyLockingsWrong)

/-- 'laws.FnExactLockedAt': WHATEVER THE INPUT: true; the input reads as it did. -/
def fnExactLockedAtSpec : ChangeSpec := { name := "fnExactLockedAt", fn := fun _ => fun
  | [d1, d2, d3] => { results := [.lit (.bool true)], args := [d1, d2, d3] }
  | _ => none }
def fnExactLockedAtRow : OpenClaim := { program := "ytigdmppbbeakgaa", sum := "5a571b2519467ae4727bbd1802c1c2fd68c3877b025cb7ccc1a7e1ed5f0a6e19", func := "loop.example/g00831/laws.FnExactLockedAt", spec := "fnExactLockedAt", apart := false }
def FnExactLockedAtSaid : Prop := fnExactLockedAtRow.holds Try.pinned (OpenSpec.ofChange fnExactLockedAtSpec)

/-- ITS FALSE NEIGHBOUR: 'it returns false'. Refute it at one input. -/
def fnExactLockedAtWrong : ChangeSpec := { name := "fnExactLockedAt", fn := fun _ => fun
  | [d1, d2, d3] => { results := [.lit (.bool false)], args := [d1, d2, d3] }
  | _ => none }
def FnExactLockedAtWrongFalsely : Prop := fnExactLockedAtRow.holds Try.pinned (OpenSpec.ofChange fnExactLockedAtWrong)

/-- 'laws.FnExactLockOrder': WHATEVER THE INPUT: true; the input reads as it did. -/
def fnExactLockOrderSpec : ChangeSpec := { name := "fnExactLockOrder", fn := fun _ => fun
  | [d1, d2] => { results := [.lit (.bool true)], args := [d1, d2] }
  | _ => none }
def fnExactLockOrderRow : OpenClaim := { program := "ytigdmppbbeakgaa", sum := "5a571b2519467ae4727bbd1802c1c2fd68c3877b025cb7ccc1a7e1ed5f0a6e19", func := "loop.example/g00831/laws.FnExactLockOrder", spec := "fnExactLockOrder", apart := false }
def FnExactLockOrderSaid : Prop := fnExactLockOrderRow.holds Try.pinned (OpenSpec.ofChange fnExactLockOrderSpec)

/-- ITS FALSE NEIGHBOUR: 'it returns false'. Refute it at one input. -/
def fnExactLockOrderWrong : ChangeSpec := { name := "fnExactLockOrder", fn := fun _ => fun
  | [d1, d2] => { results := [.lit (.bool false)], args := [d1, d2] }
  | _ => none }
def FnExactLockOrderWrongFalsely : Prop := fnExactLockOrderRow.holds Try.pinned (OpenSpec.ofChange fnExactLockOrderWrong)

/-- 'laws.FnExactNextTurn': WHATEVER THE INPUT: true; the input reads as it did. -/
def fnExactNextTurnSpec : ChangeSpec := { name := "fnExactNextTurn", fn := fun _ => fun
  | [d1, d2, d3, d4] => { results := [.lit (.bool true)], args := [d1, d2, d3, d4] }
  | _ => none }
def fnExactNextTurnRow : OpenClaim := { program := "ytigdmppbbeakgaa", sum := "5a571b2519467ae4727bbd1802c1c2fd68c3877b025cb7ccc1a7e1ed5f0a6e19", func := "loop.example/g00831/laws.FnExactNextTurn", spec := "fnExactNextTurn", apart := false }
def FnExactNextTurnSaid : Prop := fnExactNextTurnRow.holds Try.pinned (OpenSpec.ofChange fnExactNextTurnSpec)

/-- ITS FALSE NEIGHBOUR: 'it returns false'. Refute it at one input. -/
def fnExactNextTurnWrong : ChangeSpec := { name := "fnExactNextTurn", fn := fun _ => fun
  | [d1, d2, d3, d4] => { results := [.lit (.bool false)], args := [d1, d2, d3, d4] }
  | _ => none }
def FnExactNextTurnWrongFalsely : Prop := fnExactNextTurnRow.holds Try.pinned (OpenSpec.ofChange fnExactNextTurnWrong)

/- THE SECOND FORM. 'bulk': how many values and letters a reading holds, each counted each time it is reached (what is shared counts as often as it is met; a slice's spare places count too). A statement '..UptoSaid' is the law's where the arguments, and the package variables that the reading takes, are together of bulk at most 1048576: NARROWER than '..Said'. Prove '..Said' where nothing that the law and all that it calls make is longer than what came in: it says more and counts as full. Else prove '..UptoSaid'. A law counts once. -/
mutual
def uptoBulk {H : Type} : DataW H → Nat
  | .lit (.string bytes) => bytes.length + 1
  | .lit _ => 1
  | .nil => 1
  | .ptr d => uptoBulk d + 1
  | .slice elems spare => uptoBulkAll elems + uptoBulkAll spare + 1
  | .agg parts => uptoBulkAll parts + 1
  | .iface _ d => uptoBulk d + 1
  | .map entries => uptoBulkEntries entries + 1
  | .held _ => 1
def uptoBulkAll {H : Type} : List (DataW H) → Nat
  | [] => 0
  | d :: r => uptoBulk d + uptoBulkAll r
def uptoBulkEntries {H : Type} : List (Lit × DataW H) → Nat
  | [] => 0
  | x :: r => uptoBulkEntry x + uptoBulkEntries r
def uptoBulkEntry {H : Type} : Lit × DataW H → Nat
  | (.string bytes, d) => bytes.length + uptoBulk d + 1
  | (_, d) => uptoBulk d + 1
 end
def uptoSmall : (H : Type) → List (DataW H) → Bool := fun _ ds => decide (uptoBulkAll ds ≤ 1048576)
def OpenSpec.upto (s : _root_.Go.ChangeSpec) : _root_.Go.OpenSpec := { _root_.Go.OpenSpec.ofChange s with cond := some uptoSmall }

/-- 'laws.FnExactRegimeOk', WHERE WHAT IT READS IS OF BULK AT MOST 1048576: true; the input reads as it did. -/
def fnExactRegimeOkUptoRow : OpenClaim := { program := "ytigdmppbbeakgaa", sum := "5a571b2519467ae4727bbd1802c1c2fd68c3877b025cb7ccc1a7e1ed5f0a6e19", func := "loop.example/g00831/laws.FnExactRegimeOk", spec := "fnExactRegimeOk", apart := false, narrowed := true }
def FnExactRegimeOkUptoSaid : Prop := fnExactRegimeOkUptoRow.holds Try.pinned (OpenSpec.upto fnExactRegimeOkSpec)

/-- 'laws.FnExactOverlaps', WHERE WHAT IT READS IS OF BULK AT MOST 1048576: true; the input reads as it did. -/
def fnExactOverlapsUptoRow : OpenClaim := { program := "ytigdmppbbeakgaa", sum := "5a571b2519467ae4727bbd1802c1c2fd68c3877b025cb7ccc1a7e1ed5f0a6e19", func := "loop.example/g00831/laws.FnExactOverlaps", spec := "fnExactOverlaps", apart := false, narrowed := true }
def FnExactOverlapsUptoSaid : Prop := fnExactOverlapsUptoRow.holds Try.pinned (OpenSpec.upto fnExactOverlapsSpec)

/-- 'laws.FnExactConflictName', WHERE WHAT IT READS IS OF BULK AT MOST 1048576: true; the input reads as it did. -/
def fnExactConflictNameUptoRow : OpenClaim := { program := "ytigdmppbbeakgaa", sum := "5a571b2519467ae4727bbd1802c1c2fd68c3877b025cb7ccc1a7e1ed5f0a6e19", func := "loop.example/g00831/laws.FnExactConflictName", spec := "fnExactConflictName", apart := false, narrowed := true }
def FnExactConflictNameUptoSaid : Prop := fnExactConflictNameUptoRow.holds Try.pinned (OpenSpec.upto fnExactConflictNameSpec)

/-- 'laws.FnExactChamberOk', WHERE WHAT IT READS IS OF BULK AT MOST 1048576: true; the input reads as it did. -/
def fnExactChamberOkUptoRow : OpenClaim := { program := "ytigdmppbbeakgaa", sum := "5a571b2519467ae4727bbd1802c1c2fd68c3877b025cb7ccc1a7e1ed5f0a6e19", func := "loop.example/g00831/laws.FnExactChamberOk", spec := "fnExactChamberOk", apart := false, narrowed := true }
def FnExactChamberOkUptoSaid : Prop := fnExactChamberOkUptoRow.holds Try.pinned (OpenSpec.upto fnExactChamberOkSpec)

/-- 'laws.FnExactStricterRegime', WHERE WHAT IT READS IS OF BULK AT MOST 1048576: true; the input reads as it did. -/
def fnExactStricterRegimeUptoRow : OpenClaim := { program := "ytigdmppbbeakgaa", sum := "5a571b2519467ae4727bbd1802c1c2fd68c3877b025cb7ccc1a7e1ed5f0a6e19", func := "loop.example/g00831/laws.FnExactStricterRegime", spec := "fnExactStricterRegime", apart := false, narrowed := true }
def FnExactStricterRegimeUptoSaid : Prop := fnExactStricterRegimeUptoRow.holds Try.pinned (OpenSpec.upto fnExactStricterRegimeSpec)

/-- 'laws.FnExactStayingMoves', WHERE WHAT IT READS IS OF BULK AT MOST 1048576: true; the input reads as it did. -/
def fnExactStayingMovesUptoRow : OpenClaim := { program := "ytigdmppbbeakgaa", sum := "5a571b2519467ae4727bbd1802c1c2fd68c3877b025cb7ccc1a7e1ed5f0a6e19", func := "loop.example/g00831/laws.FnExactStayingMoves", spec := "fnExactStayingMoves", apart := false, narrowed := true }
def FnExactStayingMovesUptoSaid : Prop := fnExactStayingMovesUptoRow.holds Try.pinned (OpenSpec.upto fnExactStayingMovesSpec)

/-- 'laws.FnExactLockingTime', WHERE WHAT IT READS IS OF BULK AT MOST 1048576: true; the input reads as it did. -/
def fnExactLockingTimeUptoRow : OpenClaim := { program := "ytigdmppbbeakgaa", sum := "5a571b2519467ae4727bbd1802c1c2fd68c3877b025cb7ccc1a7e1ed5f0a6e19", func := "loop.example/g00831/laws.FnExactLockingTime", spec := "fnExactLockingTime", apart := false, narrowed := true }
def FnExactLockingTimeUptoSaid : Prop := fnExactLockingTimeUptoRow.holds Try.pinned (OpenSpec.upto fnExactLockingTimeSpec)

/-- 'laws.FnExactLengthsOk', WHERE WHAT IT READS IS OF BULK AT MOST 1048576: true; the input reads as it did. -/
def fnExactLengthsOkUptoRow : OpenClaim := { program := "ytigdmppbbeakgaa", sum := "5a571b2519467ae4727bbd1802c1c2fd68c3877b025cb7ccc1a7e1ed5f0a6e19", func := "loop.example/g00831/laws.FnExactLengthsOk", spec := "fnExactLengthsOk", apart := false, narrowed := true }
def FnExactLengthsOkUptoSaid : Prop := fnExactLengthsOkUptoRow.holds Try.pinned (OpenSpec.upto fnExactLengthsOkSpec)

/-- 'laws.FnExactEmptyLockings', WHERE WHAT IT READS IS OF BULK AT MOST 1048576: true; the input reads as it did. -/
def fnExactEmptyLockingsUptoRow : OpenClaim := { program := "ytigdmppbbeakgaa", sum := "5a571b2519467ae4727bbd1802c1c2fd68c3877b025cb7ccc1a7e1ed5f0a6e19", func := "loop.example/g00831/laws.FnExactEmptyLockings", spec := "fnExactEmptyLockings", apart := false, narrowed := true }
def FnExactEmptyLockingsUptoSaid : Prop := fnExactEmptyLockingsUptoRow.holds Try.pinned (OpenSpec.upto fnExactEmptyLockingsSpec)

/-- 'laws.FnExactLockedAt', WHERE WHAT IT READS IS OF BULK AT MOST 1048576: true; the input reads as it did. -/
def fnExactLockedAtUptoRow : OpenClaim := { program := "ytigdmppbbeakgaa", sum := "5a571b2519467ae4727bbd1802c1c2fd68c3877b025cb7ccc1a7e1ed5f0a6e19", func := "loop.example/g00831/laws.FnExactLockedAt", spec := "fnExactLockedAt", apart := false, narrowed := true }
def FnExactLockedAtUptoSaid : Prop := fnExactLockedAtUptoRow.holds Try.pinned (OpenSpec.upto fnExactLockedAtSpec)

/-- 'laws.FnExactLockOrder', WHERE WHAT IT READS IS OF BULK AT MOST 1048576: true; the input reads as it did. -/
def fnExactLockOrderUptoRow : OpenClaim := { program := "ytigdmppbbeakgaa", sum := "5a571b2519467ae4727bbd1802c1c2fd68c3877b025cb7ccc1a7e1ed5f0a6e19", func := "loop.example/g00831/laws.FnExactLockOrder", spec := "fnExactLockOrder", apart := false, narrowed := true }
def FnExactLockOrderUptoSaid : Prop := fnExactLockOrderUptoRow.holds Try.pinned (OpenSpec.upto fnExactLockOrderSpec)

/-- 'laws.FnExactNextTurn', WHERE WHAT IT READS IS OF BULK AT MOST 1048576: true; the input reads as it did. -/
def fnExactNextTurnUptoRow : OpenClaim := { program := "ytigdmppbbeakgaa", sum := "5a571b2519467ae4727bbd1802c1c2fd68c3877b025cb7ccc1a7e1ed5f0a6e19", func := "loop.example/g00831/laws.FnExactNextTurn", spec := "fnExactNextTurn", apart := false, narrowed := true }
def FnExactNextTurnUptoSaid : Prop := fnExactNextTurnUptoRow.holds Try.pinned (OpenSpec.upto fnExactNextTurnSpec)

end Rows
end Go.Proofs.Ytigdmppbbeakgaa
