/-
  No cell of these rows narrows 'for every input' (looked for: loops, veiled, ifaces, maps, wideKeys, modest, calm, conditions, laid).
  DERIVED. THE GIVEN ROWS OF THIS SEAT. 12 by the template 'for every input the law returns true; each argument reads behind the call as it read before'; 0 by the template 'total and deterministic' (their statements: YtefidlecandnlaaTotals.lean).
  GIVEN WITH THE SEED: the statements are not yours to turn. If you find one false, say at which input.
  Laid BY PROGRAM, IN A SANDBOX (cutbox-rows.mjs): the forced cells as the released guide's own fill.sh prints them over the translation 63a95f00b85e4acc… (all of the seat's roots in one cut). By AI agents, Wed Nov 11 2026. No macro, syntax, notation, axiom, sorry.
-/
import Derived.Test.YtefidlecandnlaaChecked
import GoSem.Claim
import GoSem.ClaimJoined
import GoSem.ClaimMapViews
import Derived.JoinedTies
import Derived.KernelRfl
namespace Go.Proofs.Ytefidlecandnlaa
/- THE CELL 'sum', in the pinned program and in every row, IS THE sha256 OF THE DUMP (.gsa) THAT YtefidlecandnlaaProg.lean LOADS. Nothing in Lean hashes anything: it is a label: what it is worth is what the hold of that sum in a sandbox is worth. -/
noncomputable def Try.pinned : Pinned := { name := "ytefidlecandnlaa", sum := "63a95f00b85e4acc8e0612a4e698fae362a3084894f180890ac11eca7d37e446", checked := Try.checked }
namespace Rows
def none {H : Type} : Left H := { results := [], args := [] }

/-- 'laws.FnExactMinutesOn': WHATEVER THE INPUT: true; the input reads as it did. -/
def fnExactMinutesOnSpec : ChangeSpec := { name := "fnExactMinutesOn", fn := fun _ => fun
  | [d1, d2, d3] => { results := [.lit (.bool true)], args := [d1, d2, d3] }
  | _ => none }
def fnExactMinutesOnRow : OpenClaim := { program := "ytefidlecandnlaa", sum := "63a95f00b85e4acc8e0612a4e698fae362a3084894f180890ac11eca7d37e446", func := "loop.example/g00831/laws.FnExactMinutesOn", spec := "fnExactMinutesOn", apart := false }
def FnExactMinutesOnSaid : Prop := fnExactMinutesOnRow.holds Try.pinned (OpenSpec.ofChange fnExactMinutesOnSpec)

/-- ITS FALSE NEIGHBOUR: 'it returns false'. Refute it at one input. -/
def fnExactMinutesOnWrong : ChangeSpec := { name := "fnExactMinutesOn", fn := fun _ => fun
  | [d1, d2, d3] => { results := [.lit (.bool false)], args := [d1, d2, d3] }
  | _ => none }
def FnExactMinutesOnWrongFalsely : Prop := fnExactMinutesOnRow.holds Try.pinned (OpenSpec.ofChange fnExactMinutesOnWrong)

/-- 'laws.FnExactLevelFor': WHATEVER THE INPUT: true; the input reads as it did. -/
def fnExactLevelForSpec : ChangeSpec := { name := "fnExactLevelFor", fn := fun _ => fun
  | [d1, d2, d3] => { results := [.lit (.bool true)], args := [d1, d2, d3] }
  | _ => none }
def fnExactLevelForRow : OpenClaim := { program := "ytefidlecandnlaa", sum := "63a95f00b85e4acc8e0612a4e698fae362a3084894f180890ac11eca7d37e446", func := "loop.example/g00831/laws.FnExactLevelFor", spec := "fnExactLevelFor", apart := false }
def FnExactLevelForSaid : Prop := fnExactLevelForRow.holds Try.pinned (OpenSpec.ofChange fnExactLevelForSpec)

/-- ITS FALSE NEIGHBOUR: 'it returns false'. Refute it at one input. -/
def fnExactLevelForWrong : ChangeSpec := { name := "fnExactLevelFor", fn := fun _ => fun
  | [d1, d2, d3] => { results := [.lit (.bool false)], args := [d1, d2, d3] }
  | _ => none }
def FnExactLevelForWrongFalsely : Prop := fnExactLevelForRow.holds Try.pinned (OpenSpec.ofChange fnExactLevelForWrong)

/-- 'laws.FnExactIsAfloat': WHATEVER THE INPUT: true; the input reads as it did. -/
def fnExactIsAfloatSpec : ChangeSpec := { name := "fnExactIsAfloat", fn := fun _ => fun
  | [d1, d2, d3, d4] => { results := [.lit (.bool true)], args := [d1, d2, d3, d4] }
  | _ => none }
def fnExactIsAfloatRow : OpenClaim := { program := "ytefidlecandnlaa", sum := "63a95f00b85e4acc8e0612a4e698fae362a3084894f180890ac11eca7d37e446", func := "loop.example/g00831/laws.FnExactIsAfloat", spec := "fnExactIsAfloat", apart := false }
def FnExactIsAfloatSaid : Prop := fnExactIsAfloatRow.holds Try.pinned (OpenSpec.ofChange fnExactIsAfloatSpec)

/-- ITS FALSE NEIGHBOUR: 'it returns false'. Refute it at one input. -/
def fnExactIsAfloatWrong : ChangeSpec := { name := "fnExactIsAfloat", fn := fun _ => fun
  | [d1, d2, d3, d4] => { results := [.lit (.bool false)], args := [d1, d2, d3, d4] }
  | _ => none }
def FnExactIsAfloatWrongFalsely : Prop := fnExactIsAfloatRow.holds Try.pinned (OpenSpec.ofChange fnExactIsAfloatWrong)

/-- 'laws.FnExactConflictOf': WHATEVER THE INPUT: true; the input reads as it did. -/
def fnExactConflictOfSpec : ChangeSpec := { name := "fnExactConflictOf", fn := fun _ => fun
  | [d1, d2, d3, d4] => { results := [.lit (.bool true)], args := [d1, d2, d3, d4] }
  | _ => none }
def fnExactConflictOfRow : OpenClaim := { program := "ytefidlecandnlaa", sum := "63a95f00b85e4acc8e0612a4e698fae362a3084894f180890ac11eca7d37e446", func := "loop.example/g00831/laws.FnExactConflictOf", spec := "fnExactConflictOf", apart := false }
def FnExactConflictOfSaid : Prop := fnExactConflictOfRow.holds Try.pinned (OpenSpec.ofChange fnExactConflictOfSpec)

/-- ITS FALSE NEIGHBOUR: 'it returns false'. Refute it at one input. -/
def fnExactConflictOfWrong : ChangeSpec := { name := "fnExactConflictOf", fn := fun _ => fun
  | [d1, d2, d3, d4] => { results := [.lit (.bool false)], args := [d1, d2, d3, d4] }
  | _ => none }
def FnExactConflictOfWrongFalsely : Prop := fnExactConflictOfRow.holds Try.pinned (OpenSpec.ofChange fnExactConflictOfWrong)

/-- 'laws.FnExactArrivalOf': WHATEVER THE INPUT: true; the input reads as it did. -/
def fnExactArrivalOfSpec : ChangeSpec := { name := "fnExactArrivalOf", fn := fun _ => fun
  | [d1, d2, d3, d4] => { results := [.lit (.bool true)], args := [d1, d2, d3, d4] }
  | _ => none }
def fnExactArrivalOfRow : OpenClaim := { program := "ytefidlecandnlaa", sum := "63a95f00b85e4acc8e0612a4e698fae362a3084894f180890ac11eca7d37e446", func := "loop.example/g00831/laws.FnExactArrivalOf", spec := "fnExactArrivalOf", apart := false }
def FnExactArrivalOfSaid : Prop := fnExactArrivalOfRow.holds Try.pinned (OpenSpec.ofChange fnExactArrivalOfSpec)

/-- ITS FALSE NEIGHBOUR: 'it returns false'. Refute it at one input. -/
def fnExactArrivalOfWrong : ChangeSpec := { name := "fnExactArrivalOf", fn := fun _ => fun
  | [d1, d2, d3, d4] => { results := [.lit (.bool false)], args := [d1, d2, d3, d4] }
  | _ => none }
def FnExactArrivalOfWrongFalsely : Prop := fnExactArrivalOfRow.holds Try.pinned (OpenSpec.ofChange fnExactArrivalOfWrong)

/-- 'laws.FnExactIsChain': WHATEVER THE INPUT: true; the input reads as it did. -/
def fnExactIsChainSpec : ChangeSpec := { name := "fnExactIsChain", fn := fun _ => fun
  | [d1, d2] => { results := [.lit (.bool true)], args := [d1, d2] }
  | _ => none }
def fnExactIsChainRow : OpenClaim := { program := "ytefidlecandnlaa", sum := "63a95f00b85e4acc8e0612a4e698fae362a3084894f180890ac11eca7d37e446", func := "loop.example/g00831/laws.FnExactIsChain", spec := "fnExactIsChain", apart := false }
def FnExactIsChainSaid : Prop := fnExactIsChainRow.holds Try.pinned (OpenSpec.ofChange fnExactIsChainSpec)

/-- ITS FALSE NEIGHBOUR: 'it returns false'. Refute it at one input. -/
def fnExactIsChainWrong : ChangeSpec := { name := "fnExactIsChain", fn := fun _ => fun
  | [d1, d2] => { results := [.lit (.bool false)], args := [d1, d2] }
  | _ => none }
def FnExactIsChainWrongFalsely : Prop := fnExactIsChainRow.holds Try.pinned (OpenSpec.ofChange fnExactIsChainWrong)

/-- 'laws.FnExactFirstConflict': WHATEVER THE INPUT: true; the input reads as it did. -/
def fnExactFirstConflictSpec : ChangeSpec := { name := "fnExactFirstConflict", fn := fun _ => fun
  | [d1, d2, d3] => { results := [.lit (.bool true)], args := [d1, d2, d3] }
  | _ => none }
def fnExactFirstConflictRow : OpenClaim := { program := "ytefidlecandnlaa", sum := "63a95f00b85e4acc8e0612a4e698fae362a3084894f180890ac11eca7d37e446", func := "loop.example/g00831/laws.FnExactFirstConflict", spec := "fnExactFirstConflict", apart := false }
def FnExactFirstConflictSaid : Prop := fnExactFirstConflictRow.holds Try.pinned (OpenSpec.ofChange fnExactFirstConflictSpec)

/-- ITS FALSE NEIGHBOUR: 'it returns false'. Refute it at one input. -/
def fnExactFirstConflictWrong : ChangeSpec := { name := "fnExactFirstConflict", fn := fun _ => fun
  | [d1, d2, d3] => { results := [.lit (.bool false)], args := [d1, d2, d3] }
  | _ => none }
def FnExactFirstConflictWrongFalsely : Prop := fnExactFirstConflictRow.holds Try.pinned (OpenSpec.ofChange fnExactFirstConflictWrong)

/-- 'laws.FnExactClashes': WHATEVER THE INPUT: true; the input reads as it did. -/
def fnExactClashesSpec : ChangeSpec := { name := "fnExactClashes", fn := fun _ => fun
  | [d1, d2, d3, d4] => { results := [.lit (.bool true)], args := [d1, d2, d3, d4] }
  | _ => none }
def fnExactClashesRow : OpenClaim := { program := "ytefidlecandnlaa", sum := "63a95f00b85e4acc8e0612a4e698fae362a3084894f180890ac11eca7d37e446", func := "loop.example/g00831/laws.FnExactClashes", spec := "fnExactClashes", apart := false }
def FnExactClashesSaid : Prop := fnExactClashesRow.holds Try.pinned (OpenSpec.ofChange fnExactClashesSpec)

/-- ITS FALSE NEIGHBOUR: 'it returns false'. Refute it at one input. -/
def fnExactClashesWrong : ChangeSpec := { name := "fnExactClashes", fn := fun _ => fun
  | [d1, d2, d3, d4] => { results := [.lit (.bool false)], args := [d1, d2, d3, d4] }
  | _ => none }
def FnExactClashesWrongFalsely : Prop := fnExactClashesRow.holds Try.pinned (OpenSpec.ofChange fnExactClashesWrong)

/-- 'laws.FnExactIsClear': WHATEVER THE INPUT: true; the input reads as it did. -/
def fnExactIsClearSpec : ChangeSpec := { name := "fnExactIsClear", fn := fun _ => fun
  | [d1, d2, d3] => { results := [.lit (.bool true)], args := [d1, d2, d3] }
  | _ => none }
def fnExactIsClearRow : OpenClaim := { program := "ytefidlecandnlaa", sum := "63a95f00b85e4acc8e0612a4e698fae362a3084894f180890ac11eca7d37e446", func := "loop.example/g00831/laws.FnExactIsClear", spec := "fnExactIsClear", apart := false }
def FnExactIsClearSaid : Prop := fnExactIsClearRow.holds Try.pinned (OpenSpec.ofChange fnExactIsClearSpec)

/-- ITS FALSE NEIGHBOUR: 'it returns false'. Refute it at one input. -/
def fnExactIsClearWrong : ChangeSpec := { name := "fnExactIsClear", fn := fun _ => fun
  | [d1, d2, d3] => { results := [.lit (.bool false)], args := [d1, d2, d3] }
  | _ => none }
def FnExactIsClearWrongFalsely : Prop := fnExactIsClearRow.holds Try.pinned (OpenSpec.ofChange fnExactIsClearWrong)

/-- 'laws.FnExactPassageOk': WHATEVER THE INPUT: true; the input reads as it did. -/
def fnExactPassageOkSpec : ChangeSpec := { name := "fnExactPassageOk", fn := fun _ => fun
  | [d1, d2, d3] => { results := [.lit (.bool true)], args := [d1, d2, d3] }
  | _ => none }
def fnExactPassageOkRow : OpenClaim := { program := "ytefidlecandnlaa", sum := "63a95f00b85e4acc8e0612a4e698fae362a3084894f180890ac11eca7d37e446", func := "loop.example/g00831/laws.FnExactPassageOk", spec := "fnExactPassageOk", apart := false }
def FnExactPassageOkSaid : Prop := fnExactPassageOkRow.holds Try.pinned (OpenSpec.ofChange fnExactPassageOkSpec)

/-- ITS FALSE NEIGHBOUR: 'it returns false'. Refute it at one input. -/
def fnExactPassageOkWrong : ChangeSpec := { name := "fnExactPassageOk", fn := fun _ => fun
  | [d1, d2, d3] => { results := [.lit (.bool false)], args := [d1, d2, d3] }
  | _ => none }
def FnExactPassageOkWrongFalsely : Prop := fnExactPassageOkRow.holds Try.pinned (OpenSpec.ofChange fnExactPassageOkWrong)

/-- 'laws.FnExactPassagesOf': WHATEVER THE INPUT: true; the input reads as it did. -/
def fnExactPassagesOfSpec : ChangeSpec := { name := "fnExactPassagesOf", fn := fun _ => fun
  | [d1, d2, d3, d4, d5, d6] => { results := [.lit (.bool true)], args := [d1, d2, d3, d4, d5, d6] }
  | _ => none }
def fnExactPassagesOfRow : OpenClaim := { program := "ytefidlecandnlaa", sum := "63a95f00b85e4acc8e0612a4e698fae362a3084894f180890ac11eca7d37e446", func := "loop.example/g00831/laws.FnExactPassagesOf", spec := "fnExactPassagesOf", apart := false }
def FnExactPassagesOfSaid : Prop := fnExactPassagesOfRow.holds Try.pinned (OpenSpec.ofChange fnExactPassagesOfSpec)

/-- ITS FALSE NEIGHBOUR: 'it returns false'. Refute it at one input. -/
def fnExactPassagesOfWrong : ChangeSpec := { name := "fnExactPassagesOf", fn := fun _ => fun
  | [d1, d2, d3, d4, d5, d6] => { results := [.lit (.bool false)], args := [d1, d2, d3, d4, d5, d6] }
  | _ => none }
def FnExactPassagesOfWrongFalsely : Prop := fnExactPassagesOfRow.holds Try.pinned (OpenSpec.ofChange fnExactPassagesOfWrong)

/-- 'laws.FnConflicts': WHATEVER THE INPUT: true; the input reads as it did. -/
def fnConflictsSpec : ChangeSpec := { name := "fnConflicts", fn := fun _ => fun
  | [d] => { results := [.lit (.bool true)], args := [d] }
  | _ => none }
def fnConflictsRow : OpenClaim := { program := "ytefidlecandnlaa", sum := "63a95f00b85e4acc8e0612a4e698fae362a3084894f180890ac11eca7d37e446", func := "loop.example/g00831/laws.FnConflicts", spec := "fnConflicts", recurses := true, apart := false }
def FnConflictsSaid : Prop := fnConflictsRow.holds Try.pinned (OpenSpec.ofChange fnConflictsSpec)

/-- ITS FALSE NEIGHBOUR: 'it returns false'. Refute it at one input. -/
def fnConflictsWrong : ChangeSpec := { name := "fnConflicts", fn := fun _ => fun
  | [d] => { results := [.lit (.bool false)], args := [d] }
  | _ => none }
def FnConflictsWrongFalsely : Prop := fnConflictsRow.holds Try.pinned (OpenSpec.ofChange fnConflictsWrong)

/- THE SECOND FORM. 'bulk': how many values and letters a reading holds, each counted each time it is reached (what is shared counts as often as it is met; a slice's spare places count too). A statement '..UptoSaid' is the law's where the arguments, and the package variables that the reading takes, are together of bulk at most 1048576: NARROWER than '..Said'. Prove '..Said' where nothing that the law and all that it calls make is longer than what came in: it says more and counts as full. Else prove '..UptoSaid'. A law counts once. -/
mutual
def uptoBulk {H : Type} : DataW H → Nat
  | .lit (.string bytes) => bytes.length + 1
  | .lit _ => 1
  | .nil => 1
  | .ptr d => uptoBulk d + 1
  | .slice elems spare => uptoBulkAll elems + uptoBulkAll spare + 1
  | .agg parts => uptoBulkAll parts + 1
  | .iface _ d => uptoBulk d + 1
  | .map entries => uptoBulkEntries entries + 1
  | .held _ => 1
def uptoBulkAll {H : Type} : List (DataW H) → Nat
  | [] => 0
  | d :: r => uptoBulk d + uptoBulkAll r
def uptoBulkEntries {H : Type} : List (Lit × DataW H) → Nat
  | [] => 0
  | x :: r => uptoBulkEntry x + uptoBulkEntries r
def uptoBulkEntry {H : Type} : Lit × DataW H → Nat
  | (.string bytes, d) => bytes.length + uptoBulk d + 1
  | (_, d) => uptoBulk d + 1
 end
def uptoSmall : (H : Type) → List (DataW H) → Bool := fun _ ds => decide (uptoBulkAll ds ≤ 1048576)
def OpenSpec.upto (s : _root_.Go.ChangeSpec) : _root_.Go.OpenSpec := { _root_.Go.OpenSpec.ofChange s with cond := some uptoSmall }

/-- 'laws.FnExactMinutesOn', WHERE WHAT IT READS IS OF BULK AT MOST 1048576: true; the input reads as it did. -/
def fnExactMinutesOnUptoRow : OpenClaim := { program := "ytefidlecandnlaa", sum := "63a95f00b85e4acc8e0612a4e698fae362a3084894f180890ac11eca7d37e446", func := "loop.example/g00831/laws.FnExactMinutesOn", spec := "fnExactMinutesOn", apart := false, narrowed := true }
def FnExactMinutesOnUptoSaid : Prop := fnExactMinutesOnUptoRow.holds Try.pinned (OpenSpec.upto fnExactMinutesOnSpec)

/-- 'laws.FnExactLevelFor', WHERE WHAT IT READS IS OF BULK AT MOST 1048576: true; the input reads as it did. -/
def fnExactLevelForUptoRow : OpenClaim := { program := "ytefidlecandnlaa", sum := "63a95f00b85e4acc8e0612a4e698fae362a3084894f180890ac11eca7d37e446", func := "loop.example/g00831/laws.FnExactLevelFor", spec := "fnExactLevelFor", apart := false, narrowed := true }
def FnExactLevelForUptoSaid : Prop := fnExactLevelForUptoRow.holds Try.pinned (OpenSpec.upto fnExactLevelForSpec)

/-- 'laws.FnExactIsAfloat', WHERE WHAT IT READS IS OF BULK AT MOST 1048576: true; the input reads as it did. -/
def fnExactIsAfloatUptoRow : OpenClaim := { program := "ytefidlecandnlaa", sum := "63a95f00b85e4acc8e0612a4e698fae362a3084894f180890ac11eca7d37e446", func := "loop.example/g00831/laws.FnExactIsAfloat", spec := "fnExactIsAfloat", apart := false, narrowed := true }
def FnExactIsAfloatUptoSaid : Prop := fnExactIsAfloatUptoRow.holds Try.pinned (OpenSpec.upto fnExactIsAfloatSpec)

/-- 'laws.FnExactConflictOf', WHERE WHAT IT READS IS OF BULK AT MOST 1048576: true; the input reads as it did. -/
def fnExactConflictOfUptoRow : OpenClaim := { program := "ytefidlecandnlaa", sum := "63a95f00b85e4acc8e0612a4e698fae362a3084894f180890ac11eca7d37e446", func := "loop.example/g00831/laws.FnExactConflictOf", spec := "fnExactConflictOf", apart := false, narrowed := true }
def FnExactConflictOfUptoSaid : Prop := fnExactConflictOfUptoRow.holds Try.pinned (OpenSpec.upto fnExactConflictOfSpec)

/-- 'laws.FnExactArrivalOf', WHERE WHAT IT READS IS OF BULK AT MOST 1048576: true; the input reads as it did. -/
def fnExactArrivalOfUptoRow : OpenClaim := { program := "ytefidlecandnlaa", sum := "63a95f00b85e4acc8e0612a4e698fae362a3084894f180890ac11eca7d37e446", func := "loop.example/g00831/laws.FnExactArrivalOf", spec := "fnExactArrivalOf", apart := false, narrowed := true }
def FnExactArrivalOfUptoSaid : Prop := fnExactArrivalOfUptoRow.holds Try.pinned (OpenSpec.upto fnExactArrivalOfSpec)

/-- 'laws.FnExactIsChain', WHERE WHAT IT READS IS OF BULK AT MOST 1048576: true; the input reads as it did. -/
def fnExactIsChainUptoRow : OpenClaim := { program := "ytefidlecandnlaa", sum := "63a95f00b85e4acc8e0612a4e698fae362a3084894f180890ac11eca7d37e446", func := "loop.example/g00831/laws.FnExactIsChain", spec := "fnExactIsChain", apart := false, narrowed := true }
def FnExactIsChainUptoSaid : Prop := fnExactIsChainUptoRow.holds Try.pinned (OpenSpec.upto fnExactIsChainSpec)

/-- 'laws.FnExactFirstConflict', WHERE WHAT IT READS IS OF BULK AT MOST 1048576: true; the input reads as it did. -/
def fnExactFirstConflictUptoRow : OpenClaim := { program := "ytefidlecandnlaa", sum := "63a95f00b85e4acc8e0612a4e698fae362a3084894f180890ac11eca7d37e446", func := "loop.example/g00831/laws.FnExactFirstConflict", spec := "fnExactFirstConflict", apart := false, narrowed := true }
def FnExactFirstConflictUptoSaid : Prop := fnExactFirstConflictUptoRow.holds Try.pinned (OpenSpec.upto fnExactFirstConflictSpec)

/-- 'laws.FnExactClashes', WHERE WHAT IT READS IS OF BULK AT MOST 1048576: true; the input reads as it did. -/
def fnExactClashesUptoRow : OpenClaim := { program := "ytefidlecandnlaa", sum := "63a95f00b85e4acc8e0612a4e698fae362a3084894f180890ac11eca7d37e446", func := "loop.example/g00831/laws.FnExactClashes", spec := "fnExactClashes", apart := false, narrowed := true }
def FnExactClashesUptoSaid : Prop := fnExactClashesUptoRow.holds Try.pinned (OpenSpec.upto fnExactClashesSpec)

/-- 'laws.FnExactIsClear', WHERE WHAT IT READS IS OF BULK AT MOST 1048576: true; the input reads as it did. -/
def fnExactIsClearUptoRow : OpenClaim := { program := "ytefidlecandnlaa", sum := "63a95f00b85e4acc8e0612a4e698fae362a3084894f180890ac11eca7d37e446", func := "loop.example/g00831/laws.FnExactIsClear", spec := "fnExactIsClear", apart := false, narrowed := true }
def FnExactIsClearUptoSaid : Prop := fnExactIsClearUptoRow.holds Try.pinned (OpenSpec.upto fnExactIsClearSpec)

/-- 'laws.FnExactPassageOk', WHERE WHAT IT READS IS OF BULK AT MOST 1048576: true; the input reads as it did. -/
def fnExactPassageOkUptoRow : OpenClaim := { program := "ytefidlecandnlaa", sum := "63a95f00b85e4acc8e0612a4e698fae362a3084894f180890ac11eca7d37e446", func := "loop.example/g00831/laws.FnExactPassageOk", spec := "fnExactPassageOk", apart := false, narrowed := true }
def FnExactPassageOkUptoSaid : Prop := fnExactPassageOkUptoRow.holds Try.pinned (OpenSpec.upto fnExactPassageOkSpec)

/-- 'laws.FnExactPassagesOf', WHERE WHAT IT READS IS OF BULK AT MOST 1048576: true; the input reads as it did. -/
def fnExactPassagesOfUptoRow : OpenClaim := { program := "ytefidlecandnlaa", sum := "63a95f00b85e4acc8e0612a4e698fae362a3084894f180890ac11eca7d37e446", func := "loop.example/g00831/laws.FnExactPassagesOf", spec := "fnExactPassagesOf", apart := false, narrowed := true }
def FnExactPassagesOfUptoSaid : Prop := fnExactPassagesOfUptoRow.holds Try.pinned (OpenSpec.upto fnExactPassagesOfSpec)

/-- 'laws.FnConflicts', WHERE WHAT IT READS IS OF BULK AT MOST 1048576: true; the input reads as it did. -/
def fnConflictsUptoRow : OpenClaim := { program := "ytefidlecandnlaa", sum := "63a95f00b85e4acc8e0612a4e698fae362a3084894f180890ac11eca7d37e446", func := "loop.example/g00831/laws.FnConflicts", spec := "fnConflicts", recurses := true, apart := false, narrowed := true }
def FnConflictsUptoSaid : Prop := fnConflictsUptoRow.holds Try.pinned (OpenSpec.upto fnConflictsSpec)

end Rows
end Go.Proofs.Ytefidlecandnlaa
