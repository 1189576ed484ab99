/-
  No cell of these rows narrows 'for every input' (looked for: loops, veiled, ifaces, maps, wideKeys, modest, calm, conditions, laid).
  DERIVED. THE GIVEN ROWS OF THIS SEAT. 7 by the template 'for every input the law returns true; each argument reads behind the call as it read before'; 0 by the template 'total and deterministic' (their statements: YtdbpgfbbkejljaaTotals.lean).
  GIVEN WITH THE SEED: the statements are not yours to turn. If you find one false, say at which input.
  Laid BY PROGRAM, IN A SANDBOX (cutbox-rows.mjs): the forced cells as the released guide's own fill.sh prints them over the translation 5fd553026f87ca29… (all of the seat's roots in one cut). By AI agents, Wed Nov 11 2026. No macro, syntax, notation, axiom, sorry.
-/
import Derived.Test.YtdbpgfbbkejljaaChecked
import GoSem.Claim
import GoSem.ClaimJoined
import GoSem.ClaimMapViews
import Derived.JoinedTies
import Derived.KernelRfl
namespace Go.Proofs.Ytdbpgfbbkejljaa
/- THE CELL 'sum', in the pinned program and in every row, IS THE sha256 OF THE DUMP (.gsa) THAT YtdbpgfbbkejljaaProg.lean LOADS. Nothing in Lean hashes anything: it is a label: what it is worth is what the hold of that sum in a sandbox is worth. -/
noncomputable def Try.pinned : Pinned := { name := "ytdbpgfbbkejljaa", sum := "5fd553026f87ca290d76c38590c2f163657c6c9008277918a55ade77d6dad7aa", checked := Try.checked }
namespace Rows
def none {H : Type} : Left H := { results := [], args := [] }

/-- 'laws.FnExactDutiesOk': WHATEVER THE INPUT: true; the input reads as it did. -/
def fnExactDutiesOkSpec : ChangeSpec := { name := "fnExactDutiesOk", fn := fun _ => fun
  | [d] => { results := [.lit (.bool true)], args := [d] }
  | _ => none }
def fnExactDutiesOkRow : OpenClaim := { program := "ytdbpgfbbkejljaa", sum := "5fd553026f87ca290d76c38590c2f163657c6c9008277918a55ade77d6dad7aa", func := "loop.example/g00831/laws.FnExactDutiesOk", spec := "fnExactDutiesOk", apart := false }
def FnExactDutiesOkSaid : Prop := fnExactDutiesOkRow.holds Try.pinned (OpenSpec.ofChange fnExactDutiesOkSpec)

/-- ITS FALSE NEIGHBOUR: 'it returns false'. Refute it at one input. -/
def fnExactDutiesOkWrong : ChangeSpec := { name := "fnExactDutiesOk", fn := fun _ => fun
  | [d] => { results := [.lit (.bool false)], args := [d] }
  | _ => none }
def FnExactDutiesOkWrongFalsely : Prop := fnExactDutiesOkRow.holds Try.pinned (OpenSpec.ofChange fnExactDutiesOkWrong)

/-- 'laws.FnExactGap': WHATEVER THE INPUT: true; the input reads as it did. -/
def fnExactGapSpec : ChangeSpec := { name := "fnExactGap", fn := fun _ => fun
  | [d1, d2, d3, d4] => { results := [.lit (.bool true)], args := [d1, d2, d3, d4] }
  | _ => none }
def fnExactGapRow : OpenClaim := { program := "ytdbpgfbbkejljaa", sum := "5fd553026f87ca290d76c38590c2f163657c6c9008277918a55ade77d6dad7aa", func := "loop.example/g00831/laws.FnExactGap", spec := "fnExactGap", apart := false }
def FnExactGapSaid : Prop := fnExactGapRow.holds Try.pinned (OpenSpec.ofChange fnExactGapSpec)

/-- ITS FALSE NEIGHBOUR: 'it returns false'. Refute it at one input. -/
def fnExactGapWrong : ChangeSpec := { name := "fnExactGap", fn := fun _ => fun
  | [d1, d2, d3, d4] => { results := [.lit (.bool false)], args := [d1, d2, d3, d4] }
  | _ => none }
def FnExactGapWrongFalsely : Prop := fnExactGapRow.holds Try.pinned (OpenSpec.ofChange fnExactGapWrong)

/-- 'laws.FnExactCanFollow': WHATEVER THE INPUT: true; the input reads as it did. -/
def fnExactCanFollowSpec : ChangeSpec := { name := "fnExactCanFollow", fn := fun _ => fun
  | [d1, d2, d3, d4] => { results := [.lit (.bool true)], args := [d1, d2, d3, d4] }
  | _ => none }
def fnExactCanFollowRow : OpenClaim := { program := "ytdbpgfbbkejljaa", sum := "5fd553026f87ca290d76c38590c2f163657c6c9008277918a55ade77d6dad7aa", func := "loop.example/g00831/laws.FnExactCanFollow", spec := "fnExactCanFollow", apart := false }
def FnExactCanFollowSaid : Prop := fnExactCanFollowRow.holds Try.pinned (OpenSpec.ofChange fnExactCanFollowSpec)

/-- ITS FALSE NEIGHBOUR: 'it returns false'. Refute it at one input. -/
def fnExactCanFollowWrong : ChangeSpec := { name := "fnExactCanFollow", fn := fun _ => fun
  | [d1, d2, d3, d4] => { results := [.lit (.bool false)], args := [d1, d2, d3, d4] }
  | _ => none }
def FnExactCanFollowWrongFalsely : Prop := fnExactCanFollowRow.holds Try.pinned (OpenSpec.ofChange fnExactCanFollowWrong)

/-- 'laws.FnExactIsCover': WHATEVER THE INPUT: true; the input reads as it did. -/
def fnExactIsCoverSpec : ChangeSpec := { name := "fnExactIsCover", fn := fun _ => fun
  | [d1, d2, d3, d4] => { results := [.lit (.bool true)], args := [d1, d2, d3, d4] }
  | _ => none }
def fnExactIsCoverRow : OpenClaim := { program := "ytdbpgfbbkejljaa", sum := "5fd553026f87ca290d76c38590c2f163657c6c9008277918a55ade77d6dad7aa", func := "loop.example/g00831/laws.FnExactIsCover", spec := "fnExactIsCover", apart := false }
def FnExactIsCoverSaid : Prop := fnExactIsCoverRow.holds Try.pinned (OpenSpec.ofChange fnExactIsCoverSpec)

/-- ITS FALSE NEIGHBOUR: 'it returns false'. Refute it at one input. -/
def fnExactIsCoverWrong : ChangeSpec := { name := "fnExactIsCover", fn := fun _ => fun
  | [d1, d2, d3, d4] => { results := [.lit (.bool false)], args := [d1, d2, d3, d4] }
  | _ => none }
def FnExactIsCoverWrongFalsely : Prop := fnExactIsCoverRow.holds Try.pinned (OpenSpec.ofChange fnExactIsCoverWrong)

/-- 'laws.FnExactRivalDuties': WHATEVER THE INPUT: true; the input reads as it did. -/
def fnExactRivalDutiesSpec : ChangeSpec := { name := "fnExactRivalDuties", fn := fun _ => fun
  | [d1, d2, d3] => { results := [.lit (.bool true)], args := [d1, d2, d3] }
  | _ => none }
def fnExactRivalDutiesRow : OpenClaim := { program := "ytdbpgfbbkejljaa", sum := "5fd553026f87ca290d76c38590c2f163657c6c9008277918a55ade77d6dad7aa", func := "loop.example/g00831/laws.FnExactRivalDuties", spec := "fnExactRivalDuties", apart := false }
def FnExactRivalDutiesSaid : Prop := fnExactRivalDutiesRow.holds Try.pinned (OpenSpec.ofChange fnExactRivalDutiesSpec)

/-- ITS FALSE NEIGHBOUR: 'it returns false'. Refute it at one input. -/
def fnExactRivalDutiesWrong : ChangeSpec := { name := "fnExactRivalDuties", fn := fun _ => fun
  | [d1, d2, d3] => { results := [.lit (.bool false)], args := [d1, d2, d3] }
  | _ => none }
def FnExactRivalDutiesWrongFalsely : Prop := fnExactRivalDutiesRow.holds Try.pinned (OpenSpec.ofChange fnExactRivalDutiesWrong)

/-- 'laws.FnCovers': WHATEVER THE INPUT: true; the input reads as it did. -/
def fnCoversSpec : ChangeSpec := { name := "fnCovers", fn := fun _ => fun
  | [d] => { results := [.lit (.bool true)], args := [d] }
  | _ => none }
def fnCoversRow : OpenClaim := { program := "ytdbpgfbbkejljaa", sum := "5fd553026f87ca290d76c38590c2f163657c6c9008277918a55ade77d6dad7aa", func := "loop.example/g00831/laws.FnCovers", spec := "fnCovers", recurses := true, apart := false }
def FnCoversSaid : Prop := fnCoversRow.holds Try.pinned (OpenSpec.ofChange fnCoversSpec)

/-- ITS FALSE NEIGHBOUR: 'it returns false'. Refute it at one input. -/
def fnCoversWrong : ChangeSpec := { name := "fnCovers", fn := fun _ => fun
  | [d] => { results := [.lit (.bool false)], args := [d] }
  | _ => none }
def FnCoversWrongFalsely : Prop := fnCoversRow.holds Try.pinned (OpenSpec.ofChange fnCoversWrong)

/-- 'laws.FnDilworth': WHATEVER THE INPUT: true; the input reads as it did. -/
def fnDilworthSpec : ChangeSpec := { name := "fnDilworth", fn := fun _ => fun
  | [d] => { results := [.lit (.bool true)], args := [d] }
  | _ => none }
def fnDilworthRow : OpenClaim := { program := "ytdbpgfbbkejljaa", sum := "5fd553026f87ca290d76c38590c2f163657c6c9008277918a55ade77d6dad7aa", func := "loop.example/g00831/laws.FnDilworth", spec := "fnDilworth", recurses := true, apart := false }
def FnDilworthSaid : Prop := fnDilworthRow.holds Try.pinned (OpenSpec.ofChange fnDilworthSpec)

/-- ITS FALSE NEIGHBOUR: 'it returns false'. Refute it at one input. -/
def fnDilworthWrong : ChangeSpec := { name := "fnDilworth", fn := fun _ => fun
  | [d] => { results := [.lit (.bool false)], args := [d] }
  | _ => none }
def FnDilworthWrongFalsely : Prop := fnDilworthRow.holds Try.pinned (OpenSpec.ofChange fnDilworthWrong)

/- THE SECOND FORM. 'bulk': how many values and letters a reading holds, each counted each time it is reached (what is shared counts as often as it is met; a slice's spare places count too). A statement '..UptoSaid' is the law's where the arguments, and the package variables that the reading takes, are together of bulk at most 1048576: NARROWER than '..Said'. Prove '..Said' where nothing that the law and all that it calls make is longer than what came in: it says more and counts as full. Else prove '..UptoSaid'. A law counts once. -/
mutual
def uptoBulk {H : Type} : DataW H → Nat
  | .lit (.string bytes) => bytes.length + 1
  | .lit _ => 1
  | .nil => 1
  | .ptr d => uptoBulk d + 1
  | .slice elems spare => uptoBulkAll elems + uptoBulkAll spare + 1
  | .agg parts => uptoBulkAll parts + 1
  | .iface _ d => uptoBulk d + 1
  | .map entries => uptoBulkEntries entries + 1
  | .held _ => 1
def uptoBulkAll {H : Type} : List (DataW H) → Nat
  | [] => 0
  | d :: r => uptoBulk d + uptoBulkAll r
def uptoBulkEntries {H : Type} : List (Lit × DataW H) → Nat
  | [] => 0
  | x :: r => uptoBulkEntry x + uptoBulkEntries r
def uptoBulkEntry {H : Type} : Lit × DataW H → Nat
  | (.string bytes, d) => bytes.length + uptoBulk d + 1
  | (_, d) => uptoBulk d + 1
 end
def uptoSmall : (H : Type) → List (DataW H) → Bool := fun _ ds => decide (uptoBulkAll ds ≤ 1048576)
def OpenSpec.upto (s : _root_.Go.ChangeSpec) : _root_.Go.OpenSpec := { _root_.Go.OpenSpec.ofChange s with cond := some uptoSmall }

/-- 'laws.FnExactDutiesOk', WHERE WHAT IT READS IS OF BULK AT MOST 1048576: true; the input reads as it did. -/
def fnExactDutiesOkUptoRow : OpenClaim := { program := "ytdbpgfbbkejljaa", sum := "5fd553026f87ca290d76c38590c2f163657c6c9008277918a55ade77d6dad7aa", func := "loop.example/g00831/laws.FnExactDutiesOk", spec := "fnExactDutiesOk", apart := false, narrowed := true }
def FnExactDutiesOkUptoSaid : Prop := fnExactDutiesOkUptoRow.holds Try.pinned (OpenSpec.upto fnExactDutiesOkSpec)

/-- 'laws.FnExactGap', WHERE WHAT IT READS IS OF BULK AT MOST 1048576: true; the input reads as it did. -/
def fnExactGapUptoRow : OpenClaim := { program := "ytdbpgfbbkejljaa", sum := "5fd553026f87ca290d76c38590c2f163657c6c9008277918a55ade77d6dad7aa", func := "loop.example/g00831/laws.FnExactGap", spec := "fnExactGap", apart := false, narrowed := true }
def FnExactGapUptoSaid : Prop := fnExactGapUptoRow.holds Try.pinned (OpenSpec.upto fnExactGapSpec)

/-- 'laws.FnExactCanFollow', WHERE WHAT IT READS IS OF BULK AT MOST 1048576: true; the input reads as it did. -/
def fnExactCanFollowUptoRow : OpenClaim := { program := "ytdbpgfbbkejljaa", sum := "5fd553026f87ca290d76c38590c2f163657c6c9008277918a55ade77d6dad7aa", func := "loop.example/g00831/laws.FnExactCanFollow", spec := "fnExactCanFollow", apart := false, narrowed := true }
def FnExactCanFollowUptoSaid : Prop := fnExactCanFollowUptoRow.holds Try.pinned (OpenSpec.upto fnExactCanFollowSpec)

/-- 'laws.FnExactIsCover', WHERE WHAT IT READS IS OF BULK AT MOST 1048576: true; the input reads as it did. -/
def fnExactIsCoverUptoRow : OpenClaim := { program := "ytdbpgfbbkejljaa", sum := "5fd553026f87ca290d76c38590c2f163657c6c9008277918a55ade77d6dad7aa", func := "loop.example/g00831/laws.FnExactIsCover", spec := "fnExactIsCover", apart := false, narrowed := true }
def FnExactIsCoverUptoSaid : Prop := fnExactIsCoverUptoRow.holds Try.pinned (OpenSpec.upto fnExactIsCoverSpec)

/-- 'laws.FnExactRivalDuties', WHERE WHAT IT READS IS OF BULK AT MOST 1048576: true; the input reads as it did. -/
def fnExactRivalDutiesUptoRow : OpenClaim := { program := "ytdbpgfbbkejljaa", sum := "5fd553026f87ca290d76c38590c2f163657c6c9008277918a55ade77d6dad7aa", func := "loop.example/g00831/laws.FnExactRivalDuties", spec := "fnExactRivalDuties", apart := false, narrowed := true }
def FnExactRivalDutiesUptoSaid : Prop := fnExactRivalDutiesUptoRow.holds Try.pinned (OpenSpec.upto fnExactRivalDutiesSpec)

/-- 'laws.FnCovers', WHERE WHAT IT READS IS OF BULK AT MOST 1048576: true; the input reads as it did. -/
def fnCoversUptoRow : OpenClaim := { program := "ytdbpgfbbkejljaa", sum := "5fd553026f87ca290d76c38590c2f163657c6c9008277918a55ade77d6dad7aa", func := "loop.example/g00831/laws.FnCovers", spec := "fnCovers", recurses := true, apart := false, narrowed := true }
def FnCoversUptoSaid : Prop := fnCoversUptoRow.holds Try.pinned (OpenSpec.upto fnCoversSpec)

/-- 'laws.FnDilworth', WHERE WHAT IT READS IS OF BULK AT MOST 1048576: true; the input reads as it did. -/
def fnDilworthUptoRow : OpenClaim := { program := "ytdbpgfbbkejljaa", sum := "5fd553026f87ca290d76c38590c2f163657c6c9008277918a55ade77d6dad7aa", func := "loop.example/g00831/laws.FnDilworth", spec := "fnDilworth", recurses := true, apart := false, narrowed := true }
def FnDilworthUptoSaid : Prop := fnDilworthUptoRow.holds Try.pinned (OpenSpec.upto fnDilworthSpec)

end Rows
end Go.Proofs.Ytdbpgfbbkejljaa
