/-
  No cell of these rows narrows 'for every input' (looked for: loops, veiled, ifaces, maps, wideKeys, modest, calm, conditions, laid).
  DERIVED. THE GIVEN ROWS OF THIS SEAT. 5 by the template 'for every input the law returns true; each argument reads behind the call as it read before'; 0 by the template 'total and deterministic' (their statements: YtpbcbdjjpkenjaaTotals.lean).
  GIVEN WITH THE SEED: the statements are not yours to turn. If you find one false, say at which input.
  Laid BY PROGRAM, IN A SANDBOX (cutbox-rows.mjs): the forced cells as the released guide's own fill.sh prints them over the translation a5d53cdf9470c459… (all of the seat's roots in one cut). By AI agents, Wed Nov 11 2026. No macro, syntax, notation, axiom, sorry.
-/
import Derived.Test.YtpbcbdjjpkenjaaChecked
import GoSem.Claim
import GoSem.ClaimJoined
import GoSem.ClaimMapViews
import Derived.JoinedTies
import Derived.KernelRfl
namespace Go.Proofs.Ytpbcbdjjpkenjaa
/- THE CELL 'sum', in the pinned program and in every row, IS THE sha256 OF THE DUMP (.gsa) THAT YtpbcbdjjpkenjaaProg.lean LOADS. Nothing in Lean hashes anything: it is a label: what it is worth is what the hold of that sum in a sandbox is worth. -/
noncomputable def Try.pinned : Pinned := { name := "ytpbcbdjjpkenjaa", sum := "a5d53cdf9470c459ee3aa620eb84f50802d4da429508fc6fd532c59c2b6b5562", checked := Try.checked }
namespace Rows
def none {H : Type} : Left H := { results := [], args := [] }

/-- 'laws.FnAfloat': WHATEVER THE INPUT: true; the input reads as it did. -/
def fnAfloatSpec : ChangeSpec := { name := "fnAfloat", fn := fun _ => fun
  | [d] => { results := [.lit (.bool true)], args := [d] }
  | _ => none }
def fnAfloatRow : OpenClaim := { program := "ytpbcbdjjpkenjaa", sum := "a5d53cdf9470c459ee3aa620eb84f50802d4da429508fc6fd532c59c2b6b5562", func := "loop.example/g00831/laws.FnAfloat", spec := "fnAfloat", unfollowed := true, recurses := true, apart := false }
def FnAfloatSaid : Prop := fnAfloatRow.holds Try.pinned (OpenSpec.ofChange fnAfloatSpec)

/-- ITS FALSE NEIGHBOUR: 'it returns false'. Refute it at one input. -/
def fnAfloatWrong : ChangeSpec := { name := "fnAfloat", fn := fun _ => fun
  | [d] => { results := [.lit (.bool false)], args := [d] }
  | _ => none }
def FnAfloatWrongFalsely : Prop := fnAfloatRow.holds Try.pinned (OpenSpec.ofChange fnAfloatWrong)

/-- 'laws.FnExactDraughtFor': WHATEVER THE INPUT: true; the input reads as it did. -/
def fnExactDraughtForSpec : ChangeSpec := { name := "fnExactDraughtFor", fn := fun _ => fun
  | [d1, d2, d3, d4, d5] => { results := [.lit (.bool true)], args := [d1, d2, d3, d4, d5] }
  | _ => none }
def fnExactDraughtForRow : OpenClaim := { program := "ytpbcbdjjpkenjaa", sum := "a5d53cdf9470c459ee3aa620eb84f50802d4da429508fc6fd532c59c2b6b5562", func := "loop.example/g00831/laws.FnExactDraughtFor", spec := "fnExactDraughtFor", apart := false }
def FnExactDraughtForSaid : Prop := fnExactDraughtForRow.holds Try.pinned (OpenSpec.ofChange fnExactDraughtForSpec)

/-- ITS FALSE NEIGHBOUR: 'it returns false'. Refute it at one input. -/
def fnExactDraughtForWrong : ChangeSpec := { name := "fnExactDraughtFor", fn := fun _ => fun
  | [d1, d2, d3, d4, d5] => { results := [.lit (.bool false)], args := [d1, d2, d3, d4, d5] }
  | _ => none }
def FnExactDraughtForWrongFalsely : Prop := fnExactDraughtForRow.holds Try.pinned (OpenSpec.ofChange fnExactDraughtForWrong)

/-- 'laws.FnExactIsOpenStart': WHATEVER THE INPUT: true; the input reads as it did. -/
def fnExactIsOpenStartSpec : ChangeSpec := { name := "fnExactIsOpenStart", fn := fun _ => fun
  | [d1, d2, d3, d4, d5] => { results := [.lit (.bool true)], args := [d1, d2, d3, d4, d5] }
  | _ => none }
def fnExactIsOpenStartRow : OpenClaim := { program := "ytpbcbdjjpkenjaa", sum := "a5d53cdf9470c459ee3aa620eb84f50802d4da429508fc6fd532c59c2b6b5562", func := "loop.example/g00831/laws.FnExactIsOpenStart", spec := "fnExactIsOpenStart", unfollowed := true, recurses := true, apart := false }
def FnExactIsOpenStartSaid : Prop := fnExactIsOpenStartRow.holds Try.pinned (OpenSpec.ofChange fnExactIsOpenStartSpec)

/-- ITS FALSE NEIGHBOUR: 'it returns false'. Refute it at one input. -/
def fnExactIsOpenStartWrong : ChangeSpec := { name := "fnExactIsOpenStart", fn := fun _ => fun
  | [d1, d2, d3, d4, d5] => { results := [.lit (.bool false)], args := [d1, d2, d3, d4, d5] }
  | _ => none }
def FnExactIsOpenStartWrongFalsely : Prop := fnExactIsOpenStartRow.holds Try.pinned (OpenSpec.ofChange fnExactIsOpenStartWrong)

/-- 'laws.FnExactIsSure': WHATEVER THE INPUT: true; the input reads as it did. -/
def fnExactIsSureSpec : ChangeSpec := { name := "fnExactIsSure", fn := fun _ => fun
  | [d1, d2, d3, d4, d5] => { results := [.lit (.bool true)], args := [d1, d2, d3, d4, d5] }
  | _ => none }
def fnExactIsSureRow : OpenClaim := { program := "ytpbcbdjjpkenjaa", sum := "a5d53cdf9470c459ee3aa620eb84f50802d4da429508fc6fd532c59c2b6b5562", func := "loop.example/g00831/laws.FnExactIsSure", spec := "fnExactIsSure", unfollowed := true, recurses := true, apart := false }
def FnExactIsSureSaid : Prop := fnExactIsSureRow.holds Try.pinned (OpenSpec.ofChange fnExactIsSureSpec)

/-- ITS FALSE NEIGHBOUR: 'it returns false'. Refute it at one input. -/
def fnExactIsSureWrong : ChangeSpec := { name := "fnExactIsSure", fn := fun _ => fun
  | [d1, d2, d3, d4, d5] => { results := [.lit (.bool false)], args := [d1, d2, d3, d4, d5] }
  | _ => none }
def FnExactIsSureWrongFalsely : Prop := fnExactIsSureRow.holds Try.pinned (OpenSpec.ofChange fnExactIsSureWrong)

/-- 'laws.FnExactOpenStarts': WHATEVER THE INPUT: true; the input reads as it did. -/
def fnExactOpenStartsSpec : ChangeSpec := { name := "fnExactOpenStarts", fn := fun _ => fun
  | [d1, d2, d3, d4] => { results := [.lit (.bool true)], args := [d1, d2, d3, d4] }
  | _ => none }
def fnExactOpenStartsRow : OpenClaim := { program := "ytpbcbdjjpkenjaa", sum := "a5d53cdf9470c459ee3aa620eb84f50802d4da429508fc6fd532c59c2b6b5562", func := "loop.example/g00831/laws.FnExactOpenStarts", spec := "fnExactOpenStarts", unfollowed := true, recurses := true, apart := false }
def FnExactOpenStartsSaid : Prop := fnExactOpenStartsRow.holds Try.pinned (OpenSpec.ofChange fnExactOpenStartsSpec)

/-- ITS FALSE NEIGHBOUR: 'it returns false'. Refute it at one input. -/
def fnExactOpenStartsWrong : ChangeSpec := { name := "fnExactOpenStarts", fn := fun _ => fun
  | [d1, d2, d3, d4] => { results := [.lit (.bool false)], args := [d1, d2, d3, d4] }
  | _ => none }
def FnExactOpenStartsWrongFalsely : Prop := fnExactOpenStartsRow.holds Try.pinned (OpenSpec.ofChange fnExactOpenStartsWrong)

/- THE SECOND FORM. 'bulk': how many values and letters a reading holds, each counted each time it is reached (what is shared counts as often as it is met; a slice's spare places count too). A statement '..UptoSaid' is the law's where the arguments, and the package variables that the reading takes, are together of bulk at most 1048576: NARROWER than '..Said'. Prove '..Said' where nothing that the law and all that it calls make is longer than what came in: it says more and counts as full. Else prove '..UptoSaid'. A law counts once. -/
mutual
def uptoBulk {H : Type} : DataW H → Nat
  | .lit (.string bytes) => bytes.length + 1
  | .lit _ => 1
  | .nil => 1
  | .ptr d => uptoBulk d + 1
  | .slice elems spare => uptoBulkAll elems + uptoBulkAll spare + 1
  | .agg parts => uptoBulkAll parts + 1
  | .iface _ d => uptoBulk d + 1
  | .map entries => uptoBulkEntries entries + 1
  | .held _ => 1
def uptoBulkAll {H : Type} : List (DataW H) → Nat
  | [] => 0
  | d :: r => uptoBulk d + uptoBulkAll r
def uptoBulkEntries {H : Type} : List (Lit × DataW H) → Nat
  | [] => 0
  | x :: r => uptoBulkEntry x + uptoBulkEntries r
def uptoBulkEntry {H : Type} : Lit × DataW H → Nat
  | (.string bytes, d) => bytes.length + uptoBulk d + 1
  | (_, d) => uptoBulk d + 1
 end
def uptoSmall : (H : Type) → List (DataW H) → Bool := fun _ ds => decide (uptoBulkAll ds ≤ 1048576)
def OpenSpec.upto (s : _root_.Go.ChangeSpec) : _root_.Go.OpenSpec := { _root_.Go.OpenSpec.ofChange s with cond := some uptoSmall }

/-- 'laws.FnAfloat', WHERE WHAT IT READS IS OF BULK AT MOST 1048576: true; the input reads as it did. -/
def fnAfloatUptoRow : OpenClaim := { program := "ytpbcbdjjpkenjaa", sum := "a5d53cdf9470c459ee3aa620eb84f50802d4da429508fc6fd532c59c2b6b5562", func := "loop.example/g00831/laws.FnAfloat", spec := "fnAfloat", unfollowed := true, recurses := true, apart := false, narrowed := true }
def FnAfloatUptoSaid : Prop := fnAfloatUptoRow.holds Try.pinned (OpenSpec.upto fnAfloatSpec)

/-- 'laws.FnExactDraughtFor', WHERE WHAT IT READS IS OF BULK AT MOST 1048576: true; the input reads as it did. -/
def fnExactDraughtForUptoRow : OpenClaim := { program := "ytpbcbdjjpkenjaa", sum := "a5d53cdf9470c459ee3aa620eb84f50802d4da429508fc6fd532c59c2b6b5562", func := "loop.example/g00831/laws.FnExactDraughtFor", spec := "fnExactDraughtFor", apart := false, narrowed := true }
def FnExactDraughtForUptoSaid : Prop := fnExactDraughtForUptoRow.holds Try.pinned (OpenSpec.upto fnExactDraughtForSpec)

/-- 'laws.FnExactIsOpenStart', WHERE WHAT IT READS IS OF BULK AT MOST 1048576: true; the input reads as it did. -/
def fnExactIsOpenStartUptoRow : OpenClaim := { program := "ytpbcbdjjpkenjaa", sum := "a5d53cdf9470c459ee3aa620eb84f50802d4da429508fc6fd532c59c2b6b5562", func := "loop.example/g00831/laws.FnExactIsOpenStart", spec := "fnExactIsOpenStart", unfollowed := true, recurses := true, apart := false, narrowed := true }
def FnExactIsOpenStartUptoSaid : Prop := fnExactIsOpenStartUptoRow.holds Try.pinned (OpenSpec.upto fnExactIsOpenStartSpec)

/-- 'laws.FnExactIsSure', WHERE WHAT IT READS IS OF BULK AT MOST 1048576: true; the input reads as it did. -/
def fnExactIsSureUptoRow : OpenClaim := { program := "ytpbcbdjjpkenjaa", sum := "a5d53cdf9470c459ee3aa620eb84f50802d4da429508fc6fd532c59c2b6b5562", func := "loop.example/g00831/laws.FnExactIsSure", spec := "fnExactIsSure", unfollowed := true, recurses := true, apart := false, narrowed := true }
def FnExactIsSureUptoSaid : Prop := fnExactIsSureUptoRow.holds Try.pinned (OpenSpec.upto fnExactIsSureSpec)

/-- 'laws.FnExactOpenStarts', WHERE WHAT IT READS IS OF BULK AT MOST 1048576: true; the input reads as it did. -/
def fnExactOpenStartsUptoRow : OpenClaim := { program := "ytpbcbdjjpkenjaa", sum := "a5d53cdf9470c459ee3aa620eb84f50802d4da429508fc6fd532c59c2b6b5562", func := "loop.example/g00831/laws.FnExactOpenStarts", spec := "fnExactOpenStarts", unfollowed := true, recurses := true, apart := false, narrowed := true }
def FnExactOpenStartsUptoSaid : Prop := fnExactOpenStartsUptoRow.holds Try.pinned (OpenSpec.upto fnExactOpenStartsSpec)

end Rows
end Go.Proofs.Ytpbcbdjjpkenjaa
