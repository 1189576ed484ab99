/- Digits, numbers and choices drawn out of bytes. No condition. -/
import Derived.Test.YtdbpgfbbkejljaaCur
import Derived.Laws.IdiomStrings
namespace Go.Proofs.Ytdbpgfbbkejljaa
open Go.RowKit
set_option linter.unusedVariables false
theorem CurW.store {g b o : Nat} {w w' : World} (h : CurW g w w') (hb : w.heap.size ≤ b) (u : Value) : CurW g w (w'.setCell ⟨b, o, none⟩ u) :=
  ⟨h.os, h.tape, h.output, by simpa [World.setCell] using h.size, fun q hq hn => (Below.heap_setCell w' ⟨b, o, none⟩ u q (by simp; omega)).trans (h.block q hq hn)⟩
theorem CurW.alloc {g : Nat} {w w' : World} (h : CurW g w w') (o : Obj) : CurW g w (w'.alloc o) := h.trans (CurW.ofBelow ((Below.refl _ _).alloc (Nat.le_refl _) _))
/-- what has turned behind a CurW only in blocks that were not there -/
theorem CurW.fresh {g : Nat} {w w1 w2 : World} (h : CurW g w w1) (hb : Below w.heap.size w1 w2) : CurW g w w2 :=
  ⟨hb.os.trans h.os, hb.tape.trans h.tape, hb.output.trans h.output, Nat.le_trans h.size hb.size, fun q hq hn => (hb.block q hq).trans (h.block q hq hn)⟩
def dig (n : Nat) : ByteArray := ⟨#[UInt8.ofNat (48 + n)]⟩
end Go.Proofs.Ytdbpgfbbkejljaa
