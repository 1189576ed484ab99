/- Digits, numbers and choices drawn out of bytes. No condition. -/
import Derived.Test.YtjfppjhlkeopnaaCur
import Derived.Laws.IdiomStrings
namespace Go.Proofs.Ytjfppjhlkeopnaa
open Go.RowKit
set_option linter.unusedVariables false
theorem CurW.store {g b o : Nat} {w w' : World} (h : CurW g w w') (hb : w.heap.size ≤ b) (u : Value) : CurW g w (w'.setCell ⟨b, o, none⟩ u) :=
  ⟨h.os, h.tape, h.output, by simpa [World.setCell] using h.size, fun q hq hn => (Below.heap_setCell w' ⟨b, o, none⟩ u q (by simp; omega)).trans (h.block q hq hn)⟩
theorem CurW.alloc {g : Nat} {w w' : World} (h : CurW g w w') (o : Obj) : CurW g w (w'.alloc o) := h.trans (CurW.ofBelow ((Below.refl _ _).alloc (Nat.le_refl _) _))
/-- what has turned behind a CurW only in blocks that were not there -/
theorem CurW.fresh {g : Nat} {w w1 w2 : World} (h : CurW g w w1) (hb : Below w.heap.size w1 w2) : CurW g w w2 :=
  ⟨hb.os.trans h.os, hb.tape.trans h.tape, hb.output.trans h.output, Nat.le_trans h.size hb.size, fun q hq hn => (hb.block q hq).trans (h.block q hq hn)⟩
def dig (n : Nat) : ByteArray := ⟨#[UInt8.ofNat (48 + n)]⟩
set_option maxRecDepth 100000 in
set_option maxHeartbeats 8000000 in
theorem FormatInt_dig (n : Nat) (hn : n ≤ 9) (w : World) :
    Calls Try.prog 99 #[.int .i64 n] w fun e w' => e = .returned (.string (dig n)) ∧ Below w.heap.size w w' := by
  have h0 : ¬ ((n : Int) < 0) := by omega
  have hw1 : IntKind.i64.wrap (48 + (n : Int)) = 48 + (n : Int) := IntWalk.i64_in _ (by omega)
  have hw2 : IntKind.u8.wrap (48 + (n : Int)) = 48 + (n : Int) := by unfold IntKind.wrap; simp [IntKind.bits, IntKind.signed]; omega
  have hcv : (convert 50 9 (.slice (some ⟨w.heap.size, 0, none⟩) 1 1)).run Try.prog (w.alloc (.cells #[.int .u8 (48 + (n : Int))] 5)) = .ok (.string (dig n)) (w.alloc (.cells #[.int .u8 (48 + (n : Int))] 5)) := by
    have := run_convert_bytes_back (P := Try.prog) (w.alloc (.cells #[.int .u8 (48 + (n : Int))] 5)) 50 9 5 ⟨w.heap.size, 0, none⟩ 1 [UInt8.ofNat (48 + n)] Try.underlying50 Try.underlying5 Try.underlying9 (by
      intro j hj
      obtain rfl : j = 0 := by simpa using hj
      simp [go_sem]
      omega)
    exact this
  have h9 : ¬ (9 < (n : Int)) := by omega
  go_enter Try.func99, Try.ntmps99
  go_wp2
  go_loop [0, 3] (fun a s => a = .int .i64 n ∧ s = .string ⟨#[]⟩) (fun _ _ => 0)
  case atStart => exact ⟨rfl, rfl⟩
  case round =>
    obtain ⟨rfl, rfl⟩ := hrel
    have h9 : ¬ (9 < (n : Int)) := by omega
    go_wp2
    go_ret
    exact ⟨by rw [show dig n ++ (⟨#[]⟩ : ByteArray) = dig n from ByteArray.append_empty]; rfl, (by repeat (first | exact Below.refl _ _ | assumption | refine Below.setCell ?_ (by first | omega | (simp <;> omega)) _ | refine Below.alloc ?_ (by first | omega | (simp <;> omega)) _ | refine below_drewN ?_ _ | refine Below.drew ?_ | refine Below.trans ?_ (Below.mono (by assumption) (by first | omega | (simp <;> omega)))))⟩
set_option maxHeartbeats 4000000 in
theorem l01Once_any (B g : Nat) (v : Value) (bs : List Int) (n : Int) (w : World) (h : Cur w B g v bs) (hn : n ≤ 9223372036854775807) :
    Calls Try.prog 90 #[.pointer (some ⟨g, 0, none⟩), .int .i64 n] w fun e w' => ∃ b : Bool, e = .returned (.bool b) ∧ Cur w' B g v bs ∧ CurW g w w' := by
  have HC := hide h; clear h
  go_enter Try.func90, Try.ntmps90
  go_wp2_with fail
  refine (l01Below_any B g v bs n _ HC.out hn).mono ?_
  rintro e w2 ⟨x, rfl, -, -, -, -, hc, hw⟩
  have HC2 := hide hc; have HW := hide hw; clear hc hw
  go_wp2
  go_ret
  exact ⟨_, rfl, HC2.out, HW.out⟩
end Go.Proofs.Ytjfppjhlkeopnaa
