/- Digits, numbers and choices drawn out of bytes. No condition. -/
import Derived.Test.YtpbcbdjjpkenjaaCur
import Derived.Laws.IdiomStrings
namespace Go.Proofs.Ytpbcbdjjpkenjaa
open Go.RowKit
set_option linter.unusedVariables false
theorem CurW.store {g b o : Nat} {w w' : World} (h : CurW g w w') (hb : w.heap.size ≤ b) (u : Value) : CurW g w (w'.setCell ⟨b, o, none⟩ u) :=
  ⟨h.os, h.tape, h.output, by simpa [World.setCell] using h.size, fun q hq hn => (Below.heap_setCell w' ⟨b, o, none⟩ u q (by simp; omega)).trans (h.block q hq hn)⟩
theorem CurW.alloc {g : Nat} {w w' : World} (h : CurW g w w') (o : Obj) : CurW g w (w'.alloc o) := h.trans (CurW.ofBelow ((Below.refl _ _).alloc (Nat.le_refl _) _))
/-- what has turned behind a CurW only in blocks that were not there -/
theorem CurW.fresh {g : Nat} {w w1 w2 : World} (h : CurW g w w1) (hb : Below w.heap.size w1 w2) : CurW g w w2 :=
  ⟨hb.os.trans h.os, hb.tape.trans h.tape, hb.output.trans h.output, Nat.le_trans h.size hb.size, fun q hq hn => (hb.block q hq).trans (h.block q hq hn)⟩
def dig (n : Nat) : ByteArray := ⟨#[UInt8.ofNat (48 + n)]⟩
set_option maxRecDepth 100000 in
set_option maxHeartbeats 8000000 in
theorem FormatInt_dig (n : Nat) (hn : n ≤ 9) (w : World) :
    Calls Try.prog 91 #[.int .i64 n] w fun e w' => e = .returned (.string (dig n)) ∧ Below w.heap.size w w' := by
  have h0 : ¬ ((n : Int) < 0) := by omega
  have hw1 : IntKind.i64.wrap (48 + (n : Int)) = 48 + (n : Int) := IntWalk.i64_in _ (by omega)
  have hw2 : IntKind.u8.wrap (48 + (n : Int)) = 48 + (n : Int) := by unfold IntKind.wrap; simp [IntKind.bits, IntKind.signed]; omega
  have hcv : (convert 22 9 (.slice (some ⟨w.heap.size, 0, none⟩) 1 1)).run Try.prog (w.alloc (.cells #[.int .u8 (48 + (n : Int))] 5)) = .ok (.string (dig n)) (w.alloc (.cells #[.int .u8 (48 + (n : Int))] 5)) := by
    have := run_convert_bytes_back (P := Try.prog) (w.alloc (.cells #[.int .u8 (48 + (n : Int))] 5)) 22 9 5 ⟨w.heap.size, 0, none⟩ 1 [UInt8.ofNat (48 + n)] Try.underlying22 Try.underlying5 Try.underlying9 (by
      intro j hj
      obtain rfl : j = 0 := by simpa using hj
      simp [go_sem]
      omega)
    exact this
  have h9 : ¬ (9 < (n : Int)) := by omega
  go_enter Try.func91, Try.ntmps91
  go_wp2
  go_loop [0, 3] (fun a s => a = .int .i64 n ∧ s = .string ⟨#[]⟩) (fun _ _ => 0)
  case atStart => exact ⟨rfl, rfl⟩
  case round =>
    obtain ⟨rfl, rfl⟩ := hrel
    have h9 : ¬ (9 < (n : Int)) := by omega
    go_wp2
    go_ret
    exact ⟨by rw [show dig n ++ (⟨#[]⟩ : ByteArray) = dig n from ByteArray.append_empty]; rfl, (by repeat (first | exact Below.refl _ _ | assumption | refine Below.setCell ?_ (by first | omega | (simp <;> omega)) _ | refine Below.alloc ?_ (by first | omega | (simp <;> omega)) _ | refine below_drewN ?_ _ | refine Below.drew ?_ | refine Below.trans ?_ (Below.mono (by assumption) (by first | omega | (simp <;> omega)))))⟩
set_option maxHeartbeats 4000000 in
theorem l01Once_any (B g : Nat) (v : Value) (bs : List Int) (n : Int) (w : World) (h : Cur w B g v bs) (hn : n ≤ 9223372036854775807) :
    Calls Try.prog 90 #[.pointer (some ⟨g, 0, none⟩), .int .i64 n] w fun e w' => ∃ b : Bool, e = .returned (.bool b) ∧ Cur w' B g v bs ∧ CurW g w w' := by
  have HC := hide h; clear h
  go_enter Try.func90, Try.ntmps90
  go_wp2_with fail
  refine (l01Below_any B g v bs n _ HC.out hn).mono ?_
  rintro e w2 ⟨x, rfl, -, -, -, -, hc, hw⟩
  have HC2 := hide hc; have HW := hide hw; clear hc hw
  go_wp2
  go_ret
  exact ⟨_, rfl, HC2.out, HW.out⟩
set_option maxRecDepth 100000 in
set_option maxHeartbeats 8000000 in
theorem l28New_any (v : Value) (bs : List Int) (n : Nat) (w : World) (h : RdB w w.heap.size 1 enc8 v bs) (hby : Byt bs) (hn : bs.length ≤ 1048576) (hn2 : n ≤ 100000) :
    Calls Try.prog 44 #[v, .int .i64 n] w (NewRes v bs w) := by
  have HR := hide h; have HBY := hide hby; have HN := hide hn; clear hby hn
  obtain ⟨A1, cc1, rfl, hc1, hm1, -⟩ := h
  go_enter Try.func44, Try.ntmps44
  go_wp2_with fail
  refine (l01New_any _ bs _ HR.out HBY.out HN.out).mono ?_
  rintro e w2 ⟨g, rfl, hg, hcur, hb2⟩
  have HC := hide hcur; clear hcur
  go_wp2_with fail
  go_loopw [6] (fun s wr => ∃ k : Nat, k ≤ n ∧ s = .int .i64 k ∧ Hid (Cur wr w.heap.size g (.slice A1 bs.length cc1) bs) ∧ Below w.heap.size w wr) (fun s _ => n - (intOf s).toNat)
  case atStart => exact ⟨0, Nat.zero_le _, rfl, HC, hb2⟩
  case round =>
    clear HC hb2
    obtain ⟨k, hk, rfl, HC, hbk⟩ := hrel
    obtain ⟨wo, rfl⟩ : ∃ wo : World, wo = wr := ⟨_, rfl⟩
    have hbs := hbk.size
    by_cases hlt : k < n
    · have hlt' : (k : Int) < n := by omega
      have hw2 : IntKind.i64.wrap ((k : Int) + 1) = (k : Int) + 1 := IntWalk.i64_in _ (by omega)
      go_wp2_with fail
      refine (l01Byte_any _ g _ bs _ HC.out).mono ?_
      rintro e w3 ⟨x, rfl, -, -, hcur, hw⟩
      have HC3 := hide hcur; clear hcur
      have hb3 := hbk.trans (hw.below hg hbs)
      go_wp2
      go_roundw
      case rel => exact ⟨k + 1, by omega, by first | rfl | go_num, HC3, hb3⟩
      case measure => simp [intOf] <;> omega
    · have hlt' : ¬ ((k : Int) < n) := by omega
      go_wp2
      go_ret
      exact ⟨g, rfl, hg, HC.out, hbk⟩
set_option maxRecDepth 100000 in
set_option maxHeartbeats 8000000 in
theorem MakeNum_any (v : Value) (bs : List Int) (n : Nat) (w : World) (h : RdB w w.heap.size 1 enc8 v bs) (hby : Byt bs) (hn : bs.length ≤ 1048576) (hn2 : n ≤ 100000) :
    Calls Try.prog 11 #[v, .int .i64 n] w fun e w' => ∃ x : Int, e = .returned (.int .i64 x) ∧ 0 ≤ x ∧ x ≤ 65535 ∧ Below w.heap.size w w' := by
  have HR := hide h; have HBY := hide hby; have HN := hide hn; clear hby hn
  obtain ⟨A1, cc1, rfl, hc1, hm1, -⟩ := h
  go_enter Try.func11, Try.ntmps11
  go_wp2_with fail
  refine (l28New_any _ bs n _ HR.out HBY.out HN.out hn2).mono ?_
  rintro e w2 ⟨g, rfl, hg, hcur, hb2⟩
  have HC := hide hcur; clear hcur
  have hs2 := hb2.size
  go_wp2_with fail
  refine (l01Byte_any _ g _ bs _ HC.out).mono ?_
  rintro e w3 ⟨x, rfl, x0, x1, hcur, hw3⟩
  have HC3 := hide hcur; clear hcur
  have hb3 := hb2.trans (hw3.below hg hs2)
  have hs3 := hb3.size
  have hxm : IntKind.i64.wrap (x * 256) = x * 256 := IntWalk.i64_in _ (by omega)
  go_wp2_with fail
  refine (l01Byte_any _ g _ bs _ HC3.out).mono ?_
  rintro e w4 ⟨y, rfl, y0, y1, hcur, hw4⟩
  have hb4 := hb3.trans (hw4.below hg hs3)
  have hym : IntKind.i64.wrap (x * 256 + y) = x * 256 + y := IntWalk.i64_in _ (by omega)
  clear hcur
  go_wp2
  go_ret
  exact ⟨_, rfl, by omega, by omega, hb4⟩
end Go.Proofs.Ytpbcbdjjpkenjaa
