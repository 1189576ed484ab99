/- Ships and fleets: whether they are valid, found by name, their needs. No condition. -/
import Derived.Test.YtpbcbdjjpkenjaaName
import Derived.Test.YtpbcbdjjpkenjaaSShip
namespace Go.Proofs.Ytpbcbdjjpkenjaa
open Go.RowKit
set_option linter.unusedVariables false

def shipOk (s : ShipD) : Bool := isName s.name && inB s.length 10 400 && inB s.draught 100 2000 && inB s.line 0 3 && inB s.tugs 0 4
theorem shipOk_of {s : ShipD} (h : shipOk s = true) : 10 ≤ s.length ∧ s.length ≤ 400 ∧ 100 ≤ s.draught ∧ s.draught ≤ 2000 ∧ 0 ≤ s.line ∧ s.line ≤ 3 ∧ 0 ≤ s.tugs ∧ s.tugs ≤ 4 := by simp [shipOk, inB] at h; omega
def sameName (name : ByteArray) (xs : List ShipD) (j : Nat) : Bool := decide ((xs.getD j default).name = name)
def shipNamed (xs : List ShipD) (name : ByteArray) : Int := firstUpTo (sameName name xs) xs.length
def fleetRow (xs : List ShipD) (i : Nat) : Bool := shipOk (xs.getD i default) && decide (shipNamed xs (xs.getD i default).name = i)
def fleetOk (xs : List ShipD) : Bool := decide (xs.length ≤ 6) && allUpTo (fleetRow xs) xs.length
def squat (s : ShipD) : Int := if s.slow then s.draught / 50 else s.draught / 20
def squatOf (s : ShipD) : Int := if shipOk s then squat s else 0
def needOf (s : ShipD) : Int := if shipOk s then s.draught + squat s + 50 else 0
set_option maxHeartbeats 2000000 in
theorem spec_ShipOk_any (x0 : ByteArray) (x1 x2 x3 x4 : Int) (x5 : Bool) (w : World) (hs : x0.size ≤ maxLen) :
    Calls Try.prog 109 #[.agg #[.string x0, .int .i64 x1, .int .i64 x2, .int .i64 x3, .int .i64 x4, .bool x5]] w fun e w' => e = .returned (.bool (shipOk ⟨x0, x1, x2, x3, x4, x5⟩)) ∧ Below w.heap.size w w' := by
  go_enter Try.func109, Try.ntmps109
  go_wp2_with (first
    | (go_at_call 130; refine (spec_IsName_any _ _ hs).mono ?_; rintro e w1 ⟨rfl, hb'⟩; (first | have hb := bnext hb hb' | have hb := bnextA hb hb' | have hb := hb'); clear hb'; obtain ⟨hc, hf⟩ := bcell hb; have hz := hb.size; (try simp at hz))
    | (go_at_call 68; refine (l01In_any _ _ _ _).mono ?_; rintro e w1 ⟨rfl, hw⟩; obtain rfl := hw.symm))
  all_goals go_ret
  all_goals exact ⟨by simp_all [shipOk, inB, -hc, -hf] <;> omega, (by repeat (first | exact Below.refl _ _ | assumption | refine Below.setCell ?_ (by first | omega | (simp <;> omega)) _ | refine Below.alloc ?_ (by first | omega | (simp <;> omega)) _ | refine below_drewN ?_ _ | refine Below.drew ?_ | refine Below.trans ?_ (Below.mono (by assumption) (by first | omega | (simp <;> omega)))))⟩
set_option maxHeartbeats 2000000 in
theorem impl_ShipOk_any (x0 : ByteArray) (x1 x2 x3 x4 : Int) (x5 : Bool) (w : World) (hs : x0.size ≤ maxLen) :
    Calls Try.prog 48 #[.agg #[.string x0, .int .i64 x1, .int .i64 x2, .int .i64 x3, .int .i64 x4, .bool x5]] w fun e w' => e = .returned (.bool (shipOk ⟨x0, x1, x2, x3, x4, x5⟩)) ∧ Below w.heap.size w w' := by
  go_enter Try.func48, Try.ntmps48
  go_wp2_with (first
    | (go_at_call 92; refine (impl_IsName_any _ _ hs).mono ?_; rintro e w1 ⟨rfl, hb'⟩; (first | have hb := bnext hb hb' | have hb := bnextA hb hb' | have hb := hb'); clear hb'; obtain ⟨hc, hf⟩ := bcell hb; have hz := hb.size; (try simp at hz))
    | (go_at_call 94; refine (within_any _ _ _ _).mono ?_; rintro e w1 ⟨rfl, hw⟩; obtain rfl := hw.symm)
    | (go_at_call 49; refine (isIndex_any _ _ _).mono ?_; rintro e w1 ⟨rfl, hw⟩; obtain rfl := hw.symm))
  all_goals go_ret
  all_goals exact ⟨by simp_all [shipOk, inB, -hc, -hf] <;> omega, (by repeat (first | exact Below.refl _ _ | assumption | refine Below.setCell ?_ (by first | omega | (simp <;> omega)) _ | refine Below.alloc ?_ (by first | omega | (simp <;> omega)) _ | refine below_drewN ?_ _ | refine Below.drew ?_ | refine Below.trans ?_ (Below.mono (by assumption) (by first | omega | (simp <;> omega)))))⟩
end Go.Proofs.Ytpbcbdjjpkenjaa
