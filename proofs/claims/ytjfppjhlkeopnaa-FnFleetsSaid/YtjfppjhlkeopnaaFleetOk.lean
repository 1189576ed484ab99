/- Drawn fleets are valid. No condition. -/
import Derived.Test.YtjfppjhlkeopnaaFleet
namespace Go.Proofs.Ytjfppjhlkeopnaa
open Go.RowKit
set_option linter.unusedVariables false
theorem shipNm_name : ∀ i, i < 6 → isName (shipNm i) = true := by
  intro i hi
  rcases i with _ | _ | _ | _ | _ | _ | i
  all_goals first | (exfalso; omega) | kernel_rfl
theorem shipNm_size : ∀ i, i < 6 → (shipNm i).size = 2 := by
  intro i hi
  rcases i with _ | _ | _ | _ | _ | _ | i
  all_goals first | (exfalso; omega) | kernel_rfl
theorem shipNm_last : ∀ i, i < 6 → (shipNm i).data.toList = [115, UInt8.ofNat (48 + i)] := by
  intro i hi
  rcases i with _ | _ | _ | _ | _ | _ | i
  all_goals first | (exfalso; omega) | kernel_rfl
theorem shipNm_inj {i j : Nat} (hi : i < 6) (hj : j < 6) (h : shipNm i = shipNm j) : i = j := by
  have h2 := shipNm_last i hi
  rw [h, shipNm_last j hj] at h2
  simp only [List.cons.injEq, and_true, true_and] at h2
  have h3 := congrArg UInt8.toNat h2
  simp only [UInt8.toNat_ofNat'] at h3
  omega
theorem FleetIs.ship {fl : List ShipD} (h : FleetIs fl) (hl : fl.length ≤ 6) {i : Nat} (hi : i < fl.length) : shipOk fl[i] = true := by
  obtain ⟨e, a0, a1, a2, a3, a4, a5, a6, a7⟩ := h i hi
  unfold shipOk
  rw [e, shipNm_name i (by omega)]
  simp only [inB, Bool.true_and, Bool.and_eq_true, decide_eq_true_eq]
  omega
theorem FleetIs.ok {fl : List ShipD} (h : FleetIs fl) (hl : fl.length ≤ 6) : fleetOk fl = true := by
  unfold fleetOk
  simp only [Bool.and_eq_true, decide_eq_true_eq, allUpTo_iff]
  refine ⟨hl, fun i hi => ?_⟩
  unfold fleetRow
  rw [getD_at hi, h.ship hl hi]
  simp only [Bool.true_and, decide_eq_true_eq]
  unfold shipNamed
  refine firstUpTo_hit (fun j hj => ?_) ?_ hi
  · unfold sameName
    rw [getD_at (show j < fl.length by omega), (h j (by omega)).1, (h i hi).1]
    simp only [decide_eq_false_iff_not]
    exact fun e => by have := shipNm_inj (by omega) (by omega) e; omega
  · unfold sameName; rw [getD_at hi]; simp
theorem i64_wf {x : Int} (h0 : -1000000 ≤ x) (h1 : x ≤ 1000000) : (Lit.int .i64 x).wf = true := by
  have e0 : IntKind.i64.min = -9223372036854775808 := rfl
  have e1 : IntKind.i64.max = 9223372036854775807 := rfl
  simp only [Lit.wf, Bool.and_eq_true, decide_eq_true_eq, e0, e1]
  omega
theorem FleetIs.wf {fl : List ShipD} (h : FleetIs fl) (hl : fl.length ≤ 6) : ∀ x ∈ fl, x.ok := by
  intro x hx
  obtain ⟨i, hi, rfl⟩ := List.getElem_of_mem hx
  obtain ⟨e, a0, a1, a2, a3, a4, a5, a6, a7⟩ := h i hi
  refine ⟨i64_wf (by omega) (by omega), i64_wf (by omega) (by omega), i64_wf (by omega) (by omega), i64_wf (by omega) (by omega), ?_⟩
  rw [e, shipNm_size i (by omega)]; unfold maxLen; omega
end Go.Proofs.Ytjfppjhlkeopnaa
