/- An argument that is a slice of bytes. No condition. -/
import Derived.Test.YtjfppjhlkeopnaaCur
namespace Go.Proofs.Ytjfppjhlkeopnaa
open Go.RowKit
set_option linter.unusedVariables false
theorem u8_range {x : Int} (h : (Lit.int .u8 x).wf = true) : 0 ≤ x ∧ x ≤ 255 := by
  simp only [Lit.wf, Bool.and_eq_true, decide_eq_true_eq] at h
  exact ⟨h.1, h.2⟩
section
open Go.ChangeShapes Go.WideShapes Go.Deep
variable {H : Type} {encH : TypeId × Value → H} {P : Program} {w : World}
theorem open_rows8 {r : Reach} {b0 : Nat} {t e : TypeId} {v : Value} {d : DataW H} {p : List MemPlace}
    (ht : P.underlying t = some (.slice e)) (he : P.underlying e = some (.int .u8)) (hC : P.cellsOf e = 1)
    (hv : Value.okWide P w r b0 t v) (h : DataW.Trod encH P w 0 (fun _ => true) true t v d p) :
    ∃ xs : List Int, RdB w w.heap.size 1 enc8 v xs ∧ Byt xs := by
  obtain ⟨a0, len0, cap0, rfl⟩ := okWide_slice ht hv
  obtain ⟨fuel, hf⟩ := h
  rcases open_ints ht he hC hf with ⟨hcs, _⟩ | ⟨a, len, cap, zs, hcs, hb, hl, hm, hz, hx, hcell, hwf⟩
  · have e1 : Value.slice a0 len0 cap0 = .slice none 0 0 := by simpa [Value.cells] using hcs
    rw [e1]
    exact ⟨[], RdB.nil_, fun x hx => by cases hx⟩
  · have e1 : Value.slice a0 len0 cap0 = .slice (some a) len cap := by simpa [Value.cells] using hcs
    rw [e1]
    have hzl : zs.length = cap := by simpa using hz
    have hll : (zs.take len).length = len := by simp; omega
    refine ⟨zs.take len, ⟨some a, cap, by rw [hll], by omega, hm, fun hpos => ?_⟩, fun x hx => u8_range (hwf x (List.mem_of_mem_take hx))⟩
    obtain ⟨b, off, spot⟩ := a
    have hc0 := hcell 0 (by omega)
    have hspot : spot = none := by simpa [Addr.add] using World.cell?_spot hc0
    subst hspot
    have hc0' : w.cell? (⟨b, off, none⟩ : Addr) = some (.int .u8 (zs.getD 0 0)) := by simpa [Addr.add] using hc0
    refine ⟨b, off, rfl, World.block_lt_of_cell? w _ hc0', fun i x hx j u hu => ?_⟩
    have hj : j = 0 := by have := (List.getElem?_eq_some_iff.1 hu).1; simpa using this
    subst hj
    have hi : i < len := by rw [← hll]; exact (List.getElem?_eq_some_iff.1 hx).1
    have hc := hcell i (by omega)
    rw [Go.WideShapes.add_plain] at hc
    rw [List.getElem?_take, if_pos hi] at hx
    simp only [enc8, List.getElem?_cons_zero, Option.some.injEq] at hu
    rw [Nat.mul_one, Nat.add_zero, hc, ← hu]
    simp [List.getD, hx]
end
end Go.Proofs.Ytjfppjhlkeopnaa
