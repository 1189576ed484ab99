/- A regime drawn out of bytes. No condition. -/
import Derived.Test.YtjfppjhlkeopnaaDraw
namespace Go.Proofs.Ytjfppjhlkeopnaa
open Go.RowKit
set_option linter.unusedVariables false
def RegRes (B g : Nat) (v : Value) (bs : List Int) (w : World) (e : Ending) (w' : World) : Prop := ∃ (x0 : Int) (x1 : Bool), e = .returned (.agg #[.int .i64 x0, .bool x1]) ∧ 0 ≤ x0 ∧ x0 ≤ 29 ∧ Cur w' B g v bs ∧ CurW g w w'
set_option maxRecDepth 100000 in
set_option maxHeartbeats 8000000 in
theorem l09Regime_any (B g : Nat) (v : Value) (bs : List Int) (w : World) (h : Cur w B g v bs) :
    Calls Try.prog 103 #[.pointer (some ⟨g, 0, none⟩)] w (RegRes B g v bs w) := by
  have hg := h.lt
  have HC := hide h; clear h
  go_enter Try.func103, Try.ntmps103
  go_wp2_with fail
  generalize hW0 : w.alloc (.cells #[.int .i64 0, .bool false] 63) = W0
  have hb0 : Below w.heap.size w W0 := by rw [← hW0]; exact (Below.refl _ _).alloc (Nat.le_refl _) _
  have hl0 : w.heap.size < W0.heap.size := by rw [← hW0]; simp
  have z0 : W0.cell? ⟨w.heap.size, 0, none⟩ = some (.int .i64 0) := by rw [← hW0]; simp [go_sem]
  have z1 : W0.cell? ⟨w.heap.size, 1, none⟩ = some (.bool false) := by rw [← hW0]; simp [go_sem]
  have q0 : W0.frozen? ⟨w.heap.size, 0, none⟩ = false := by rw [← hW0]; simp [go_sem]
  have q1 : W0.frozen? ⟨w.heap.size, 1, none⟩ = false := by rw [← hW0]; simp [go_sem]
  clear hW0
  refine (l01Below_any B g v bs 30 _ (HC.out.keep hb0 hg) (by omega)).mono ?_
  rintro e w1 ⟨xa, rfl, xa0, -, -, xa1, hca, hwa⟩
  have HCA := hide hca; clear hca
  replace xa1 := xa1 (by omega)
  go_wp2_with fail
  refine (l01Once_any B g v bs 4 _ HCA.out (by omega)).mono ?_
  rintro e w2 ⟨xb, rfl, hcb, hwb⟩
  have HCB := hide hcb; clear hcb
  have hw2 : CurW g W0 w2 := hwa.trans hwb
  have hbk := hw2.block w.heap.size hl0 (fun e => by have := Option.some.inj e; omega)
  have y0 := (World.cell?_of_block (a := ⟨w.heap.size, 0, none⟩) hbk).trans z0
  have y1 := (World.cell?_of_block (a := ⟨w.heap.size, 1, none⟩) hbk).trans z1
  have r0 := (World.frozen?_of_block (a := ⟨w.heap.size, 0, none⟩) hbk).trans q0
  have r1 := (World.frozen?_of_block (a := ⟨w.heap.size, 1, none⟩) hbk).trans q1
  have hl2 : w.heap.size < w2.heap.size := Nat.lt_of_lt_of_le hl0 hw2.size
  have hwf : CurW g w w2 := (CurW.ofBelow hb0).trans hw2
  clear z0 z1 q0 q1 hbk hwa hwb hw2
  go_wp2
  refine bodyPost_ret (v := .agg #[.int .i64 xa, .bool xb]) (by simp [results, Try.results103, go_sem, y0, y1, r0, r1]) rfl ⟨_, _, rfl, by omega, by omega, ?_, ?_⟩
  · exact HCB.out.keep (((Below.refl w.heap.size w2).setCell (by simp) _).setCell (by simp) _) hg
  · exact (hwf.store (Nat.le_refl _) _).store (Nat.le_refl _) _
end Go.Proofs.Ytjfppjhlkeopnaa
