/- The surge at a minute, and the ends of the band: both texts. No condition. -/
import Derived.Test.YtjfppjhlkeopnaaFore
namespace Go.Proofs.Ytjfppjhlkeopnaa
open Go.RowKit
set_option linter.unusedVariables false
def Box3 (w : World) (g : Nat) (a b c : Int) : Prop := w.cell? ⟨g, 0, none⟩ = some (.int .i64 a) ∧ w.cell? ⟨g, 1, none⟩ = some (.int .i64 b) ∧ w.cell? ⟨g, 2, none⟩ = some (.int .i64 c) ∧ w.frozen? ⟨g, 0, none⟩ = false ∧ w.frozen? ⟨g, 1, none⟩ = false ∧ w.frozen? ⟨g, 2, none⟩ = false
theorem Box3.keep {B g : Nat} {w w' : World} {a b c : Int} (h : Box3 w g a b c) (hb : Below B w w') (hg : g < B) : Box3 w' g a b c := by
  obtain ⟨h0, h1, h2, f0, f1, f2⟩ := h
  refine ⟨cellKeep hb h0 hg, cellKeep hb h1 hg, cellKeep hb h2 hg, ?_, ?_, ?_⟩
  · rw [hb.frozen (p := ⟨g, 0, none⟩) hg]; exact f0
  · rw [hb.frozen (p := ⟨g, 1, none⟩) hg]; exact f1
  · rw [hb.frozen (p := ⟨g, 2, none⟩) hg]; exact f2
theorem Box3.far {w : World} {g g' i : Nat} {a b c : Int} {v : Value} (h : Box3 w g a b c) (hne : g' ≠ g) : Box3 (w.setCell ⟨g', i, none⟩ v) g a b c := by
  obtain ⟨h0, h1, h2, f0, f1, f2⟩ := h
  exact ⟨(World.cell?_setCell_other _ _ _ _ (fun e => hne (congrArg Addr.block e))).trans h0, (World.cell?_setCell_other _ _ _ _ (fun e => hne (congrArg Addr.block e))).trans h1, (World.cell?_setCell_other _ _ _ _ (fun e => hne (congrArg Addr.block e))).trans h2, by simpa [go_sem] using f0, by simpa [go_sem] using f1, by simpa [go_sem] using f2⟩
theorem Box3.new (w : World) (a b c : Int) (T : TypeId) : Box3 (w.alloc (.cells #[.int .i64 a, .int .i64 b, .int .i64 c] T)) w.heap.size a b c := by
  refine ⟨?_, ?_, ?_, ?_, ?_, ?_⟩ <;> simp [go_sem]
theorem Box3.store {w : World} {g : Nat} {a b c : Int} (h : Box3 w g a b c) (x y z : Int) : Box3 (((w.setCell ⟨g, 0, none⟩ (.int .i64 x)).setCell ⟨g, 1, none⟩ (.int .i64 y)).setCell ⟨g, 2, none⟩ (.int .i64 z)) g x y z := by
  obtain ⟨h0, h1, h2, f0, f1, f2⟩ := h
  have n01 : (⟨g, 0, none⟩ : Addr) ≠ ⟨g, 1, none⟩ := by simp
  have n02 : (⟨g, 0, none⟩ : Addr) ≠ ⟨g, 2, none⟩ := by simp
  have n12 : (⟨g, 1, none⟩ : Addr) ≠ ⟨g, 2, none⟩ := by simp
  refine ⟨?_, ?_, ?_, by simpa [go_sem] using f0, by simpa [go_sem] using f1, by simpa [go_sem] using f2⟩
  · rw [World.cell?_setCell_other _ _ _ _ (fun e => n02 e.symm), World.cell?_setCell_other _ _ _ _ (fun e => n01 e.symm)]; exact World.cell?_setCell_same _ _ _ h0
  · rw [World.cell?_setCell_other _ _ _ _ (fun e => n12 e.symm)]; exact World.cell?_setCell_same _ _ _ ((World.cell?_setCell_other _ _ _ _ n01).trans h1)
  · exact World.cell?_setCell_same _ _ _ ((World.cell?_setCell_other _ _ _ _ n12).trans ((World.cell?_setCell_other _ _ _ _ n02).trans h2))
def saOk (f : ForeD) (m : Int) : Bool := foreOk f && inB m 0 2880
def saLow (f : ForeD) (m : Int) : Int := if saOk f m = true then (surgeAt f m).low else 0
def saHigh (f : ForeD) (m : Int) : Int := if saOk f m = true then (surgeAt f m).high else 0
theorem surgeIdx_succ (ss : List SurgeD) (m : Int) (k : Nat) : surgeIdx ss m (k + 1) = if (ss.getD k default).start ≤ m then k else surgeIdx ss m k := rfl
end Go.Proofs.Ytjfppjhlkeopnaa
