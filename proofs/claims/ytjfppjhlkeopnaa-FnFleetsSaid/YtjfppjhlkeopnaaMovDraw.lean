/- Moves drawn out of bytes. No condition. -/
import Derived.Test.YtjfppjhlkeopnaaStepCall
import Derived.Test.YtjfppjhlkeopnaaInts
import Derived.Test.YtjfppjhlkeopnaaApp
namespace Go.Proofs.Ytjfppjhlkeopnaa
open Go.RowKit
set_option linter.unusedVariables false
theorem Own.slotM {α : Type} {w : World} {base sz N : Nat} {T : TypeId} {enc : α → List Value} {v : Value} {xs : List α} (h : Own w base T sz enc v xs) (hl : xs.length = N) (h0 : 0 < N) : ∃ g cap, v = .slice (some ⟨g, 0, none⟩) N cap ∧ base ≤ g ∧ g < w.heap.size ∧ N ≤ cap ∧ cap ≤ 9223372036854775807 := by
  rcases Own.cases h with ⟨_, rfl⟩ | ⟨g, cap, rfl, h1, h2, h3, h4⟩
  · simp at hl; omega
  · unfold maxLen at h4
    exact ⟨g, cap, by rw [hl], h1, h2, by omega, by omega⟩
def MovesIs (ms : List Int) : Prop := ms.length = 64 ∧ ∀ x ∈ ms, 0 ≤ x ∧ x ≤ 20
theorem MovesIs.set {ms : List Int} (h : MovesIs ms) (k : Nat) {x : Int} (h0 : 0 ≤ x) (h1 : x ≤ 20) : MovesIs (ms.set k x) :=
  ⟨by rw [List.length_set]; exact h.1, fun y hy => by
    rcases List.mem_or_eq_of_mem_set hy with e | e
    · exact h.2 y e
    · subst e; exact ⟨h0, h1⟩⟩
theorem ownI_cell {w : World} {base g N cap : Nat} {T : TypeId} {xs : List Int} (h : Own w base T 1 encI (.slice (some ⟨g, 0, none⟩) N cap) xs) (hl : xs.length = N) {k : Nat} (hk : k < N) : w.cell? ⟨g, k, none⟩ = some (.int .i64 (xs.getD k 0)) ∧ w.frozen? ⟨g, k, none⟩ = false := by
  subst hl
  have := Own.cells (i := k) (j := 0) (u := .int .i64 xs[k]) encI_len h hk rfl
  simpa [List.getD, hk] using this
theorem ownI_set {w : World} {base g N cap : Nat} {T : TypeId} {xs : List Int} (h : Own w base T 1 encI (.slice (some ⟨g, 0, none⟩) N cap) xs) (hl : xs.length = N) {k : Nat} (hk : k < N) (x : Int) : Own (w.setCell ⟨g, k, none⟩ (.int .i64 x)) base T 1 encI (.slice (some ⟨g, 0, none⟩) N cap) (xs.set k x) := by
  subst hl
  have := Own.setRow (i := k) encI_len h hk x
  simpa [storeRow] using this
theorem CurW.storeN {g b o : Nat} {w w' : World} (h : CurW g w w') (hb : w.heap.size ≤ b) (u : Value) : CurW g w (w'.setCell ⟨b, o, none⟩ u) := h.store hb u
set_option maxRecDepth 100000 in
set_option maxHeartbeats 8000000 in
theorem l13Moves_any (B g : Nat) (v : Value) (bs : List Int) (w : World) (h : Cur w B g v bs) :
    Calls Try.prog 107 #[.pointer (some ⟨g, 0, none⟩)] w fun e w' => ∃ u, e = .returned u ∧ (∃ ms, MovesIs ms ∧ Own w' w.heap.size 3 1 encI u ms ∧ Cur w' B g v bs ∧ CurW g w w') := by
  have hg := h.lt
  have HC := hide h; clear h
  go_enter Try.func107, Try.ntmps107
  go_wp2_with fail
  refine (spec_StayingMoves_any _).mono ?_
  rintro e w1 ⟨v1, rfl, ho1, hb1⟩
  obtain ⟨G, cap, rfl, hG0, hG1, hc0, hc1⟩ := ho1.slotM (N := 64) (by simp) (by omega)
  have HO1 := hide ho1
  have HC1 := hide (HC.out.keep hb1 hg)
  have HW1 := hide (CurW.ofBelow (g := g) hb1)
  have HM1 := hide (show MovesIs (List.replicate 64 0) from ⟨by simp, fun x hx => by have := List.eq_of_mem_replicate hx; omega⟩)
  have hgG : ¬ G = g := by omega
  clear ho1 hb1
  go_wp2_with fail
  go_loopw [8] (fun s wr => ∃ (k : Nat) (ms : List Int), s = .int .i64 k ∧ k ≤ 64 ∧ Hid (MovesIs ms) ∧ Hid (Own wr w.heap.size 3 1 encI (.slice (some ⟨G, 0, none⟩) 64 cap) ms) ∧ Hid (Cur wr B g v bs) ∧ Hid (CurW g w wr) ∧ G < wr.heap.size) (fun s _ => 64 - (intOf s).toNat)
  case atStart => exact ⟨0, _, rfl, Nat.zero_le _, HM1, HO1, HC1, HW1, hG1⟩
  case round =>
    clear HM1 HO1 HC1 HW1 hG1
    obtain ⟨k, ms, rfl, hk, HM, HO, HCC, HW, hGl⟩ := hrel
    obtain ⟨wo, rfl⟩ : ∃ wo : World, wo = wr := ⟨_, rfl⟩
    by_cases hlt : k < 64
    · have hlt' : (k : Int) < 64 := by omega
      have hkw : IntKind.i64.wrap ((k : Int) + 1) = (k : Int) + 1 := IntWalk.i64_in _ (by omega)
      by_cases h9 : k % 9 = 0
      · have hne : ((k : Int) % 9 != 0) = false := by simp; omega
        have hne2 : ((k : Int).tmod 9 != 0) = false := by rw [Int.tmod_eq_emod_of_nonneg (by omega)]; exact hne
        clear h9
        go_wp2_with fail
        go_roundw
        case rel => exact ⟨k + 1, ms, by first | rfl | go_num, by omega, HM, HO, HCC, HW, hGl⟩
        case measure => simp [intOf] <;> omega
      · have hne : ((k : Int) % 9 != 0) = true := by simp; omega
        have hne2 : ((k : Int).tmod 9 != 0) = true := by rw [Int.tmod_eq_emod_of_nonneg (by omega)]; exact hne
        clear h9
        go_wp2_with fail
        refine (l01Below_any B g v bs 5 _ HCC.out (by omega)).mono ?_
        rintro e w2 ⟨x, rfl, x0, -, -, x1, hc2, hw2⟩
        replace x1 := x1 (by omega)
        have HO2 := hide (HO.out.curw hw2 hg)
        have hcell := ownI_cell HO2.out HM.out.1 hlt
        have q1 := hcell.1; have q2 := hcell.2
        have HC2 := hide hc2
        have HW2 := hide (HW.out.trans hw2)
        have hG2 : G < w2.heap.size := Nat.lt_of_lt_of_le hGl hw2.size
        have hxw : IntKind.i64.wrap (5 * x) = 5 * x := IntWalk.i64_in _ (by omega)
        have HM2 := hide (HM.out.set k (x := 5 * x) (by omega) (by omega))
        have HO3 := hide (ownI_set HO2.out HM.out.1 hlt (5 * x))
        have hc0' : (64 : Int) ≤ cap := by omega
        clear hcell hc2 hw2
        go_wp2_with fail
        go_roundw
        case rel => exact ⟨k + 1, _, by first | rfl | go_num, by omega, HM2, HO3, hide (HC2.out.keep ((Below.refl w.heap.size _).setCell (by simp; omega) _) hg), hide (HW2.out.store (by omega) _), by simpa [World.setCell] using hG2⟩
        case measure => simp [intOf] <;> omega
    · obtain rfl : k = 64 := by omega
      go_wp2
      go_ret
      exact ⟨_, rfl, ms, HM.out, HO.out, HCC.out, HW.out⟩
end Go.Proofs.Ytjfppjhlkeopnaa
