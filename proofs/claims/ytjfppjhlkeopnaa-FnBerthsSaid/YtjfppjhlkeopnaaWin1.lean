/- Windows of marks, and of levels: the spec. No condition. -/
import Derived.Test.YtjfppjhlkeopnaaWinL
namespace Go.Proofs.Ytjfppjhlkeopnaa
open Go.RowKit
set_option linter.unusedVariables false
set_option maxRecDepth 100000 in
set_option maxHeartbeats 8000000 in
theorem l04Of_any (v1 : Value) (acc : Nat → Bool) (n : Nat) (hn : n ≤ 2881) (w : World) (h1 : RdB w w.heap.size 1 encB v1 (boolRow n acc)) :
    Calls Try.prog 94 #[v1] w fun e w' => ∃ v, e = .returned v ∧ Own w' w.heap.size 117 2 WindowD.enc v (winsTo acc n) ∧ Below w.heap.size w w' := by
  obtain ⟨A1, c1, rfl, hc1, hm1, h1⟩ := h1
  unfold maxLen at hm1
  rw [boolRow_len] at hc1
  simp only [boolRow_len] at h1 ⊢
  have H1 := hide h1; clear h1
  obtain ⟨i0, hi, hz0, hz1, hz2⟩ := info_parts window_info
  go_enter Try.func94, Try.ntmps94
  go_wp2
  have hou0 := own_built0 (enc := WindowD.enc) w 117 2
  have hb0 : Below w.heap.size w (w.alloc (.cells #[] 117)) := (Below.refl _ _).alloc (Nat.le_refl _) _
  go_loopw [3, 9] (fun o s wr => ∃ k : Nat, k ≤ n ∧ s = .int .i64 k ∧ Hid (Own wr w.heap.size 117 2 WindowD.enc o (winsTo acc k)) ∧ Below w.heap.size w wr) (fun _ s _ => n - (intOf s).toNat)
  case atStart => exact ⟨0, Nat.zero_le _, rfl, hide hou0, hb0⟩
  case round =>
    clear hou0 hb0
    obtain ⟨k, hk, rfl, HO, hbk⟩ := hrel
    obtain ⟨wo, rfl⟩ : ∃ wo : World, wo = wr := ⟨_, rfl⟩
    have hbs := hbk.size
    by_cases hlt : k < n
    · obtain ⟨b1, o1, rfl, hb1, hcell1⟩ := H1.out (by omega)
      have e0 : wo.cell? ⟨b1, o1 + k, none⟩ = some (.bool (acc k)) := by rw [hbk.cell (p := ⟨b1, _, none⟩) hb1]; have := hcell1 k (acc k) (boolRow_at hlt) 0 _ rfl; simpa using this
      clear hcell1
      have hlen := winsTo_len acc k
      have hkw : IntKind.i64.wrap ((k : Int) - 1) = (k : Int) - 1 := IntWalk.i64_in _ (by omega)
      rcases ch1 (acc k) with ga | ga
      · rw [ga] at e0
        rcases ch1 (lastAt (winsTo acc k) ((k : Int) - 1)) with gl | gl
        · have HT := hide (winsTo_ext ga gl)
          obtain ⟨l, hl1, hl2⟩ := lastAt_iff.1 gl
          clear gl
          generalize winsTo acc k = xs at HO hlen hl1 hl2 HT
          have HS := hide (setLast_eq hl1 (k : Int))
          rcases Own.cases HO.out with ⟨_, hnil⟩ | ⟨g, cap, rfl, hg0, hg1, hcp, hcm⟩
          · rw [hnil] at hl1; simp at hl1
          · unfold maxLen at hcm
            have hli : l < xs.length := by omega
            have hoc := Own.cells (i := l) (j := 1) (u := .int .i64 xs[l].fin) WindowD.enc_len HO.out hli rfl
            have r1 := hoc.1; have r2 := hoc.2
            rw [hl2] at r1
            have HO2 := hide (ownSetFin HO.out hli (k : Int))
            rw [← HS.out, ← HT.out] at HO2
            have hbe : Below w.heap.size w (wo.setCell ⟨g, l * 2 + 1, none⟩ (.int .i64 k)) := hbk.setCell (p := ⟨g, l * 2 + 1, none⟩) hg0 _
            obtain ⟨N, hN⟩ : ∃ N, xs.length = N := ⟨_, rfl⟩
            simp only [hN] at HO HO2 hlen hl1 hcp hli ⊢
            have hl1w : IntKind.i64.wrap ((N : Int) - 1) = (l : Int) := by rw [IntWalk.i64_in _ (by omega)]; omega
            have hlw2 : IntKind.i64.wrap (l : Int) = (l : Int) := IntWalk.i64_in _ (by omega)
            have hl1e : (N : Int) - 1 = l := by omega
            have hlN : (l : Int) < N := by omega
            have hN0 : (0 : Int) < N := by omega
            have hN0n : 0 < N := by omega
            have HL1 := hide hl1
            clear hl1 hl2 hN hoc ga HT HS
            go_wp2
            go_roundw
            case rel => exact ⟨k + 1, by omega, by go_num, HO2, hbe⟩
            case measure => simp [intOf]; omega
        · have HT := hide (winsTo_new ga gl)
          have hgl := gl
          obtain ⟨xs, hxs⟩ : ∃ xs, winsTo acc k = xs := ⟨_, rfl⟩
          simp only [hxs] at HO hlen gl HT
          clear hgl hxs ga
          rcases Nat.eq_zero_or_pos xs.length with hz | hpos
          · obtain ⟨A3, c3, rfl, hc3, hm3, -⟩ := Own.rd WindowD.enc_len HO.out
            obtain rfl := List.eq_nil_of_length_eq_zero hz
            simp only [List.length_nil] at HO ⊢
            go_wp2_with (at_builtin; refine wpList_append_rd _ WindowD.enc_len WindowD.one (by rfl) _ _ 85 (by rfl) w.heap.size 117 i0 (.agg #[.int .i64 0, .int .i64 0]) 16 Try.underlying85 hi hz0 hz1 hz2 rfl (by decide) _ _ (by rfl) (HO.out.below ((Below.refl _ _).alloc (Nat.le_refl _) _)) _ _ [(⟨k, k⟩ : WindowD)] (by rfl) (rd_new (enc := WindowD.enc) _ ⟨k, k⟩ _) (by unfold maxLen; simp <;> omega) (by simp <;> omega) (by simp <;> omega) ?_; intro r9 w9 hown9 hgrow9 hblk9)
            have hb9 := (hbk.trans ((((Below.refl _ _).alloc (Nat.le_refl _) _)).mono hbs)).trans (Own.belowGrown (B := w.heap.size) (HO.out.below ((Below.refl _ _).alloc (Nat.le_refl _) _)) hgrow9 (Nat.le_refl _) (by simp; omega))
            go_roundw
            case rel => exact ⟨k + 1, by omega, by go_num, hide (by rw [HT.out]; exact hown9), hb9⟩
            case measure => simp [intOf]; omega
          · rcases Own.cases HO.out with ⟨_, hnil⟩ | ⟨g, cap, rfl, hg0, hg1, hcp, hcm⟩
            · rw [hnil] at hpos; simp at hpos
            · unfold maxLen at hcm
              obtain ⟨l, hl1⟩ : ∃ l, l + 1 = xs.length := ⟨xs.length - 1, by omega⟩
              have hli : l < xs.length := by omega
              have hoc := Own.cells (i := l) (j := 1) (u := .int .i64 xs[l].fin) WindowD.enc_len HO.out hli rfl
              have r1 := hoc.1
              have hne : xs[l].fin ≠ (k : Int) - 1 := fun e => by rw [lastAt_iff.2 ⟨l, hl1, e⟩] at gl; cases gl
              obtain ⟨y, hy⟩ : ∃ y, xs[l].fin = y := ⟨_, rfl⟩
              rw [hy] at r1 hne
              have hyk : (y == (k : Int) - 1) = false := by simp; omega
              have hl1w : IntKind.i64.wrap ((xs.length : Int) - 1) = (l : Int) := by rw [IntWalk.i64_in _ (by omega)]; omega
              have hlw2 : IntKind.i64.wrap (l : Int) = (l : Int) := IntWalk.i64_in _ (by omega)
              have hl1e : (xs.length : Int) - 1 = l := by omega
              have hlN : (l : Int) < xs.length := by omega
              have hN0 : (0 : Int) < xs.length := by omega
              have hN0n : 0 < xs.length := by omega
              clear hl1 hoc hy hne gl
              go_wp2_with (at_builtin; refine wpList_append_rd _ WindowD.enc_len WindowD.one (by rfl) _ _ 85 (by rfl) w.heap.size 117 i0 (.agg #[.int .i64 0, .int .i64 0]) 16 Try.underlying85 hi hz0 hz1 hz2 rfl (by decide) _ _ (by rfl) (HO.out.below ((Below.refl _ _).alloc (Nat.le_refl _) _)) _ _ [(⟨k, k⟩ : WindowD)] (by rfl) (rd_new (enc := WindowD.enc) _ ⟨k, k⟩ _) (by unfold maxLen; simp <;> omega) (by simp <;> omega) (by simp <;> omega) ?_; intro r9 w9 hown9 hgrow9 hblk9)
              have hb9 := (hbk.trans ((((Below.refl _ _).alloc (Nat.le_refl _) _)).mono hbs)).trans (Own.belowGrown (B := w.heap.size) (HO.out.below ((Below.refl _ _).alloc (Nat.le_refl _) _)) hgrow9 (Nat.le_refl _) (by simp; omega))
              go_roundw
              case rel => exact ⟨k + 1, by omega, by go_num, hide (by rw [HT.out]; exact hown9), hb9⟩
              case measure => simp [intOf]; omega
      · rw [ga] at e0
        have HT := hide (winsTo_skip ga)
        clear ga
        go_wp2
        go_roundw
        case rel => exact ⟨k + 1, by omega, by go_num, hide (by rw [HT.out]; exact HO.out), hbk⟩
        case measure => simp [intOf]; omega
    · obtain rfl : n = k := by omega
      go_wp2
      go_ret
      exact ⟨_, rfl, HO.out, hbk⟩
end Go.Proofs.Ytjfppjhlkeopnaa
