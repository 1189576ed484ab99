/- The ships of a set, given as bits: both texts. No condition. -/
import Derived.Test.YtjmffhpfmfmnlaaPack3
import Derived.Test.YtjmffhpfmfmnlaaMostL
import Derived.Test.YtjmffhpfmfmnlaaBits
namespace Go.Proofs.Ytjmffhpfmfmnlaa
open Go.RowKit
set_option linter.unusedVariables false
theorem subL_take {l : List Int} {b k : Nat} (h : k < l.length) : subL (l.take (k + 1)) b = subL (l.take k) b ++ if b.testBit k = true then [l[k]] else [] := by
  rw [List.take_succ_eq_append_getElem h, subL_snoc, List.length_take, Nat.min_eq_left (by omega), Nat.testBit_eq_decide_div_mod_eq]
  simp only [decide_eq_true_eq]
theorem subL_len (l : List Int) (b : Nat) : (subL l b).length ≤ l.length := (subL_sub l b).length_le
set_option maxRecDepth 100000 in
set_option maxHeartbeats 8000000 in
theorem l10Some_any (v1 : Value) (l : List Int) (b : Nat) (hb : b < 4611686018427387904) (h8 : l.length ≤ 8) (w : World) (h1 : RdI w v1 l) :
    Calls Try.prog 59 #[v1, .int .i64 b] w fun e w' => ∃ v, e = .returned v ∧ Own w' w.heap.size 3 1 encI v (subL l b) ∧ Below w.heap.size w w' := by
  obtain ⟨A1, c1, rfl, hc1, hm1, h1⟩ := h1
  unfold maxLen at hm1
  have H1 := hide h1; clear h1
  obtain ⟨i0, hi, hz0, hz1, hz2⟩ := info_parts int_info
  go_enter Try.func59, Try.ntmps59
  go_wp2
  have hou0 := own_built0 (enc := encI) w 3 1
  have hb0 : Below w.heap.size w (w.alloc (.cells #[] 3)) := (Below.refl _ _).alloc (Nat.le_refl _) _
  go_loopw [5, 11] (fun o s wr => ∃ k : Nat, k ≤ l.length ∧ s = .int .i64 k ∧ Hid (Own wr w.heap.size 3 1 encI o (subL (l.take k) b)) ∧ Below w.heap.size w wr) (fun _ s _ => l.length - (intOf s).toNat)
  case atStart => exact ⟨0, Nat.zero_le _, rfl, hide (by simpa [subL] using hou0), hb0⟩
  case round =>
    clear hou0 hb0
    obtain ⟨k, hk, rfl, HO, hbk⟩ := hrel
    obtain ⟨wo, rfl⟩ : ∃ wo : World, wo = wr := ⟨_, rfl⟩
    have hbs := hbk.size
    by_cases hlt : k < l.length
    · obtain ⟨b1, o1, rfl, hb1, hcell1⟩ := H1.out (by omega)
      have e0 : w.cell? ⟨b1, o1 + k, none⟩ = some (.int .i64 l[k]) := by have := hcell1 k l[k] (List.getElem?_eq_getElem hlt) 0 _ rfl; simpa using this
      replace e0 := cellKeep hbk e0 hb1
      clear hcell1
      have HT := hide (subL_take (b := b) hlt)
      obtain ⟨x, hx⟩ : ∃ x, l[k] = x := ⟨_, rfl⟩
      rw [hx] at e0 HT
      clear hx
      have hkw : IntKind.i64.wrap ((k : Nat) : Int) = k := IntWalk.i64_in _ (by omega)
      have hlenk := subL_len (l.take k) b
      rw [List.length_take, Nat.min_eq_left (by omega)] at hlenk
      rcases ch1 (b.testBit k) with hbit | hbit
      · have hbb := bit_i64 b k hb
        rw [if_pos hbit] at hbb
        rw [if_pos hbit] at HT
        go_wp2_with (at_builtin; refine wpList_append_rd _ encI_len encI_one (by rfl) _ _ 24 (by rfl) w.heap.size 3 i0 (.int .i64 0) 8 Try.underlying24 hi hz0 hz1 hz2 rfl (by decide) _ _ (by rfl) (HO.out.below ((Below.refl _ _).alloc (Nat.le_refl _) _)) _ _ [x] (by rfl) (rd_new (enc := encI) _ x _) (by unfold maxLen; simp; omega) (by simp; omega) (by simp; omega) ?_; intro r9 w9 hown9 hgrow9 hblk9)
        have hb9 := (hbk.trans (((Below.refl _ _).alloc (Nat.le_refl _) _).mono hbs)).trans (Own.belowGrown (B := w.heap.size) (HO.out.below ((Below.refl _ _).alloc (Nat.le_refl _) _)) hgrow9 (Nat.le_refl _) (by simp; omega))
        go_roundw
        case rel => exact ⟨k + 1, by omega, by go_num, hide (by rw [HT.out]; exact hown9), hb9⟩
        case measure => simp [intOf]; omega
      · have hbb := bit_i64 b k hb
        rw [if_neg (by simp [hbit])] at hbb
        rw [if_neg (by simp [hbit]), List.append_nil] at HT
        go_wp2
        go_roundw
        case rel => exact ⟨k + 1, by omega, by go_num, hide (by rw [HT.out]; exact HO.out), hbk⟩
        case measure => simp [intOf]; omega
    · obtain rfl : k = l.length := by omega
      have HT := hide (List.take_length (l := l))
      go_wp2
      go_ret
      exact ⟨_, rfl, by have := HO.out; rwa [HT.out] at this, hbk⟩
set_option maxRecDepth 100000 in
set_option maxHeartbeats 8000000 in
theorem picked_any (v1 : Value) (l : List Int) (b : Nat) (hb : b < 4611686018427387904) (h8 : l.length ≤ 8) (w : World) (h1 : RdI w v1 l) :
    Calls Try.prog 60 #[v1, .int .i64 b] w fun e w' => ∃ v, e = .returned v ∧ Own w' w.heap.size 3 1 encI v (subL l b) ∧ Below w.heap.size w w' := by
  obtain ⟨A1, c1, rfl, hc1, hm1, h1⟩ := h1
  unfold maxLen at hm1
  have H1 := hide h1; clear h1
  obtain ⟨i0, hi, hz0, hz1, hz2⟩ := info_parts int_info
  go_enter Try.func60, Try.ntmps60
  go_wp2
  have hou0 := own_built0 (enc := encI) w 3 1
  have hb0 : Below w.heap.size w (w.alloc (.cells #[] 3)) := (Below.refl _ _).alloc (Nat.le_refl _) _
  go_loopw [5, 11] (fun o s wr => ∃ k : Nat, k ≤ l.length ∧ s = .int .i64 k ∧ Hid (Own wr w.heap.size 3 1 encI o (subL (l.take k) b)) ∧ Below w.heap.size w wr) (fun _ s _ => l.length - (intOf s).toNat)
  case atStart => exact ⟨0, Nat.zero_le _, rfl, hide (by simpa [subL] using hou0), hb0⟩
  case round =>
    clear hou0 hb0
    obtain ⟨k, hk, rfl, HO, hbk⟩ := hrel
    obtain ⟨wo, rfl⟩ : ∃ wo : World, wo = wr := ⟨_, rfl⟩
    have hbs := hbk.size
    by_cases hlt : k < l.length
    · obtain ⟨b1, o1, rfl, hb1, hcell1⟩ := H1.out (by omega)
      have e0 : w.cell? ⟨b1, o1 + k, none⟩ = some (.int .i64 l[k]) := by have := hcell1 k l[k] (List.getElem?_eq_getElem hlt) 0 _ rfl; simpa using this
      replace e0 := cellKeep hbk e0 hb1
      clear hcell1
      have HT := hide (subL_take (b := b) hlt)
      obtain ⟨x, hx⟩ : ∃ x, l[k] = x := ⟨_, rfl⟩
      rw [hx] at e0 HT
      clear hx
      have hkw : IntKind.i64.wrap ((k : Nat) : Int) = k := IntWalk.i64_in _ (by omega)
      have hlenk := subL_len (l.take k) b
      rw [List.length_take, Nat.min_eq_left (by omega)] at hlenk
      rcases ch1 (b.testBit k) with hbit | hbit
      · have hbb := bit_i64 b k hb
        rw [if_pos hbit] at hbb
        rw [if_pos hbit] at HT
        go_wp2_with (at_builtin; refine wpList_append_rd _ encI_len encI_one (by rfl) _ _ 24 (by rfl) w.heap.size 3 i0 (.int .i64 0) 8 Try.underlying24 hi hz0 hz1 hz2 rfl (by decide) _ _ (by rfl) (HO.out.below ((Below.refl _ _).alloc (Nat.le_refl _) _)) _ _ [x] (by rfl) (rd_new (enc := encI) _ x _) (by unfold maxLen; simp; omega) (by simp; omega) (by simp; omega) ?_; intro r9 w9 hown9 hgrow9 hblk9)
        have hb9 := (hbk.trans (((Below.refl _ _).alloc (Nat.le_refl _) _).mono hbs)).trans (Own.belowGrown (B := w.heap.size) (HO.out.below ((Below.refl _ _).alloc (Nat.le_refl _) _)) hgrow9 (Nat.le_refl _) (by simp; omega))
        go_roundw
        case rel => exact ⟨k + 1, by omega, by go_num, hide (by rw [HT.out]; exact hown9), hb9⟩
        case measure => simp [intOf]; omega
      · have hbb := bit_i64 b k hb
        rw [if_neg (by simp [hbit])] at hbb
        rw [if_neg (by simp [hbit]), List.append_nil] at HT
        go_wp2
        go_roundw
        case rel => exact ⟨k + 1, by omega, by go_num, hide (by rw [HT.out]; exact HO.out), hbk⟩
        case measure => simp [intOf]; omega
    · obtain rfl : k = l.length := by omega
      have HT := hide (List.take_length (l := l))
      go_wp2
      go_ret
      exact ⟨_, rfl, by have := HO.out; rwa [HT.out] at this, hbk⟩
end Go.Proofs.Ytjmffhpfmfmnlaa
