/- Contracts of the laws' own helpers on slices of integers. No condition. -/
import Derived.Test.YtdbpgfbbkejljaaFix
namespace Go.Proofs.Ytdbpgfbbkejljaa
open Go.RowKit

set_option maxHeartbeats 1000000 in
theorem eqIntS_any (v1 v2 : Value) (xs ys : List Int) (w : World) (h1 : RdI w v1 xs) (h2 : RdI w v2 ys) :
    Calls Try.prog 19 #[v1, v2] w fun e w' => e = .returned (.bool (decide (xs = ys))) ∧ Below w.heap.size w w' := by
  obtain ⟨A1, c1, rfl, hc1, hm1, h1⟩ := h1
  obtain ⟨A2, c2, rfl, hc2, hm2, h2⟩ := h2
  unfold maxLen at hm1 hm2
  by_cases hl : xs.length = ys.length
  · have hlt : ((xs.length : Int) != (ys.length : Int)) = false := by simp [hl]
    have HL := hide hl
    clear hl
    go_enter Try.func19, Try.ntmps19
    go_wp2
    go_loopw [5] (fun i wr => ∃ k : Nat, k ≤ xs.length ∧ i = .int .i64 k ∧ Hid (xs.take k = ys.take k) ∧ Below w.heap.size w wr) (fun i _ => xs.length - (intOf i).toNat)
    case atStart => exact ⟨0, Nat.zero_le _, rfl, hide rfl, Below.refl _ _⟩
    case round =>
      obtain ⟨k, hk, rfl, HT, hb⟩ := hrel
      by_cases hlt : k < xs.length
      · obtain ⟨b1, o1, rfl, hb1, hcell1⟩ := h1 (by omega)
        obtain ⟨b2, o2, rfl, hb2, hcell2⟩ := h2 (by have := HL.out; omega)
        have hk2 : k < ys.length := by have := HL.out; omega
        have e1 : wr.cell? ⟨b1, o1 + k, none⟩ = some (.int .i64 (xs[k])) := by
          rw [hb.cell (p := ⟨b1, _, none⟩) hb1]; have := hcell1 k xs[k] (List.getElem?_eq_getElem hlt) 0 _ rfl; simpa using this
        have e2 : wr.cell? ⟨b2, o2 + k, none⟩ = some (.int .i64 (ys[k])) := by
          rw [hb.cell (p := ⟨b2, _, none⟩) hb2]; have := hcell2 k ys[k] (List.getElem?_eq_getElem hk2) 0 _ rfl; simpa using this
        clear hcell1 hcell2 h1 h2
        by_cases he : xs[k] = ys[k]
        · have he' : (xs[k] != ys[k]) = false := by simpa using he
          have HE := hide he
          clear he
          go_wp2
          go_quiet (fail)
          go_wp2
          go_roundw
          case rel => exact ⟨k + 1, by omega, by go_num, hide (take_succ_eq HT.out hlt hk2 HE.out), below_drewN hb _⟩
          case measure => simp [intOf]; omega
        · have he' : (xs[k] != ys[k]) = true := by simpa using he
          have HE := hide he
          clear he
          go_wp2
          go_quiet (fail)
          go_wp2
          go_ret
          refine ⟨?_, below_drewN hb _⟩
          have : xs ≠ ys := fun e => HE.out (by subst e; rfl)
          simp [this]
      · obtain rfl : k = xs.length := by omega
        go_wp2
        go_ret
        refine ⟨?_, hb⟩
        have h := HT.out
        rw [List.take_length, HL.out, List.take_length] at h
        simp [h]
  · have hlt : ((xs.length : Int) != (ys.length : Int)) = true := by simp; omega
    have HL := hide hl
    clear hl
    go_enter Try.func19, Try.ntmps19
    go_wp2
    go_ret
    have : xs ≠ ys := fun e => HL.out (by rw [e])
    exact ⟨by simp [this], (by repeat (first | exact Below.refl _ _ | assumption | refine Below.setCell ?_ (by first | omega | (simp <;> omega)) _ | refine Below.alloc ?_ (by first | omega | (simp <;> omega)) _ | refine below_drewN ?_ _ | refine Below.drew ?_ | refine Below.trans ?_ (Below.mono (by assumption) (by first | omega | (simp <;> omega)))))⟩

set_option maxHeartbeats 1000000 in
theorem toIntS_at (v1 : Value) (xs : List Int) (w : World) (h1 : RdI w v1 xs) (hn : xs.length ≤ 1048576) :
    Calls Try.prog 16 #[v1] w fun e w' => e = .returned (.slice (some ⟨w.heap.size, 0, none⟩) xs.length xs.length) ∧ Own w' w.heap.size 3 1 encI (.slice (some ⟨w.heap.size, 0, none⟩) xs.length xs.length) xs ∧ Below w.heap.size w w' := by
  obtain ⟨A1, c1, rfl, hc1, hm1, h1⟩ := h1
  unfold maxLen at hm1
  obtain ⟨i0, hi0, hz0, hz1, hz2⟩ := info_parts int_info
  go_enter Try.func16, Try.ntmps16
  go_wp2_with (refine wpList_make_full _ rfl (.tmp 6) (.tmp 6) _ rfl w.heap.size 3 i0 _ 1 Try.underlying29 hi0 hz0 hz1 _ _ _ _ xs.length rfl rfl rfl rfl (by rw [hz2]; omega) (by unfold maxLen; omega) (Nat.le_refl _) ?_; intro w1 hown hg)
  have hb : Below w.heap.size w w1 := (Below.refl _ _).grown hg (Nat.le_refl _) (by simp)
  have HF : Filled w1 w.heap.size 3 1 encI w.heap.size xs.length ([] : List Int) := Filled.start hown
  have hz := HF.lt.2
  clear hown hg
  go_loopw [4] (fun i wr => ∃ k : Nat, k ≤ xs.length ∧ i = .int .i64 k ∧ Filled wr w.heap.size 3 1 encI w.heap.size xs.length (xs.take k) ∧ Below w.heap.size w wr) (fun i _ => xs.length - (intOf i).toNat)
  case atStart => exact ⟨0, Nat.zero_le _, rfl, HF, hb⟩
  case round =>
    clear HF hb hz
    obtain ⟨k, hk, rfl, HF, hb⟩ := hrel
    by_cases hlt : k < xs.length
    · obtain ⟨b1, o1, rfl, hb1, hcell1⟩ := h1 (by omega)
      have e1 : wr.cell? ⟨b1, o1 + k, none⟩ = some (.int .i64 (xs[k])) := by
        rw [hb.cell (p := ⟨b1, _, none⟩) hb1]; have := hcell1 k xs[k] (List.getElem?_eq_getElem hlt) 0 _ rfl; simpa using this
      obtain ⟨⟨u, e2⟩, e3⟩ := HF.cell (j := k) (by omega)
      have hz := HF.lt.2
      have hne : b1 ≠ w.heap.size := by omega
      clear hcell1 h1
      go_wp2
      go_roundw
      case rel =>
        refine ⟨k + 1, by omega, by go_num, ?_, hb.setCell (Nat.le_refl _) _⟩
        have := HF.next encI_len (by simp; omega) xs[k]
        rw [List.take_succ_eq_append_getElem hlt]
        simpa [storeRow, Nat.min_eq_left hk] using this
      case measure => simp [intOf]; omega
    · obtain rfl : k = xs.length := by omega
      go_wp2
      go_ret
      exact ⟨rfl, by have := HF.own (by simp); simpa using this, hb⟩
theorem toIntS_any (v1 : Value) (xs : List Int) (w : World) (h1 : RdI w v1 xs) (hn : xs.length ≤ 1048576) :
    Calls Try.prog 16 #[v1] w fun e w' => ∃ v, e = .returned v ∧ Own w' w.heap.size 3 1 encI v xs ∧ Below w.heap.size w w' :=
  (toIntS_at v1 xs w h1 hn).mono fun _ _ ⟨he, ho, hb⟩ => ⟨_, he, ho, hb⟩
set_option maxHeartbeats 1000000 in
theorem markIntS_any (v : Value) (xs : List Int) (k : Int) (base : Nat) (w : World) (h1 : Own w base 3 1 encI v xs) (hk0 : 0 ≤ k) (hk1 : k ≤ 1099511627776) (hn : xs.length ≤ 1073741824) :
    Calls Try.prog 26 #[v, .int .i64 k] w fun e w' => e = .returned (.int .i64 (k + xs.length)) ∧ Own w' base 3 1 encI v (marks id 1 k xs.length) ∧ w.grownBy w' v.ownBlock := by
  rcases h1.cases with ⟨rfl, rfl⟩ | ⟨g, cap, rfl, hg, hgs, hnc, hm⟩
  · go_enter Try.func26, Try.ntmps26
    go_wp2
    go_loop [1, 5] (fun kv i => kv = .int .i64 k ∧ i = .int .i64 0) (fun _ _ => 0)
    case atStart => exact ⟨rfl, rfl⟩
    case round =>
      obtain ⟨rfl, rfl⟩ := hrel
      go_wp2
      go_ret
      exact ⟨by simp, by simpa [marks] using h1, World.grownBy.refl _ _⟩
  · unfold maxLen at hm
    go_enter Try.func26, Try.ntmps26
    go_wp2
    go_loopw [1, 5] (fun kv i wr => ∃ j : Nat, j ≤ xs.length ∧ i = .int .i64 j ∧ kv = .int .i64 (k + j) ∧ Own wr base 3 1 encI (.slice (some ⟨g, 0, none⟩) xs.length cap) (marks id 1 k j ++ xs.drop j) ∧ w.grownBy wr (some g)) (fun _ i _ => xs.length - (intOf i).toNat)
    case atStart => exact ⟨0, Nat.zero_le _, rfl, by simp, by simpa [marks] using h1, World.grownBy.refl _ _⟩
    case round =>
      obtain ⟨j, hj, rfl, rfl, HO, hgr⟩ := hrel
      by_cases hlt : j < xs.length
      · have hml := marks_mid_length id 1 k xs j hj
        have HM := hide hml
        have hj' : j < (marks id 1 k j ++ xs.drop j).length := by omega
        obtain ⟨e1, e2⟩ := Own.cells (i := j) (j := 0) encI_len (by rw [hml]; exact HO) hj' rfl
        simp only [Nat.mul_one, Nat.add_zero] at e1 e2
        clear hml
        go_wp2
        go_roundw
        case rel =>
          refine ⟨j + 1, by omega, by go_num, by go_num, ?_, grownBy_storeRow [.int .i64 (k + j)] _ j hgr⟩
          have := Own.setRow (i := j) encI_len (by rw [HM.out]; exact HO) hj' (k + j)
          rw [HM.out] at this
          have e := marks_step id 1 k xs j hlt
          simp only [id, Int.natCast_one, Int.mul_one] at e
          rw [e] at this
          simpa [storeRow] using this
        case measure => simp [intOf]; omega
      · obtain rfl : j = xs.length := by omega
        go_wp2
        go_ret
        exact ⟨rfl, by simpa using HO, hgr⟩
set_option maxHeartbeats 1000000 in
theorem heldIntS_any (v : Value) (k : Int) (n : Nat) (w : World) (h1 : RdI w v (marks id 1 k n)) (hk0 : 0 ≤ k) (hk1 : k ≤ 1099511627776) (hn : n ≤ 1073741824) :
    Calls Try.prog 28 #[v, .int .i64 k] w fun e w' => e = .returned (.int .i64 (k + n)) ∧ Below w.heap.size w w' := by
  obtain ⟨A1, c1, rfl, hc1, hm1, h1⟩ := h1
  rw [marks_length] at *
  unfold maxLen at hm1
  go_enter Try.func28, Try.ntmps28
  go_wp2
  go_loop [1, 5] (fun kv i => ∃ j : Nat, j ≤ n ∧ i = .int .i64 j ∧ kv = .int .i64 (k + j)) (fun _ i => n - (intOf i).toNat)
  case atStart => exact ⟨0, Nat.zero_le _, rfl, by simp⟩
  case round =>
    obtain ⟨j, hj, rfl, rfl⟩ := hrel
    by_cases hlt : j < n
    · obtain ⟨b1, o1, rfl, hb1, hcell1⟩ := h1 (by omega)
      have e1 : w.cell? ⟨b1, o1 + j, none⟩ = some (.int .i64 (k + j)) := by
        have := hcell1 j _ (marks_get id 1 k n j hlt) 0 _ rfl; simpa using this
      clear hcell1 h1
      go_wp2
      go_round
      case rel => exact ⟨j + 1, by omega, by go_num, by go_num⟩
      case measure => simp [intOf]; omega
    · obtain rfl : j = n := by omega
      go_wp2
      go_ret
      exact ⟨rfl, Below.refl _ _⟩
/-! the table without times -/
set_option maxHeartbeats 1000000 in
theorem spec_StayingMoves_any (w : World) :
    Calls Try.prog 53 #[] w fun e w' => ∃ v, e = .returned v ∧ Own w' w.heap.size 3 1 encI v (List.replicate 64 (0 : Int)) ∧ Below w.heap.size w w' := by
  obtain ⟨i0, hi0, hz0, hz1, hz2⟩ := info_parts int_info
  go_enter Try.func53, Try.ntmps53
  go_wp2_with (refine wpList_make_full _ rfl _ _ _ rfl w.heap.size 3 i0 _ 1 Try.underlying29 hi0 hz0 hz1 _ _ _ _ 64 rfl rfl rfl rfl (by rw [hz2]; omega) (by simp [maxLen]) (Nat.le_refl _) ?_; intro w1 hown hg)
  go_ret
  refine ⟨_, rfl, ?_, (Below.refl _ _).grown hg (Nat.le_refl _) (by simp)⟩
  have e : (madeCells (Value.int .i64 0).cells (64 * 1)).toList = (List.replicate 64 (0 : Int)).flatMap encI := by rw [show (Value.int IntKind.i64 0).cells = #[Value.int IntKind.i64 0] from rfl, toList_madeCells_one]; rfl
  unfold Own
  rw [← e]
  exact hown
set_option maxHeartbeats 1000000 in
theorem impl_StayingMoves_any (w : World) :
    Calls Try.prog 32 #[] w fun e w' => ∃ v, e = .returned v ∧ Own w' w.heap.size 3 1 encI v (List.replicate 64 (0 : Int)) ∧ Below w.heap.size w w' := by
  obtain ⟨i0, hi0, hz0, hz1, hz2⟩ := info_parts int_info
  go_enter Try.func32, Try.ntmps32
  go_wp2_with (refine wpList_make_full _ rfl _ _ _ rfl w.heap.size 3 i0 _ 1 Try.underlying29 hi0 hz0 hz1 _ _ _ _ 64 rfl rfl rfl rfl (by rw [hz2]; omega) (by simp [maxLen]) (Nat.le_refl _) ?_; intro w1 hown hg)
  go_ret
  refine ⟨_, rfl, ?_, (Below.refl _ _).grown hg (Nat.le_refl _) (by simp)⟩
  have e : (madeCells (Value.int .i64 0).cells (64 * 1)).toList = (List.replicate 64 (0 : Int)).flatMap encI := by rw [show (Value.int IntKind.i64 0).cells = #[Value.int IntKind.i64 0] from rfl, toList_madeCells_one]; rfl
  unfold Own
  rw [← e]
  exact hown

/-! lengths of ships -/
def lenRow (xs : List Int) (i : Nat) : Bool := inB (xs.getD i default) 1 400
def lengthsOk (xs : List Int) : Bool := decide (xs.length ≤ 8) && allUpTo (lenRow xs) xs.length
end Go.Proofs.Ytdbpgfbbkejljaa
