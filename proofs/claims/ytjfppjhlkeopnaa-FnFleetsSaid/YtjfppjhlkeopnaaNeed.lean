/- What a ship needs: squat, need. No condition. -/
import Derived.Test.YtjfppjhlkeopnaaShip
namespace Go.Proofs.Ytjfppjhlkeopnaa
open Go.RowKit
set_option linter.unusedVariables false
theorem squat_range {s : ShipD} (h : shipOk s = true) : 2 ≤ squat s ∧ squat s ≤ 100 := by
  have := shipOk_of h
  unfold squat; split <;> omega
set_option maxHeartbeats 1000000 in
theorem impl_squat_any (x0 : ByteArray) (x1 x2 x3 x4 : Int) (x5 : Bool) (w : World) (h : shipOk ⟨x0, x1, x2, x3, x4, x5⟩ = true) :
    Calls Try.prog 88 #[.agg #[.string x0, .int .i64 x1, .int .i64 x2, .int .i64 x3, .int .i64 x4, .bool x5]] w fun e w' => e = .returned (.int .i64 (squat ⟨x0, x1, x2, x3, x4, x5⟩)) ∧ Below w.heap.size w w' := by
  obtain ⟨_, _, d0, d1, _⟩ := shipOk_of h
  simp only at d0 d1
  have H := hide h; clear h
  cases x5
  all_goals
    go_enter Try.func88, Try.ntmps88
    go_wp2
    go_ret
    exact ⟨ret_int (by simp [squat]), (by repeat (first | exact Below.refl _ _ | assumption | refine Below.setCell ?_ (by first | omega | (simp <;> omega)) _ | refine Below.alloc ?_ (by first | omega | (simp <;> omega)) _ | refine below_drewN ?_ _ | refine Below.drew ?_ | refine Below.trans ?_ (Below.mono (by assumption) (by first | omega | (simp <;> omega)))))⟩
set_option maxHeartbeats 1000000 in
theorem impl_need_any (x0 : ByteArray) (x1 x2 x3 x4 : Int) (x5 : Bool) (w : World) (h : shipOk ⟨x0, x1, x2, x3, x4, x5⟩ = true) :
    Calls Try.prog 68 #[.agg #[.string x0, .int .i64 x1, .int .i64 x2, .int .i64 x3, .int .i64 x4, .bool x5]] w fun e w' => e = .returned (.int .i64 (x2 + squat ⟨x0, x1, x2, x3, x4, x5⟩ + 50)) ∧ Below w.heap.size w w' := by
    obtain ⟨_, _, d0, d1, _⟩ := shipOk_of h
    obtain ⟨q0, q1⟩ := squat_range h
    simp only at d0 d1
    have H := hide h; clear h
    have v1 : IntKind.i64.wrap (x2 + squat ⟨x0, x1, x2, x3, x4, x5⟩) = x2 + squat ⟨x0, x1, x2, x3, x4, x5⟩ := IntWalk.i64_in _ (by omega)
    have v2 : IntKind.i64.wrap (x2 + squat ⟨x0, x1, x2, x3, x4, x5⟩ + 50) = x2 + squat ⟨x0, x1, x2, x3, x4, x5⟩ + 50 := IntWalk.i64_in _ (by omega)
    go_enter Try.func68, Try.ntmps68
    go_wp2_with fail
    generalize hW0 : (w.alloc (.cells #[.string x0, .int .i64 x1, .int .i64 x2, .int .i64 x3, .int .i64 x4, .bool x5] 31)) = W0
    have hB0 : Below w.heap.size w W0 := by rw [← hW0]; exact (by repeat (first | exact Below.refl _ _ | assumption | refine Below.setCell ?_ (by first | omega | (simp <;> omega)) _ | refine Below.alloc ?_ (by first | omega | (simp <;> omega)) _ | refine below_drewN ?_ _ | refine Below.drew ?_ | refine Below.trans ?_ (Below.mono (by assumption) (by first | omega | (simp <;> omega)))))
    have hl0 : w.heap.size < W0.heap.size := by rw [← hW0]; simp
    have hx2 : W0.cell? ⟨w.heap.size, 2, none⟩ = some (.int .i64 x2) := by rw [← hW0]; simp
    have hx0 : W0.cell? ⟨w.heap.size, 0, none⟩ = some (.string x0) := by rw [← hW0]; simp
    have hx1 : W0.cell? ⟨w.heap.size, 1, none⟩ = some (.int .i64 x1) := by rw [← hW0]; simp
    have hx3 : W0.cell? ⟨w.heap.size, 3, none⟩ = some (.int .i64 x3) := by rw [← hW0]; simp
    have hx4 : W0.cell? ⟨w.heap.size, 4, none⟩ = some (.int .i64 x4) := by rw [← hW0]; simp
    have hx5 : W0.cell? ⟨w.heap.size, 5, none⟩ = some (.bool x5) := by rw [← hW0]; simp
    clear hW0
    refine wp_region_below (Below.refl W0.heap.size _) (by kernel_rfl) (by kernel_rfl) ?_
    repeat (first
      | go_big_quiet_skip
      | (go_big_quiet_want
         first
          | (refine quiet_value ?_; apply Exists.intro
             refine ⟨fun wq hq => ?_, ?_⟩
             · (obtain ⟨hc, hf⟩ := bcell hq; go_simp; first | done | rfl)
             go_big_quiet_on
             simp only [Act.put, List.setIfInBounds_toArray, List.set_cons_zero, List.set_cons_succ])
          | (refine quiet_call ?_; apply Exists.intro; apply Exists.intro; apply Exists.intro
             refine ⟨fun wq hq => ?_, fun wq hq => ?_, ?_⟩
             · (obtain ⟨hc, hf⟩ := bcell hq; go_simp; exact ⟨rfl, rfl⟩)
             · (first | with_reducible exact (impl_squat_any _ _ _ _ _ _ _ H.out).mono fun e w'' ⟨he, hw⟩ => ⟨he, hw ▸ hq⟩ | with_reducible exact (impl_squat_any _ _ _ _ _ _ _ H.out).mono fun e w'' ⟨he, hb'⟩ => ⟨he, bnext hq hb'⟩ |  exact (impl_squat_any _ _ _ _ _ _ _ H.out).mono fun e w'' ⟨he, hb'⟩ => ⟨he, bnext hq hb'⟩ |  exact (impl_squat_any _ _ _ _ _ _ _ H.out).mono fun e w'' ⟨he, hw⟩ => ⟨he, hw ▸ hq⟩)
             go_big_quiet_on
             simp only [Act.put, List.setIfInBounds_toArray, List.set_cons_zero, List.set_cons_succ])
          | (go_big_quiet_op; go_big_quiet_on)
         ))
    refine wpQuiet_nil (fun w2 hb2 => ?_)
    go_wp2
    go_ret
    exact ⟨rfl, bnext hB0 hb2 (Nat.le_refl _)⟩
set_option maxHeartbeats 1000000 in
theorem spec_SquatOf_any (x0 : ByteArray) (x1 x2 x3 x4 : Int) (x5 : Bool) (w : World) (hs : x0.size ≤ maxLen) :
    Calls Try.prog 67 #[.agg #[.string x0, .int .i64 x1, .int .i64 x2, .int .i64 x3, .int .i64 x4, .bool x5]] w fun e w' => e = .returned (.int .i64 (squatOf ⟨x0, x1, x2, x3, x4, x5⟩)) ∧ Below w.heap.size w w' := by
  by_cases h : shipOk ⟨x0, x1, x2, x3, x4, x5⟩ = true
  · obtain ⟨_, _, d0, d1, _⟩ := shipOk_of h
    simp only at d0 d1
    have fin := hide (show squatOf ⟨x0, x1, x2, x3, x4, x5⟩ = squat ⟨x0, x1, x2, x3, x4, x5⟩ by unfold squatOf; rw [if_pos h])
    have H := hide h
    cases x5
    all_goals
      go_enter Try.func67, Try.ntmps67
      go_wp2_with (first
        | (go_at_call 56; refine (spec_ShipOk_any _ _ _ _ _ _ _ hs).mono ?_; rintro e w1 ⟨rfl, hb'⟩; (first | have hb := bnext hb hb' | have hb := bnextA hb hb' | have hb := hb'); clear hb'; obtain ⟨hc, hf⟩ := bcell hb; have hz := hb.size; (try simp at hz)))
      go_ret
      exact ⟨ret_int (by rw [fin.out]; first | done | simp [squat]), (by repeat (first | exact Below.refl _ _ | assumption | refine Below.setCell ?_ (by first | omega | (simp <;> omega)) _ | refine Below.alloc ?_ (by first | omega | (simp <;> omega)) _ | refine below_drewN ?_ _ | refine Below.drew ?_ | refine Below.trans ?_ (Below.mono (by assumption) (by first | omega | (simp <;> omega)))))⟩
  · have fin := hide (show squatOf ⟨x0, x1, x2, x3, x4, x5⟩ = 0 by unfold squatOf; rw [if_neg h])
    have h' : shipOk ⟨x0, x1, x2, x3, x4, x5⟩ = false := by simpa using h
    clear h
    go_enter Try.func67, Try.ntmps67
    go_wp2_with (go_at_call 56; refine (spec_ShipOk_any _ _ _ _ _ _ _ hs).mono ?_; rintro e w1 ⟨rfl, hb'⟩; (first | have hb := bnext hb hb' | have hb := bnextA hb hb' | have hb := hb'); clear hb'; obtain ⟨hc, hf⟩ := bcell hb; have hz := hb.size; (try simp at hz))
    go_ret
    exact ⟨ret_int (by rw [fin.out]), (by repeat (first | exact Below.refl _ _ | assumption | refine Below.setCell ?_ (by first | omega | (simp <;> omega)) _ | refine Below.alloc ?_ (by first | omega | (simp <;> omega)) _ | refine below_drewN ?_ _ | refine Below.drew ?_ | refine Below.trans ?_ (Below.mono (by assumption) (by first | omega | (simp <;> omega)))))⟩
set_option maxHeartbeats 2000000 in
theorem spec_NeedOf_any (x0 : ByteArray) (x1 x2 x3 x4 : Int) (x5 : Bool) (w : World) (hs : x0.size ≤ maxLen) :
    Calls Try.prog 29 #[.agg #[.string x0, .int .i64 x1, .int .i64 x2, .int .i64 x3, .int .i64 x4, .bool x5]] w fun e w' => e = .returned (.int .i64 (needOf ⟨x0, x1, x2, x3, x4, x5⟩)) ∧ Below w.heap.size w w' := by
  by_cases h : shipOk ⟨x0, x1, x2, x3, x4, x5⟩ = true
  · obtain ⟨_, _, d0, d1, _⟩ := shipOk_of h
    obtain ⟨q0, q1⟩ := squat_range h
    simp only at d0 d1
    have e1 : squatOf ⟨x0, x1, x2, x3, x4, x5⟩ = squat ⟨x0, x1, x2, x3, x4, x5⟩ := by unfold squatOf; rw [if_pos h]
    rw [← e1] at q0 q1
    have fin := hide (show needOf ⟨x0, x1, x2, x3, x4, x5⟩ = x2 + squatOf ⟨x0, x1, x2, x3, x4, x5⟩ + 50 by unfold needOf; rw [if_pos h, e1])
    clear e1
    have v1 : IntKind.i64.wrap (x2 + squatOf ⟨x0, x1, x2, x3, x4, x5⟩) = x2 + squatOf ⟨x0, x1, x2, x3, x4, x5⟩ := IntWalk.i64_in _ (by omega)
    have v2 : IntKind.i64.wrap (x2 + squatOf ⟨x0, x1, x2, x3, x4, x5⟩ + 50) = x2 + squatOf ⟨x0, x1, x2, x3, x4, x5⟩ + 50 := IntWalk.i64_in _ (by omega)
    go_enter Try.func29, Try.ntmps29
    go_wp2_with fail
    generalize hW0 : (w.alloc (.cells #[.string x0, .int .i64 x1, .int .i64 x2, .int .i64 x3, .int .i64 x4, .bool x5] 31)) = W0
    have hB0 : Below w.heap.size w W0 := by rw [← hW0]; exact (by repeat (first | exact Below.refl _ _ | assumption | refine Below.setCell ?_ (by first | omega | (simp <;> omega)) _ | refine Below.alloc ?_ (by first | omega | (simp <;> omega)) _ | refine below_drewN ?_ _ | refine Below.drew ?_ | refine Below.trans ?_ (Below.mono (by assumption) (by first | omega | (simp <;> omega)))))
    have hl0 : w.heap.size < W0.heap.size := by rw [← hW0]; simp
    have hx2 : W0.cell? ⟨w.heap.size, 2, none⟩ = some (.int .i64 x2) := by rw [← hW0]; simp
    have hx0 : W0.cell? ⟨w.heap.size, 0, none⟩ = some (.string x0) := by rw [← hW0]; simp
    have hx1 : W0.cell? ⟨w.heap.size, 1, none⟩ = some (.int .i64 x1) := by rw [← hW0]; simp
    have hx3 : W0.cell? ⟨w.heap.size, 3, none⟩ = some (.int .i64 x3) := by rw [← hW0]; simp
    have hx4 : W0.cell? ⟨w.heap.size, 4, none⟩ = some (.int .i64 x4) := by rw [← hW0]; simp
    have hx5 : W0.cell? ⟨w.heap.size, 5, none⟩ = some (.bool x5) := by rw [← hW0]; simp
    clear hW0
    refine (spec_ShipOk_any _ _ _ _ _ _ _ hs).mono ?_; rintro e w1 ⟨rfl, hb1⟩
    obtain ⟨hc, hf⟩ := bcell hb1
    have s1 := hb1.size
    have hl1 : w.heap.size < w1.heap.size := by omega
    go_wp2_with fail
    refine wp_region_below (Below.refl w1.heap.size _) (by kernel_rfl) (by kernel_rfl) ?_
    repeat (first
      | go_big_quiet_skip
      | (go_big_quiet_want
         first
          | (refine quiet_value ?_; apply Exists.intro
             refine ⟨fun wq hq => ?_, ?_⟩
             · (obtain ⟨hc, hf⟩ := bcell hq; go_simp; first | done | rfl)
             go_big_quiet_on
             simp only [Act.put, List.setIfInBounds_toArray, List.set_cons_zero, List.set_cons_succ])
          | (refine quiet_call ?_; apply Exists.intro; apply Exists.intro; apply Exists.intro
             refine ⟨fun wq hq => ?_, fun wq hq => ?_, ?_⟩
             · (obtain ⟨hc, hf⟩ := bcell hq; go_simp; exact ⟨rfl, rfl⟩)
             · (first | with_reducible exact (spec_SquatOf_any _ _ _ _ _ _ _ hs).mono fun e w'' ⟨he, hw⟩ => ⟨he, hw ▸ hq⟩ | with_reducible exact (spec_SquatOf_any _ _ _ _ _ _ _ hs).mono fun e w'' ⟨he, hb'⟩ => ⟨he, bnext hq hb'⟩ |  exact (spec_SquatOf_any _ _ _ _ _ _ _ hs).mono fun e w'' ⟨he, hb'⟩ => ⟨he, bnext hq hb'⟩ |  exact (spec_SquatOf_any _ _ _ _ _ _ _ hs).mono fun e w'' ⟨he, hw⟩ => ⟨he, hw ▸ hq⟩)
             go_big_quiet_on
             simp only [Act.put, List.setIfInBounds_toArray, List.set_cons_zero, List.set_cons_succ])
          | (go_big_quiet_op; go_big_quiet_on)
         ))
    refine wpQuiet_nil (fun w2 hb2 => ?_)
    go_wp2
    go_ret
    exact ⟨ret_int (by rw [fin.out]), bnext (bnext hB0 hb1 (Nat.le_refl _)) hb2 (Nat.le_refl _)⟩
  · have fin := hide (show needOf ⟨x0, x1, x2, x3, x4, x5⟩ = 0 by unfold needOf; rw [if_neg h])
    have h' : shipOk ⟨x0, x1, x2, x3, x4, x5⟩ = false := by simpa using h
    clear h
    go_enter Try.func29, Try.ntmps29
    go_wp2_with (go_at_call 56; refine (spec_ShipOk_any _ _ _ _ _ _ _ hs).mono ?_; rintro e w1 ⟨rfl, hb'⟩; (first | have hb := bnext hb hb' | have hb := bnextA hb hb' | have hb := hb'); clear hb'; obtain ⟨hc, hf⟩ := bcell hb; have hz := hb.size; (try simp at hz))
    go_ret
    exact ⟨ret_int (by rw [fin.out]), (by repeat (first | exact Below.refl _ _ | assumption | refine Below.setCell ?_ (by first | omega | (simp <;> omega)) _ | refine Below.alloc ?_ (by first | omega | (simp <;> omega)) _ | refine below_drewN ?_ _ | refine Below.drew ?_ | refine Below.trans ?_ (Below.mono (by assumption) (by first | omega | (simp <;> omega)))))⟩
set_option maxHeartbeats 2000000 in
theorem impl_NeedOf_any (x0 : ByteArray) (x1 x2 x3 x4 : Int) (x5 : Bool) (w : World) (hs : x0.size ≤ maxLen) :
    Calls Try.prog 30 #[.agg #[.string x0, .int .i64 x1, .int .i64 x2, .int .i64 x3, .int .i64 x4, .bool x5]] w fun e w' => e = .returned (.int .i64 (needOf ⟨x0, x1, x2, x3, x4, x5⟩)) ∧ Below w.heap.size w w' := by
  by_cases h : shipOk ⟨x0, x1, x2, x3, x4, x5⟩ = true
  · have fin := hide (show needOf ⟨x0, x1, x2, x3, x4, x5⟩ = x2 + squat ⟨x0, x1, x2, x3, x4, x5⟩ + 50 by unfold needOf; rw [if_pos h])
    have H := hide h
    go_enter Try.func30, Try.ntmps30
    go_wp2_with (first
      | (go_at_call 57; refine (impl_ShipOk_any _ _ _ _ _ _ _ hs).mono ?_; rintro e w1 ⟨rfl, hb'⟩; (first | have hb := bnext hb hb' | have hb := bnextA hb hb' | have hb := hb'); clear hb'; obtain ⟨hc, hf⟩ := bcell hb; have hz := hb.size; (try simp at hz))
      | (go_at_call 68; refine (impl_need_any _ _ _ _ _ _ _ H.out).mono ?_; rintro e w1 ⟨rfl, hb'⟩; (first | have hb := bnext hb hb' | have hb := bnextA hb hb' | have hb := hb'); clear hb'; obtain ⟨hc, hf⟩ := bcell hb; have hz := hb.size; (try simp at hz)))
    go_ret
    exact ⟨ret_int (by rw [fin.out]), (by repeat (first | exact Below.refl _ _ | assumption | refine Below.setCell ?_ (by first | omega | (simp <;> omega)) _ | refine Below.alloc ?_ (by first | omega | (simp <;> omega)) _ | refine below_drewN ?_ _ | refine Below.drew ?_ | refine Below.trans ?_ (Below.mono (by assumption) (by first | omega | (simp <;> omega)))))⟩
  · have fin := hide (show needOf ⟨x0, x1, x2, x3, x4, x5⟩ = 0 by unfold needOf; rw [if_neg h])
    have h' : shipOk ⟨x0, x1, x2, x3, x4, x5⟩ = false := by simpa using h
    clear h
    go_enter Try.func30, Try.ntmps30
    go_wp2_with (go_at_call 57; refine (impl_ShipOk_any _ _ _ _ _ _ _ hs).mono ?_; rintro e w1 ⟨rfl, hb'⟩; (first | have hb := bnext hb hb' | have hb := bnextA hb hb' | have hb := hb'); clear hb'; obtain ⟨hc, hf⟩ := bcell hb; have hz := hb.size; (try simp at hz))
    go_ret
    exact ⟨ret_int (by rw [fin.out]), (by repeat (first | exact Below.refl _ _ | assumption | refine Below.setCell ?_ (by first | omega | (simp <;> omega)) _ | refine Below.alloc ?_ (by first | omega | (simp <;> omega)) _ | refine below_drewN ?_ _ | refine Below.drew ?_ | refine Below.trans ?_ (Below.mono (by assumption) (by first | omega | (simp <;> omega)))))⟩
end Go.Proofs.Ytjfppjhlkeopnaa
