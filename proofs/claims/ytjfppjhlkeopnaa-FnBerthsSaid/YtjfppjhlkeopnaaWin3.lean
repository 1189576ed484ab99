/- Windows: valid ones, the starts of something that takes some minutes, whether a minute lies in one: both texts. No condition. -/
import Derived.Test.YtjfppjhlkeopnaaWinL
namespace Go.Proofs.Ytjfppjhlkeopnaa
open Go.RowKit
set_option linter.unusedVariables false
def hasMin (xs : List WindowD) (m : Int) : Bool := xs.any fun x => inB m x.start x.fin
theorem any_step {α : Type} {p : α → Bool} {xs : List α} {k : Nat} (h : k < xs.length) : (xs.drop k).any p = (p xs[k] || (xs.drop (k + 1)).any p) := by rw [List.drop_eq_getElem_cons h, List.any_cons]
theorem l01In_bool {n lo hi : Int} {w : World} (h : inB n lo hi = true) : Calls Try.prog 63 #[.int .i64 n, .int .i64 lo, .int .i64 hi] w fun e w' => e = .returned (.bool true) ∧ w' = w := by
  have := l01In_any n lo hi w
  rw [h] at this
  exact this
set_option maxRecDepth 100000 in
set_option maxHeartbeats 8000000 in
theorem spec_WindowsOk_any (v : Value) (xs : List WindowD) (w : World) (h1 : RdWindow w v xs) (hok : WinOk xs 2881) :
    Calls Try.prog 93 #[v] w fun e w' => e = .returned (.bool true) ∧ Below w.heap.size w w' := by
  obtain ⟨A1, c1, rfl, hc1, hm1, h1⟩ := h1
  unfold maxLen at hm1
  have H1 := hide h1; clear h1
  have HW := hide hok; clear hok
  go_enter Try.func93, Try.ntmps93
  go_wp2
  go_loopw [7] (fun s wr => ∃ k : Nat, k ≤ xs.length ∧ s = .int .i64 k ∧ Below w.heap.size w wr) (fun s _ => xs.length - (intOf s).toNat)
  case atStart => exact ⟨0, Nat.zero_le _, rfl, Below.refl _ _⟩
  case round =>
    obtain ⟨k, hk, rfl, hbk⟩ := hrel
    obtain ⟨wo, rfl⟩ : ∃ wo : World, wo = wr := ⟨_, rfl⟩
    have hbs := hbk.size
    by_cases hlt : k < xs.length
    · obtain ⟨b1, o1, rfl, hb1, hcell1⟩ := H1.out (by omega)
      have e0 : wo.cell? ⟨b1, o1 + k * 2, none⟩ = some (.int .i64 xs[k].start) := by
        rw [hbk.cell (p := ⟨b1, _, none⟩) hb1]; have := hcell1 k xs[k] (List.getElem?_eq_getElem hlt) 0 _ rfl; simpa using this
      have e1 : wo.cell? ⟨b1, o1 + k * 2 + 1, none⟩ = some (.int .i64 xs[k].fin) := by
        rw [hbk.cell (p := ⟨b1, _, none⟩) hb1]; have := hcell1 k xs[k] (List.getElem?_eq_getElem hlt) 1 _ rfl; simpa using this
      have HC1 := hide hcell1
      have hx := HW.out.1 k hlt
      have HPV := hide (show ∀ j (hj : j + 1 = k), (xs[j]'(by omega)).fin + 1 < xs[k].start from fun j hj => by subst hj; exact HW.out.2 j hlt)
      obtain ⟨x, hxe⟩ : ∃ x, xs[k] = x := ⟨_, rfl⟩
      simp only [hxe] at e0 e1 hx HPV
      clear hcell1 hxe
      obtain ⟨hx0, hx1, hx2⟩ := hx
      have hi1 : inB x.start 0 2880 = true := by simp [inB]; omega
      have hi2 : inB x.fin x.start 2880 = true := by simp [inB]; omega
      have hi3 : decide (x.start < 0) = false := by simp; omega
      have hi4 : decide (x.fin < x.start) = false := by simp; omega
      have hi5 : decide (2880 < x.fin) = false := by simp; omega
      go_wp2_with fail
      generalize hW0 : (wo.alloc (.cells #[.int .i64 x.start, .int .i64 x.fin] 117)) = W0
      have hB0 : Below wo.heap.size wo W0 := by rw [← hW0]; exact (by repeat (first | exact Below.refl _ _ | assumption | refine Below.setCell ?_ (by first | omega | (simp <;> omega)) _ | refine Below.alloc ?_ (by first | omega | (simp <;> omega)) _ | refine below_drewN ?_ _ | refine Below.drew ?_ | refine Below.trans ?_ (Below.mono (by assumption) (by first | omega | (simp <;> omega)))))
      have hl0 : wo.heap.size < W0.heap.size := by rw [← hW0]; simp
      have hx0' : W0.cell? ⟨wo.heap.size, 0, none⟩ = some (.int .i64 x.start) := by rw [← hW0]; simp [go_sem]
      have hx1' : W0.cell? ⟨wo.heap.size, 1, none⟩ = some (.int .i64 x.fin) := by rw [← hW0]; simp [go_sem]
      clear hW0 e0 e1
      have hbw0 := bnext hbk hB0 (Nat.le_refl _)
      have hb1' : b1 < W0.heap.size := by omega
      rcases Nat.eq_zero_or_pos k with hk0 | hk0
      · have hkd : decide ((0 : Int) < k) = false := by simp; omega
        have hkd2 : decide (0 < k) = false := by simp; omega
        refine wp_region_below (Below.refl W0.heap.size _) (by kernel_rfl) (by kernel_rfl) ?_
        repeat (first
          | go_big_quiet_skip
          | (go_big_quiet_want
             first
              | (refine quiet_value ?_; apply Exists.intro
                 refine ⟨fun wq hq => ?_, ?_⟩
                 · (obtain ⟨hc, hf⟩ := bcell hq; go_simp; first | done | rfl)
                 go_big_quiet_on
                 simp only [Act.put, List.setIfInBounds_toArray, List.set_cons_zero, List.set_cons_succ])
              | (refine quiet_call ?_; apply Exists.intro; apply Exists.intro; apply Exists.intro
                 refine ⟨fun wq hq => ?_, fun wq hq => ?_, ?_⟩
                 · (obtain ⟨hc, hf⟩ := bcell hq; go_simp; exact ⟨rfl, rfl⟩)
                 · (first | with_reducible exact (l01In_bool hi1).mono fun e w'' ⟨he, hw⟩ => ⟨he, hw ▸ hq⟩ | with_reducible exact (l01In_bool hi1).mono fun e w'' ⟨he, hb'⟩ => ⟨he, bnext hq hb'⟩ | with_reducible exact (l01In_bool hi2).mono fun e w'' ⟨he, hw⟩ => ⟨he, hw ▸ hq⟩ | with_reducible exact (l01In_bool hi2).mono fun e w'' ⟨he, hb'⟩ => ⟨he, bnext hq hb'⟩ |  exact (l01In_bool hi1).mono fun e w'' ⟨he, hb'⟩ => ⟨he, bnext hq hb'⟩ |  exact (l01In_bool hi1).mono fun e w'' ⟨he, hw⟩ => ⟨he, hw ▸ hq⟩ |  exact (l01In_bool hi2).mono fun e w'' ⟨he, hb'⟩ => ⟨he, bnext hq hb'⟩ |  exact (l01In_bool hi2).mono fun e w'' ⟨he, hw⟩ => ⟨he, hw ▸ hq⟩)
                 go_big_quiet_on
                 simp only [Act.put, List.setIfInBounds_toArray, List.set_cons_zero, List.set_cons_succ])
              | (go_big_quiet_op; go_big_quiet_on)
             ))
        refine wpQuiet_nil (fun w5 hb5 => ?_)
        go_wp2
        go_roundw
        case rel => exact ⟨k + 1, by omega, by go_num, bnext hbw0 hb5 (Nat.le_refl _)⟩
        case measure => simp [intOf]; omega
      · obtain ⟨j, hj⟩ : ∃ j, j + 1 = k := ⟨k - 1, by omega⟩
        have hpv := HPV.out j hj
        have hkd : decide ((0 : Int) < k) = true := by simp; omega
        have hkd2 : decide (0 < k) = true := by simp; omega
        have hkj : (k : Int) - 1 = j := by omega
        have hwj : IntKind.i64.wrap ((k : Int) - 1) = j := by rw [IntWalk.i64_in _ (by omega)]; omega
        have hwj2 : IntKind.i64.wrap (j : Int) = j := IntWalk.i64_in _ (by omega)
        have hjl : j < xs.length := by omega
        have hjl' : (j : Int) < xs.length := by omega
        have hj0 : (0 : Int) ≤ j := by omega
        have p0 : W0.cell? ⟨b1, o1 + j * 2 + 1, none⟩ = some (.int .i64 xs[j].fin) := by rw [hbw0.cell (p := ⟨b1, _, none⟩) hb1]; have := HC1.out j xs[j] (List.getElem?_eq_getElem hjl) 1 _ rfl; simpa using this
        have hyr := HW.out.1 j hjl
        obtain ⟨y, hy⟩ : ∃ y, xs[j].fin = y := ⟨_, rfl⟩
        simp only [hy] at p0 hyr hpv
        have hyw : IntKind.i64.wrap (y + 1) = y + 1 := IntWalk.i64_in _ (by omega)
        have hd1 : decide (x.start ≤ y + 1) = false := by simp; omega
        clear hy hj
        refine wp_region_below (Below.refl W0.heap.size _) (by kernel_rfl) (by kernel_rfl) ?_
        repeat (first
          | go_big_quiet_skip
          | (go_big_quiet_want
             first
              | (refine quiet_value ?_; apply Exists.intro
                 refine ⟨fun wq hq => ?_, ?_⟩
                 · (obtain ⟨hc, hf⟩ := bcell hq; go_simp; first | done | rfl)
                 go_big_quiet_on
                 simp only [Act.put, List.setIfInBounds_toArray, List.set_cons_zero, List.set_cons_succ])
              | (refine quiet_call ?_; apply Exists.intro; apply Exists.intro; apply Exists.intro
                 refine ⟨fun wq hq => ?_, fun wq hq => ?_, ?_⟩
                 · (obtain ⟨hc, hf⟩ := bcell hq; go_simp; exact ⟨rfl, rfl⟩)
                 · (first | with_reducible exact (l01In_bool hi1).mono fun e w'' ⟨he, hw⟩ => ⟨he, hw ▸ hq⟩ | with_reducible exact (l01In_bool hi1).mono fun e w'' ⟨he, hb'⟩ => ⟨he, bnext hq hb'⟩ | with_reducible exact (l01In_bool hi2).mono fun e w'' ⟨he, hw⟩ => ⟨he, hw ▸ hq⟩ | with_reducible exact (l01In_bool hi2).mono fun e w'' ⟨he, hb'⟩ => ⟨he, bnext hq hb'⟩ |  exact (l01In_bool hi1).mono fun e w'' ⟨he, hb'⟩ => ⟨he, bnext hq hb'⟩ |  exact (l01In_bool hi1).mono fun e w'' ⟨he, hw⟩ => ⟨he, hw ▸ hq⟩ |  exact (l01In_bool hi2).mono fun e w'' ⟨he, hb'⟩ => ⟨he, bnext hq hb'⟩ |  exact (l01In_bool hi2).mono fun e w'' ⟨he, hw⟩ => ⟨he, hw ▸ hq⟩)
                 go_big_quiet_on
                 simp only [Act.put, List.setIfInBounds_toArray, List.set_cons_zero, List.set_cons_succ])
              | (go_big_quiet_op; go_big_quiet_on)
             ))
        refine wpQuiet_nil (fun w5 hb5 => ?_)
        go_wp2
        go_roundw
        case rel => exact ⟨k + 1, by omega, by go_num, bnext hbw0 hb5 (Nat.le_refl _)⟩
        case measure => simp [intOf]; omega
    · obtain rfl : k = xs.length := by omega
      go_wp2
      go_ret
      exact ⟨rfl, hbk⟩
set_option maxRecDepth 100000 in
set_option maxHeartbeats 8000000 in
theorem impl_WindowsOk_any (v : Value) (xs : List WindowD) (w : World) (h1 : RdWindow w v xs) (hok : WinOk xs 2881) :
    Calls Try.prog 87 #[v] w fun e w' => e = .returned (.bool true) ∧ Below w.heap.size w w' := by
  obtain ⟨A1, c1, rfl, hc1, hm1, h1⟩ := h1
  unfold maxLen at hm1
  have H1 := hide h1; clear h1
  have HW := hide hok; clear hok
  go_enter Try.func87, Try.ntmps87
  go_wp2
  go_loopw [7] (fun s wr => ∃ k : Nat, k ≤ xs.length ∧ s = .int .i64 k ∧ Below w.heap.size w wr) (fun s _ => xs.length - (intOf s).toNat)
  case atStart => exact ⟨0, Nat.zero_le _, rfl, Below.refl _ _⟩
  case round =>
    obtain ⟨k, hk, rfl, hbk⟩ := hrel
    obtain ⟨wo, rfl⟩ : ∃ wo : World, wo = wr := ⟨_, rfl⟩
    have hbs := hbk.size
    by_cases hlt : k < xs.length
    · obtain ⟨b1, o1, rfl, hb1, hcell1⟩ := H1.out (by omega)
      have e0 : wo.cell? ⟨b1, o1 + k * 2, none⟩ = some (.int .i64 xs[k].start) := by
        rw [hbk.cell (p := ⟨b1, _, none⟩) hb1]; have := hcell1 k xs[k] (List.getElem?_eq_getElem hlt) 0 _ rfl; simpa using this
      have e1 : wo.cell? ⟨b1, o1 + k * 2 + 1, none⟩ = some (.int .i64 xs[k].fin) := by
        rw [hbk.cell (p := ⟨b1, _, none⟩) hb1]; have := hcell1 k xs[k] (List.getElem?_eq_getElem hlt) 1 _ rfl; simpa using this
      have HC1 := hide hcell1
      have hx := HW.out.1 k hlt
      have HPV := hide (show ∀ j (hj : j + 1 = k), (xs[j]'(by omega)).fin + 1 < xs[k].start from fun j hj => by subst hj; exact HW.out.2 j hlt)
      obtain ⟨x, hxe⟩ : ∃ x, xs[k] = x := ⟨_, rfl⟩
      simp only [hxe] at e0 e1 hx HPV
      clear hcell1 hxe
      obtain ⟨hx0, hx1, hx2⟩ := hx
      have hi1 : inB x.start 0 2880 = true := by simp [inB]; omega
      have hi2 : inB x.fin x.start 2880 = true := by simp [inB]; omega
      have hi3 : decide (x.start < 0) = false := by simp; omega
      have hi4 : decide (x.fin < x.start) = false := by simp; omega
      have hi5 : decide (2880 < x.fin) = false := by simp; omega
      go_wp2_with fail
      generalize hW0 : (wo.alloc (.cells #[.int .i64 x.start, .int .i64 x.fin] 117)) = W0
      have hB0 : Below wo.heap.size wo W0 := by rw [← hW0]; exact (by repeat (first | exact Below.refl _ _ | assumption | refine Below.setCell ?_ (by first | omega | (simp <;> omega)) _ | refine Below.alloc ?_ (by first | omega | (simp <;> omega)) _ | refine below_drewN ?_ _ | refine Below.drew ?_ | refine Below.trans ?_ (Below.mono (by assumption) (by first | omega | (simp <;> omega)))))
      have hl0 : wo.heap.size < W0.heap.size := by rw [← hW0]; simp
      have hx0' : W0.cell? ⟨wo.heap.size, 0, none⟩ = some (.int .i64 x.start) := by rw [← hW0]; simp [go_sem]
      have hx1' : W0.cell? ⟨wo.heap.size, 1, none⟩ = some (.int .i64 x.fin) := by rw [← hW0]; simp [go_sem]
      clear hW0 e0 e1
      have hbw0 := bnext hbk hB0 (Nat.le_refl _)
      have hb1' : b1 < W0.heap.size := by omega
      rcases Nat.eq_zero_or_pos k with hk0 | hk0
      · have hkd : decide ((0 : Int) < k) = false := by simp; omega
        have hkd2 : decide (0 < k) = false := by simp; omega
        refine wp_region_below (Below.refl W0.heap.size _) (by kernel_rfl) (by kernel_rfl) ?_
        repeat (first
          | go_big_quiet_skip
          | (go_big_quiet_want
             first
              | (refine quiet_value ?_; apply Exists.intro
                 refine ⟨fun wq hq => ?_, ?_⟩
                 · (obtain ⟨hc, hf⟩ := bcell hq; go_simp; first | done | rfl)
                 go_big_quiet_on
                 simp only [Act.put, List.setIfInBounds_toArray, List.set_cons_zero, List.set_cons_succ])
              | (go_big_quiet_op; go_big_quiet_on)
             ))
        refine wpQuiet_nil (fun w5 hb5 => ?_)
        go_wp2
        go_roundw
        case rel => exact ⟨k + 1, by omega, by go_num, bnext hbw0 hb5 (Nat.le_refl _)⟩
        case measure => simp [intOf]; omega
      · obtain ⟨j, hj⟩ : ∃ j, j + 1 = k := ⟨k - 1, by omega⟩
        have hpv := HPV.out j hj
        have hkd : decide ((0 : Int) < k) = true := by simp; omega
        have hkd2 : decide (0 < k) = true := by simp; omega
        have hkj : (k : Int) - 1 = j := by omega
        have hwj : IntKind.i64.wrap ((k : Int) - 1) = j := by rw [IntWalk.i64_in _ (by omega)]; omega
        have hwj2 : IntKind.i64.wrap (j : Int) = j := IntWalk.i64_in _ (by omega)
        have hjl : j < xs.length := by omega
        have hjl' : (j : Int) < xs.length := by omega
        have hj0 : (0 : Int) ≤ j := by omega
        have p0 : W0.cell? ⟨b1, o1 + j * 2 + 1, none⟩ = some (.int .i64 xs[j].fin) := by rw [hbw0.cell (p := ⟨b1, _, none⟩) hb1]; have := HC1.out j xs[j] (List.getElem?_eq_getElem hjl) 1 _ rfl; simpa using this
        have hyr := HW.out.1 j hjl
        obtain ⟨y, hy⟩ : ∃ y, xs[j].fin = y := ⟨_, rfl⟩
        simp only [hy] at p0 hyr hpv
        have hyw : IntKind.i64.wrap (y + 1) = y + 1 := IntWalk.i64_in _ (by omega)
        have hd1 : decide (x.start ≤ y + 1) = false := by simp; omega
        clear hy hj
        refine wp_region_below (Below.refl W0.heap.size _) (by kernel_rfl) (by kernel_rfl) ?_
        repeat (first
          | go_big_quiet_skip
          | (go_big_quiet_want
             first
              | (refine quiet_value ?_; apply Exists.intro
                 refine ⟨fun wq hq => ?_, ?_⟩
                 · (obtain ⟨hc, hf⟩ := bcell hq; go_simp; first | done | rfl)
                 go_big_quiet_on
                 simp only [Act.put, List.setIfInBounds_toArray, List.set_cons_zero, List.set_cons_succ])
              | (go_big_quiet_op; go_big_quiet_on)
             ))
        refine wpQuiet_nil (fun w5 hb5 => ?_)
        go_wp2
        go_roundw
        case rel => exact ⟨k + 1, by omega, by go_num, bnext hbw0 hb5 (Nat.le_refl _)⟩
        case measure => simp [intOf]; omega
    · obtain rfl : k = xs.length := by omega
      go_wp2
      go_ret
      exact ⟨rfl, hbk⟩
end Go.Proofs.Ytjfppjhlkeopnaa
