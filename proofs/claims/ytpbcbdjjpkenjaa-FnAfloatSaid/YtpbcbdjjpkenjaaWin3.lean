/- Windows: valid ones, the starts of something that takes some minutes, whether a minute lies in one: both texts. No condition. -/
import Derived.Test.YtpbcbdjjpkenjaaWinL
namespace Go.Proofs.Ytpbcbdjjpkenjaa
open Go.RowKit
set_option linter.unusedVariables false
def hasMin (xs : List WindowD) (m : Int) : Bool := xs.any fun x => inB m x.start x.fin
theorem any_step {α : Type} {p : α → Bool} {xs : List α} {k : Nat} (h : k < xs.length) : (xs.drop k).any p = (p xs[k] || (xs.drop (k + 1)).any p) := by rw [List.drop_eq_getElem_cons h, List.any_cons]
theorem l01In_bool {n lo hi : Int} {w : World} (h : inB n lo hi = true) : Calls Try.prog 68 #[.int .i64 n, .int .i64 lo, .int .i64 hi] w fun e w' => e = .returned (.bool true) ∧ w' = w := by
  have := l01In_any n lo hi w
  rw [h] at this
  exact this
set_option maxRecDepth 100000 in
set_option maxHeartbeats 8000000 in
theorem spec_WindowsOk_any (v : Value) (xs : List WindowD) (w : World) (h1 : RdWindow w v xs) (hok : WinOk xs 2881) :
    Calls Try.prog 138 #[v] w fun e w' => e = .returned (.bool true) ∧ Below w.heap.size w w' := by
  obtain ⟨A1, c1, rfl, hc1, hm1, h1⟩ := h1
  unfold maxLen at hm1
  have H1 := hide h1; clear h1
  have HW := hide hok; clear hok
  go_enter Try.func138, Try.ntmps138
  go_wp2
  go_loopw [7] (fun s wr => ∃ k : Nat, k ≤ xs.length ∧ s = .int .i64 k ∧ Below w.heap.size w wr) (fun s _ => xs.length - (intOf s).toNat)
  case atStart => exact ⟨0, Nat.zero_le _, rfl, Below.refl _ _⟩
  case round =>
    obtain ⟨k, hk, rfl, hbk⟩ := hrel
    obtain ⟨wo, rfl⟩ : ∃ wo : World, wo = wr := ⟨_, rfl⟩
    have hbs := hbk.size
    by_cases hlt : k < xs.length
    · obtain ⟨b1, o1, rfl, hb1, hcell1⟩ := H1.out (by omega)
      have e0 : wo.cell? ⟨b1, o1 + k * 2, none⟩ = some (.int .i64 xs[k].start) := by
        rw [hbk.cell (p := ⟨b1, _, none⟩) hb1]; have := hcell1 k xs[k] (List.getElem?_eq_getElem hlt) 0 _ rfl; simpa using this
      have e1 : wo.cell? ⟨b1, o1 + k * 2 + 1, none⟩ = some (.int .i64 xs[k].fin) := by
        rw [hbk.cell (p := ⟨b1, _, none⟩) hb1]; have := hcell1 k xs[k] (List.getElem?_eq_getElem hlt) 1 _ rfl; simpa using this
      have HC1 := hide hcell1
      have hx := HW.out.1 k hlt
      have HPV := hide (show ∀ j (hj : j + 1 = k), (xs[j]'(by omega)).fin + 1 < xs[k].start from fun j hj => by subst hj; exact HW.out.2 j hlt)
      obtain ⟨x, hxe⟩ : ∃ x, xs[k] = x := ⟨_, rfl⟩
      simp only [hxe] at e0 e1 hx HPV
      clear hcell1 hxe
      obtain ⟨hx0, hx1, hx2⟩ := hx
      have hi1 : inB x.start 0 2880 = true := by simp [inB]; omega
      have hi2 : inB x.fin x.start 2880 = true := by simp [inB]; omega
      have hi3 : decide (x.start < 0) = false := by simp; omega
      have hi4 : decide (x.fin < x.start) = false := by simp; omega
      have hi5 : decide (2880 < x.fin) = false := by simp; omega
      go_wp2_with fail
      generalize hW0 : (wo.alloc (.cells #[.int .i64 x.start, .int .i64 x.fin] 94)) = W0
      have hB0 : Below wo.heap.size wo W0 := by rw [← hW0]; exact (by repeat (first | exact Below.refl _ _ | assumption | refine Below.setCell ?_ (by first | omega | (simp <;> omega)) _ | refine Below.alloc ?_ (by first | omega | (simp <;> omega)) _ | refine below_drewN ?_ _ | refine Below.drew ?_ | refine Below.trans ?_ (Below.mono (by assumption) (by first | omega | (simp <;> omega)))))
      have hl0 : wo.heap.size < W0.heap.size := by rw [← hW0]; simp
      have hx0' : W0.cell? ⟨wo.heap.size, 0, none⟩ = some (.int .i64 x.start) := by rw [← hW0]; simp [go_sem]
      have hx1' : W0.cell? ⟨wo.heap.size, 1, none⟩ = some (.int .i64 x.fin) := by rw [← hW0]; simp [go_sem]
      clear hW0 e0 e1
      have hbw0 := bnext hbk hB0 (Nat.le_refl _)
      have hb1' : b1 < W0.heap.size := by omega
      rcases Nat.eq_zero_or_pos k with hk0 | hk0
      · have hkd : decide ((0 : Int) < k) = false := by simp; omega
        have hkd2 : decide (0 < k) = false := by simp; omega
        refine wp_region_below (Below.refl W0.heap.size _) (by kernel_rfl) (by kernel_rfl) ?_
        repeat (first
          | go_big_quiet_skip
          | (go_big_quiet_want
             first
              | (refine quiet_value ?_; apply Exists.intro
                 refine ⟨fun wq hq => ?_, ?_⟩
                 · (obtain ⟨hc, hf⟩ := bcell hq; go_simp; first | done | rfl)
                 go_big_quiet_on
                 simp only [Act.put, List.setIfInBounds_toArray, List.set_cons_zero, List.set_cons_succ])
              | (refine quiet_call ?_; apply Exists.intro; apply Exists.intro; apply Exists.intro
                 refine ⟨fun wq hq => ?_, fun wq hq => ?_, ?_⟩
                 · (obtain ⟨hc, hf⟩ := bcell hq; go_simp; exact ⟨rfl, rfl⟩)
                 · (first | with_reducible exact (l01In_bool hi1).mono fun e w'' ⟨he, hw⟩ => ⟨he, hw ▸ hq⟩ | with_reducible exact (l01In_bool hi1).mono fun e w'' ⟨he, hb'⟩ => ⟨he, bnext hq hb'⟩ | with_reducible exact (l01In_bool hi2).mono fun e w'' ⟨he, hw⟩ => ⟨he, hw ▸ hq⟩ | with_reducible exact (l01In_bool hi2).mono fun e w'' ⟨he, hb'⟩ => ⟨he, bnext hq hb'⟩ |  exact (l01In_bool hi1).mono fun e w'' ⟨he, hb'⟩ => ⟨he, bnext hq hb'⟩ |  exact (l01In_bool hi1).mono fun e w'' ⟨he, hw⟩ => ⟨he, hw ▸ hq⟩ |  exact (l01In_bool hi2).mono fun e w'' ⟨he, hb'⟩ => ⟨he, bnext hq hb'⟩ |  exact (l01In_bool hi2).mono fun e w'' ⟨he, hw⟩ => ⟨he, hw ▸ hq⟩)
                 go_big_quiet_on
                 simp only [Act.put, List.setIfInBounds_toArray, List.set_cons_zero, List.set_cons_succ])
              | (go_big_quiet_op; go_big_quiet_on)
             ))
        refine wpQuiet_nil (fun w5 hb5 => ?_)
        go_wp2
        go_roundw
        case rel => exact ⟨k + 1, by omega, by go_num, bnext hbw0 hb5 (Nat.le_refl _)⟩
        case measure => simp [intOf]; omega
      · obtain ⟨j, hj⟩ : ∃ j, j + 1 = k := ⟨k - 1, by omega⟩
        have hpv := HPV.out j hj
        have hkd : decide ((0 : Int) < k) = true := by simp; omega
        have hkd2 : decide (0 < k) = true := by simp; omega
        have hkj : (k : Int) - 1 = j := by omega
        have hwj : IntKind.i64.wrap ((k : Int) - 1) = j := by rw [IntWalk.i64_in _ (by omega)]; omega
        have hwj2 : IntKind.i64.wrap (j : Int) = j := IntWalk.i64_in _ (by omega)
        have hjl : j < xs.length := by omega
        have hjl' : (j : Int) < xs.length := by omega
        have hj0 : (0 : Int) ≤ j := by omega
        have p0 : W0.cell? ⟨b1, o1 + j * 2 + 1, none⟩ = some (.int .i64 xs[j].fin) := by rw [hbw0.cell (p := ⟨b1, _, none⟩) hb1]; have := HC1.out j xs[j] (List.getElem?_eq_getElem hjl) 1 _ rfl; simpa using this
        have hyr := HW.out.1 j hjl
        obtain ⟨y, hy⟩ : ∃ y, xs[j].fin = y := ⟨_, rfl⟩
        simp only [hy] at p0 hyr hpv
        have hyw : IntKind.i64.wrap (y + 1) = y + 1 := IntWalk.i64_in _ (by omega)
        have hd1 : decide (x.start ≤ y + 1) = false := by simp; omega
        clear hy hj
        refine wp_region_below (Below.refl W0.heap.size _) (by kernel_rfl) (by kernel_rfl) ?_
        repeat (first
          | go_big_quiet_skip
          | (go_big_quiet_want
             first
              | (refine quiet_value ?_; apply Exists.intro
                 refine ⟨fun wq hq => ?_, ?_⟩
                 · (obtain ⟨hc, hf⟩ := bcell hq; go_simp; first | done | rfl)
                 go_big_quiet_on
                 simp only [Act.put, List.setIfInBounds_toArray, List.set_cons_zero, List.set_cons_succ])
              | (refine quiet_call ?_; apply Exists.intro; apply Exists.intro; apply Exists.intro
                 refine ⟨fun wq hq => ?_, fun wq hq => ?_, ?_⟩
                 · (obtain ⟨hc, hf⟩ := bcell hq; go_simp; exact ⟨rfl, rfl⟩)
                 · (first | with_reducible exact (l01In_bool hi1).mono fun e w'' ⟨he, hw⟩ => ⟨he, hw ▸ hq⟩ | with_reducible exact (l01In_bool hi1).mono fun e w'' ⟨he, hb'⟩ => ⟨he, bnext hq hb'⟩ | with_reducible exact (l01In_bool hi2).mono fun e w'' ⟨he, hw⟩ => ⟨he, hw ▸ hq⟩ | with_reducible exact (l01In_bool hi2).mono fun e w'' ⟨he, hb'⟩ => ⟨he, bnext hq hb'⟩ |  exact (l01In_bool hi1).mono fun e w'' ⟨he, hb'⟩ => ⟨he, bnext hq hb'⟩ |  exact (l01In_bool hi1).mono fun e w'' ⟨he, hw⟩ => ⟨he, hw ▸ hq⟩ |  exact (l01In_bool hi2).mono fun e w'' ⟨he, hb'⟩ => ⟨he, bnext hq hb'⟩ |  exact (l01In_bool hi2).mono fun e w'' ⟨he, hw⟩ => ⟨he, hw ▸ hq⟩)
                 go_big_quiet_on
                 simp only [Act.put, List.setIfInBounds_toArray, List.set_cons_zero, List.set_cons_succ])
              | (go_big_quiet_op; go_big_quiet_on)
             ))
        refine wpQuiet_nil (fun w5 hb5 => ?_)
        go_wp2
        go_roundw
        case rel => exact ⟨k + 1, by omega, by go_num, bnext hbw0 hb5 (Nat.le_refl _)⟩
        case measure => simp [intOf]; omega
    · obtain rfl : k = xs.length := by omega
      go_wp2
      go_ret
      exact ⟨rfl, hbk⟩
set_option maxRecDepth 100000 in
set_option maxHeartbeats 8000000 in
theorem impl_WindowsOk_any (v : Value) (xs : List WindowD) (w : World) (h1 : RdWindow w v xs) (hok : WinOk xs 2881) :
    Calls Try.prog 58 #[v] w fun e w' => e = .returned (.bool true) ∧ Below w.heap.size w w' := by
  obtain ⟨A1, c1, rfl, hc1, hm1, h1⟩ := h1
  unfold maxLen at hm1
  have H1 := hide h1; clear h1
  have HW := hide hok; clear hok
  go_enter Try.func58, Try.ntmps58
  go_wp2
  go_loopw [7] (fun s wr => ∃ k : Nat, k ≤ xs.length ∧ s = .int .i64 k ∧ Below w.heap.size w wr) (fun s _ => xs.length - (intOf s).toNat)
  case atStart => exact ⟨0, Nat.zero_le _, rfl, Below.refl _ _⟩
  case round =>
    obtain ⟨k, hk, rfl, hbk⟩ := hrel
    obtain ⟨wo, rfl⟩ : ∃ wo : World, wo = wr := ⟨_, rfl⟩
    have hbs := hbk.size
    by_cases hlt : k < xs.length
    · obtain ⟨b1, o1, rfl, hb1, hcell1⟩ := H1.out (by omega)
      have e0 : wo.cell? ⟨b1, o1 + k * 2, none⟩ = some (.int .i64 xs[k].start) := by
        rw [hbk.cell (p := ⟨b1, _, none⟩) hb1]; have := hcell1 k xs[k] (List.getElem?_eq_getElem hlt) 0 _ rfl; simpa using this
      have e1 : wo.cell? ⟨b1, o1 + k * 2 + 1, none⟩ = some (.int .i64 xs[k].fin) := by
        rw [hbk.cell (p := ⟨b1, _, none⟩) hb1]; have := hcell1 k xs[k] (List.getElem?_eq_getElem hlt) 1 _ rfl; simpa using this
      have HC1 := hide hcell1
      have hx := HW.out.1 k hlt
      have HPV := hide (show ∀ j (hj : j + 1 = k), (xs[j]'(by omega)).fin + 1 < xs[k].start from fun j hj => by subst hj; exact HW.out.2 j hlt)
      obtain ⟨x, hxe⟩ : ∃ x, xs[k] = x := ⟨_, rfl⟩
      simp only [hxe] at e0 e1 hx HPV
      clear hcell1 hxe
      obtain ⟨hx0, hx1, hx2⟩ := hx
      have hi1 : inB x.start 0 2880 = true := by simp [inB]; omega
      have hi2 : inB x.fin x.start 2880 = true := by simp [inB]; omega
      have hi3 : decide (x.start < 0) = false := by simp; omega
      have hi4 : decide (x.fin < x.start) = false := by simp; omega
      have hi5 : decide (2880 < x.fin) = false := by simp; omega
      go_wp2_with fail
      generalize hW0 : (wo.alloc (.cells #[.int .i64 x.start, .int .i64 x.fin] 94)) = W0
      have hB0 : Below wo.heap.size wo W0 := by rw [← hW0]; exact (by repeat (first | exact Below.refl _ _ | assumption | refine Below.setCell ?_ (by first | omega | (simp <;> omega)) _ | refine Below.alloc ?_ (by first | omega | (simp <;> omega)) _ | refine below_drewN ?_ _ | refine Below.drew ?_ | refine Below.trans ?_ (Below.mono (by assumption) (by first | omega | (simp <;> omega)))))
      have hl0 : wo.heap.size < W0.heap.size := by rw [← hW0]; simp
      have hx0' : W0.cell? ⟨wo.heap.size, 0, none⟩ = some (.int .i64 x.start) := by rw [← hW0]; simp [go_sem]
      have hx1' : W0.cell? ⟨wo.heap.size, 1, none⟩ = some (.int .i64 x.fin) := by rw [← hW0]; simp [go_sem]
      clear hW0 e0 e1
      have hbw0 := bnext hbk hB0 (Nat.le_refl _)
      have hb1' : b1 < W0.heap.size := by omega
      rcases Nat.eq_zero_or_pos k with hk0 | hk0
      · have hkd : decide ((0 : Int) < k) = false := by simp; omega
        have hkd2 : decide (0 < k) = false := by simp; omega
        refine wp_region_below (Below.refl W0.heap.size _) (by kernel_rfl) (by kernel_rfl) ?_
        repeat (first
          | go_big_quiet_skip
          | (go_big_quiet_want
             first
              | (refine quiet_value ?_; apply Exists.intro
                 refine ⟨fun wq hq => ?_, ?_⟩
                 · (obtain ⟨hc, hf⟩ := bcell hq; go_simp; first | done | rfl)
                 go_big_quiet_on
                 simp only [Act.put, List.setIfInBounds_toArray, List.set_cons_zero, List.set_cons_succ])
              | (go_big_quiet_op; go_big_quiet_on)
             ))
        refine wpQuiet_nil (fun w5 hb5 => ?_)
        go_wp2
        go_roundw
        case rel => exact ⟨k + 1, by omega, by go_num, bnext hbw0 hb5 (Nat.le_refl _)⟩
        case measure => simp [intOf]; omega
      · obtain ⟨j, hj⟩ : ∃ j, j + 1 = k := ⟨k - 1, by omega⟩
        have hpv := HPV.out j hj
        have hkd : decide ((0 : Int) < k) = true := by simp; omega
        have hkd2 : decide (0 < k) = true := by simp; omega
        have hkj : (k : Int) - 1 = j := by omega
        have hwj : IntKind.i64.wrap ((k : Int) - 1) = j := by rw [IntWalk.i64_in _ (by omega)]; omega
        have hwj2 : IntKind.i64.wrap (j : Int) = j := IntWalk.i64_in _ (by omega)
        have hjl : j < xs.length := by omega
        have hjl' : (j : Int) < xs.length := by omega
        have hj0 : (0 : Int) ≤ j := by omega
        have p0 : W0.cell? ⟨b1, o1 + j * 2 + 1, none⟩ = some (.int .i64 xs[j].fin) := by rw [hbw0.cell (p := ⟨b1, _, none⟩) hb1]; have := HC1.out j xs[j] (List.getElem?_eq_getElem hjl) 1 _ rfl; simpa using this
        have hyr := HW.out.1 j hjl
        obtain ⟨y, hy⟩ : ∃ y, xs[j].fin = y := ⟨_, rfl⟩
        simp only [hy] at p0 hyr hpv
        have hyw : IntKind.i64.wrap (y + 1) = y + 1 := IntWalk.i64_in _ (by omega)
        have hd1 : decide (x.start ≤ y + 1) = false := by simp; omega
        clear hy hj
        refine wp_region_below (Below.refl W0.heap.size _) (by kernel_rfl) (by kernel_rfl) ?_
        repeat (first
          | go_big_quiet_skip
          | (go_big_quiet_want
             first
              | (refine quiet_value ?_; apply Exists.intro
                 refine ⟨fun wq hq => ?_, ?_⟩
                 · (obtain ⟨hc, hf⟩ := bcell hq; go_simp; first | done | rfl)
                 go_big_quiet_on
                 simp only [Act.put, List.setIfInBounds_toArray, List.set_cons_zero, List.set_cons_succ])
              | (go_big_quiet_op; go_big_quiet_on)
             ))
        refine wpQuiet_nil (fun w5 hb5 => ?_)
        go_wp2
        go_roundw
        case rel => exact ⟨k + 1, by omega, by go_num, bnext hbw0 hb5 (Nat.le_refl _)⟩
        case measure => simp [intOf]; omega
    · obtain rfl : k = xs.length := by omega
      go_wp2
      go_ret
      exact ⟨rfl, hbk⟩
set_option maxRecDepth 100000 in
set_option maxHeartbeats 8000000 in
theorem spec_ShrinkWindows_any (v : Value) (xs : List WindowD) (n : Int) (w : World) (h1 : RdWindow w v xs) (hok : WinOk xs 2881) (hlen : xs.length ≤ 2881) (n0 : 0 ≤ n) (n1 : n ≤ 480) :
    Calls Try.prog 122 #[v, .int .i64 n] w fun e w' => ∃ v', e = .returned v' ∧ Own w' w.heap.size 94 2 WindowD.enc v' (shrinkL n xs) ∧ Below w.heap.size w w' := by
  have HR1 := hide h1
  obtain ⟨A1, c1, rfl, hc1, hm1, h1⟩ := h1
  unfold maxLen at hm1
  have H1 := hide h1; clear h1
  have HW := hide hok; clear hok
  have hin : inB n 0 2880 = true := by simp [inB]; omega
  obtain ⟨i0, hi, hz0, hz1, hz2⟩ := info_parts window_info
  go_enter Try.func122, Try.ntmps122
  go_wp2_with (first
    | (go_at_call 138; with_reducible refine (spec_WindowsOk_any _ xs _ ((RdB.keep HR1.out (B' := w.heap.size) (by repeat (first | exact Below.refl _ _ | assumption | refine Below.setCell ?_ (by first | omega | (simp <;> omega)) _ | refine Below.alloc ?_ (by first | omega | (simp <;> omega)) _ | refine below_drewN ?_ _ | refine Below.drew ?_ | refine Below.trans ?_ (Below.mono (by assumption) (by first | omega | (simp <;> omega))))) (Nat.le_refl _)).mono (by first | omega | (simp <;> omega))) HW.out).mono ?_; rintro e w1 ⟨rfl, hb'⟩; (first | have hb := bnext hb hb' | have hb := bnextA hb hb' | have hb := hb'); clear hb'; obtain ⟨hc, hf⟩ := bcell hb; have hz := hb.size; (try simp at hz))
    | (go_at_call 68; with_reducible refine (l01In_any _ _ _ _).mono ?_; rintro e w1 ⟨rfl, hw⟩; obtain rfl := hw.symm))
  clear hc hf hz
  have hs1 := hb.size
  have hou0 := own_built0 (enc := WindowD.enc) w1 94 2
  have hb0 : Below w1.heap.size w1 (w1.alloc (.cells #[] 94)) := (Below.refl _ _).alloc (Nat.le_refl _) _
  go_loopw [5, 19] (fun o s wr => ∃ k : Nat, k ≤ xs.length ∧ s = .int .i64 k ∧ Hid (Own wr w1.heap.size 94 2 WindowD.enc o (shrinkL n (xs.take k))) ∧ Below w1.heap.size w1 wr) (fun _ s _ => xs.length - (intOf s).toNat)
  case atStart => exact ⟨0, Nat.zero_le _, rfl, hide hou0, hb0⟩
  case round =>
    clear hou0 hb0
    obtain ⟨k, hk, rfl, HO, hbk⟩ := hrel
    obtain ⟨wo, rfl⟩ : ∃ wo : World, wo = wr := ⟨_, rfl⟩
    have hbs := hbk.size
    have hbww := bnext hb hbk (Nat.le_refl _)
    by_cases hlt : k < xs.length
    · obtain ⟨b1, o1, rfl, hb1, hcell1⟩ := H1.out (by omega)
      have e0 : wo.cell? ⟨b1, o1 + k * 2, none⟩ = some (.int .i64 xs[k].start) := by
        rw [hbww.cell (p := ⟨b1, _, none⟩) hb1]; have := hcell1 k xs[k] (List.getElem?_eq_getElem hlt) 0 _ rfl; simpa using this
      have e1 : wo.cell? ⟨b1, o1 + k * 2 + 1, none⟩ = some (.int .i64 xs[k].fin) := by
        rw [hbww.cell (p := ⟨b1, _, none⟩) hb1]; have := hcell1 k xs[k] (List.getElem?_eq_getElem hlt) 1 _ rfl; simpa using this
      have hx := HW.out.1 k hlt
      have HT := hide (shrinkL_take (n := n) hlt)
      have hln : (shrinkL n (xs.take k)).length ≤ k := Nat.le_trans (shrinkL_len _ _) (by rw [List.length_take]; omega)
      obtain ⟨x, hxe⟩ : ∃ x, xs[k] = x := ⟨_, rfl⟩
      simp only [hxe] at e0 e1 hx HT
      clear hcell1 hxe
      obtain ⟨hx0, hx1, hx2⟩ := hx
      have hB0 : Below wo.heap.size wo (wo.alloc (.cells #[.int .i64 x.start, .int .i64 x.fin] 94)) := (Below.refl _ _).alloc (Nat.le_refl _) _
      by_cases hfit : n ≤ x.fin - x.start
      · have HT2 := hide (show shrinkL n (xs.take (k + 1)) = shrinkL n (xs.take k) ++ [⟨x.start, x.fin - n⟩] by rw [HT.out, if_pos hfit])
        obtain ⟨e9, he9⟩ : ∃ e9, x.fin - n = e9 := ⟨_, rfl⟩
        have he9w : IntKind.i64.wrap e9 = e9 := IntWalk.i64_in _ (by omega)
        have he9w2 : IntKind.i64.wrap (x.fin - n) = e9 := by rw [he9]; exact he9w
        rw [he9] at HT2
        obtain ⟨ys, hys⟩ : ∃ ys, shrinkL n (xs.take k) = ys := ⟨_, rfl⟩
        simp only [hys] at HO hln HT2
        clear hys HT
        obtain ⟨A3, c3, rfl, hc3, hm3, -⟩ := Own.rd WindowD.enc_len HO.out
        unfold maxLen at hm3
        go_wp2_with (at_builtin; refine wpList_append_rd _ WindowD.enc_len WindowD.one (by rfl) _ _ 46 (by rfl) w1.heap.size 94 i0 (.agg #[.int .i64 0, .int .i64 0]) 16 Try.underlying46 hi hz0 hz1 hz2 rfl (by decide) _ _ (by rfl) (HO.out.below ((hB0).alloc (by simp) _)) _ (.slice (some ⟨wo.heap.size + 1, 0, none⟩) 1 1) [(⟨x.start, e9⟩ : WindowD)] (by rfl) (rd_newAt (enc := WindowD.enc) _ ⟨x.start, e9⟩ _ (by simp)) (by unfold maxLen; simp <;> omega) (by simp <;> omega) (by simp <;> omega) ?_; intro r9 w9 hown9 hgrow9 hblk9)
        have hb9 := (hbk.trans (((hB0).alloc (by simp) _).mono hbs)).trans (Own.belowGrown (B := w1.heap.size) (HO.out.below ((hB0).alloc (by simp) _)) hgrow9 (Nat.le_refl _) (by simp; omega))
        go_roundw
        case rel => exact ⟨k + 1, by omega, by go_num, hide (by rw [HT2.out]; exact hown9), hb9⟩
        case measure => simp [intOf]; omega
      · have HT2 := hide (show shrinkL n (xs.take (k + 1)) = shrinkL n (xs.take k) by rw [HT.out, if_neg hfit, List.append_nil])
        go_wp2
        go_roundw
        case rel => exact ⟨k + 1, by omega, by go_num, hide (by rw [HT2.out]; exact HO.out.below hB0), bnext hbk hB0 (Nat.le_refl _)⟩
        case measure => simp [intOf]; omega
    · obtain rfl : k = xs.length := by omega
      have HT := hide (List.take_length (l := xs))
      go_wp2
      go_ret
      exact ⟨_, rfl, by have := HO.out; rw [HT.out] at this; exact this.mono hs1, hbww⟩
set_option maxRecDepth 100000 in
set_option maxHeartbeats 8000000 in
theorem impl_ShrinkWindows_any (v : Value) (xs : List WindowD) (n : Int) (w : World) (h1 : RdWindow w v xs) (hok : WinOk xs 2881) (hlen : xs.length ≤ 2881) (n0 : 0 ≤ n) (n1 : n ≤ 480) :
    Calls Try.prog 59 #[v, .int .i64 n] w fun e w' => ∃ v', e = .returned v' ∧ Own w' w.heap.size 94 2 WindowD.enc v' (shrinkL n xs) ∧ Below w.heap.size w w' := by
  have HR1 := hide h1
  obtain ⟨A1, c1, rfl, hc1, hm1, h1⟩ := h1
  unfold maxLen at hm1
  have H1 := hide h1; clear h1
  have HW := hide hok; clear hok
  have hin : inB n 0 2880 = true := by simp [inB]; omega
  obtain ⟨i0, hi, hz0, hz1, hz2⟩ := info_parts window_info
  go_enter Try.func59, Try.ntmps59
  go_wp2_with (first
    | (go_at_call 58; with_reducible refine (impl_WindowsOk_any _ xs _ ((RdB.keep HR1.out (B' := w.heap.size) (by repeat (first | exact Below.refl _ _ | assumption | refine Below.setCell ?_ (by first | omega | (simp <;> omega)) _ | refine Below.alloc ?_ (by first | omega | (simp <;> omega)) _ | refine below_drewN ?_ _ | refine Below.drew ?_ | refine Below.trans ?_ (Below.mono (by assumption) (by first | omega | (simp <;> omega))))) (Nat.le_refl _)).mono (by first | omega | (simp <;> omega))) HW.out).mono ?_; rintro e w1 ⟨rfl, hb'⟩; (first | have hb := bnext hb hb' | have hb := bnextA hb hb' | have hb := hb'); clear hb'; obtain ⟨hc, hf⟩ := bcell hb; have hz := hb.size; (try simp at hz))
    | (go_at_call 55; with_reducible refine (isMinute_any _ _).mono ?_; rintro e w1 ⟨rfl, hw⟩; obtain rfl := hw.symm))
  clear hc hf hz
  have hs1 := hb.size
  have hou0 := own_built0 (enc := WindowD.enc) w1 94 2
  have hb0 : Below w1.heap.size w1 (w1.alloc (.cells #[] 94)) := (Below.refl _ _).alloc (Nat.le_refl _) _
  go_loopw [5, 19] (fun o s wr => ∃ k : Nat, k ≤ xs.length ∧ s = .int .i64 k ∧ Hid (Own wr w1.heap.size 94 2 WindowD.enc o (shrinkL n (xs.take k))) ∧ Below w1.heap.size w1 wr) (fun _ s _ => xs.length - (intOf s).toNat)
  case atStart => exact ⟨0, Nat.zero_le _, rfl, hide hou0, hb0⟩
  case round =>
    clear hou0 hb0
    obtain ⟨k, hk, rfl, HO, hbk⟩ := hrel
    obtain ⟨wo, rfl⟩ : ∃ wo : World, wo = wr := ⟨_, rfl⟩
    have hbs := hbk.size
    have hbww := bnext hb hbk (Nat.le_refl _)
    by_cases hlt : k < xs.length
    · obtain ⟨b1, o1, rfl, hb1, hcell1⟩ := H1.out (by omega)
      have e0 : wo.cell? ⟨b1, o1 + k * 2, none⟩ = some (.int .i64 xs[k].start) := by
        rw [hbww.cell (p := ⟨b1, _, none⟩) hb1]; have := hcell1 k xs[k] (List.getElem?_eq_getElem hlt) 0 _ rfl; simpa using this
      have e1 : wo.cell? ⟨b1, o1 + k * 2 + 1, none⟩ = some (.int .i64 xs[k].fin) := by
        rw [hbww.cell (p := ⟨b1, _, none⟩) hb1]; have := hcell1 k xs[k] (List.getElem?_eq_getElem hlt) 1 _ rfl; simpa using this
      have hx := HW.out.1 k hlt
      have HT := hide (shrinkL_take (n := n) hlt)
      have hln : (shrinkL n (xs.take k)).length ≤ k := Nat.le_trans (shrinkL_len _ _) (by rw [List.length_take]; omega)
      obtain ⟨x, hxe⟩ : ∃ x, xs[k] = x := ⟨_, rfl⟩
      simp only [hxe] at e0 e1 hx HT
      clear hcell1 hxe
      obtain ⟨hx0, hx1, hx2⟩ := hx
      have hB0 : Below wo.heap.size wo (wo.alloc (.cells #[.int .i64 x.start, .int .i64 x.fin] 94)) := (Below.refl _ _).alloc (Nat.le_refl _) _
      by_cases hfit : n ≤ x.fin - x.start
      · have HT2 := hide (show shrinkL n (xs.take (k + 1)) = shrinkL n (xs.take k) ++ [⟨x.start, x.fin - n⟩] by rw [HT.out, if_pos hfit])
        obtain ⟨e9, he9⟩ : ∃ e9, x.fin - n = e9 := ⟨_, rfl⟩
        have he9w : IntKind.i64.wrap e9 = e9 := IntWalk.i64_in _ (by omega)
        have he9w2 : IntKind.i64.wrap (x.fin - n) = e9 := by rw [he9]; exact he9w
        rw [he9] at HT2
        obtain ⟨ys, hys⟩ : ∃ ys, shrinkL n (xs.take k) = ys := ⟨_, rfl⟩
        simp only [hys] at HO hln HT2
        clear hys HT
        obtain ⟨A3, c3, rfl, hc3, hm3, -⟩ := Own.rd WindowD.enc_len HO.out
        unfold maxLen at hm3
        go_wp2_with (at_builtin; refine wpList_append_rd _ WindowD.enc_len WindowD.one (by rfl) _ _ 46 (by rfl) w1.heap.size 94 i0 (.agg #[.int .i64 0, .int .i64 0]) 16 Try.underlying46 hi hz0 hz1 hz2 rfl (by decide) _ _ (by rfl) (HO.out.below ((hB0).alloc (by simp) _)) _ (.slice (some ⟨wo.heap.size + 1, 0, none⟩) 1 1) [(⟨x.start, e9⟩ : WindowD)] (by rfl) (rd_newAt (enc := WindowD.enc) _ ⟨x.start, e9⟩ _ (by simp)) (by unfold maxLen; simp <;> omega) (by simp <;> omega) (by simp <;> omega) ?_; intro r9 w9 hown9 hgrow9 hblk9)
        have hb9 := (hbk.trans (((hB0).alloc (by simp) _).mono hbs)).trans (Own.belowGrown (B := w1.heap.size) (HO.out.below ((hB0).alloc (by simp) _)) hgrow9 (Nat.le_refl _) (by simp; omega))
        go_roundw
        case rel => exact ⟨k + 1, by omega, by go_num, hide (by rw [HT2.out]; exact hown9), hb9⟩
        case measure => simp [intOf]; omega
      · have HT2 := hide (show shrinkL n (xs.take (k + 1)) = shrinkL n (xs.take k) by rw [HT.out, if_neg hfit, List.append_nil])
        go_wp2
        go_roundw
        case rel => exact ⟨k + 1, by omega, by go_num, hide (by rw [HT2.out]; exact HO.out.below hB0), bnext hbk hB0 (Nat.le_refl _)⟩
        case measure => simp [intOf]; omega
    · obtain rfl : k = xs.length := by omega
      have HT := hide (List.take_length (l := xs))
      go_wp2
      go_ret
      exact ⟨_, rfl, by have := HO.out; rw [HT.out] at this; exact this.mono hs1, hbww⟩
set_option maxRecDepth 100000 in
set_option maxHeartbeats 8000000 in
theorem spec_HasMinute_any (v : Value) (xs : List WindowD) (m : Int) (w : World) (h1 : RdWindow w v xs) :
    Calls Try.prog 80 #[v, .int .i64 m] w fun e w' => e = .returned (.bool (hasMin xs m)) ∧ Below w.heap.size w w' := by
  obtain ⟨A1, c1, rfl, hc1, hm1, h1⟩ := h1
  unfold maxLen at hm1
  have H1 := hide h1; clear h1
  go_enter Try.func80, Try.ntmps80
  go_wp2
  go_loopw [9] (fun s wr => ∃ k : Nat, k ≤ xs.length ∧ s = .int .i64 k ∧ Hid ((xs.drop k).any (fun x => inB m x.start x.fin) = hasMin xs m) ∧ Below w.heap.size w wr) (fun s _ => xs.length - (intOf s).toNat)
  case atStart => exact ⟨0, Nat.zero_le _, rfl, hide rfl, Below.refl _ _⟩
  case round =>
    obtain ⟨k, hk, rfl, HN, hbk⟩ := hrel
    obtain ⟨wo, rfl⟩ : ∃ wo : World, wo = wr := ⟨_, rfl⟩
    have hbs := hbk.size
    by_cases hlt : k < xs.length
    · obtain ⟨b1, o1, rfl, hb1, hcell1⟩ := H1.out (by omega)
      have e0 : wo.cell? ⟨b1, o1 + k * 2, none⟩ = some (.int .i64 xs[k].start) := by
        rw [hbk.cell (p := ⟨b1, _, none⟩) hb1]; have := hcell1 k xs[k] (List.getElem?_eq_getElem hlt) 0 _ rfl; simpa using this
      have e1 : wo.cell? ⟨b1, o1 + k * 2 + 1, none⟩ = some (.int .i64 xs[k].fin) := by
        rw [hbk.cell (p := ⟨b1, _, none⟩) hb1]; have := hcell1 k xs[k] (List.getElem?_eq_getElem hlt) 1 _ rfl; simpa using this
      have HT := hide (any_step (p := fun x : WindowD => inB m x.start x.fin) hlt)
      obtain ⟨x, hxe⟩ : ∃ x, xs[k] = x := ⟨_, rfl⟩
      simp only [hxe] at e0 e1 HT
      clear hcell1 hxe
      have hB0 : Below wo.heap.size wo (wo.alloc (.cells #[.int .i64 x.start, .int .i64 x.fin] 94)) := (Below.refl _ _).alloc (Nat.le_refl _) _
      rcases ch1 (inB m x.start x.fin) with g | g
      · have HE := hide (show hasMin xs m = true by rw [← HN.out, HT.out, g]; rfl)
        go_wp2_with (go_at_call 68; with_reducible refine (l01In_any _ _ _ _).mono ?_; rintro e w1 ⟨rfl, hw⟩; obtain rfl := hw.symm)
        go_ret
        exact ⟨by rw [HE.out]; first | done | rfl, bnext hbk hB0 (Nat.le_refl _)⟩
      · have HE := hide (show (xs.drop (k + 1)).any (fun x => inB m x.start x.fin) = hasMin xs m by rw [← HN.out, HT.out, g]; rfl)
        go_wp2_with (go_at_call 68; with_reducible refine (l01In_any _ _ _ _).mono ?_; rintro e w1 ⟨rfl, hw⟩; obtain rfl := hw.symm)
        go_roundw
        case rel => exact ⟨k + 1, by omega, by go_num, HE, bnext hbk hB0 (Nat.le_refl _)⟩
        case measure => simp [intOf]; omega
    · obtain rfl : k = xs.length := by omega
      have HE := hide (show hasMin xs m = false by rw [← HN.out, List.drop_length]; rfl)
      go_wp2
      go_ret
      exact ⟨by rw [HE.out]; first | done | rfl, hbk⟩
set_option maxRecDepth 100000 in
set_option maxHeartbeats 8000000 in
theorem impl_HasMinute_any (v : Value) (xs : List WindowD) (m : Int) (w : World) (h1 : RdWindow w v xs) :
    Calls Try.prog 57 #[v, .int .i64 m] w fun e w' => e = .returned (.bool (hasMin xs m)) ∧ Below w.heap.size w w' := by
  obtain ⟨A1, c1, rfl, hc1, hm1, h1⟩ := h1
  unfold maxLen at hm1
  have H1 := hide h1; clear h1
  go_enter Try.func57, Try.ntmps57
  go_wp2
  go_loopw [9] (fun s wr => ∃ k : Nat, k ≤ xs.length ∧ s = .int .i64 k ∧ Hid ((xs.drop k).any (fun x => inB m x.start x.fin) = hasMin xs m) ∧ Below w.heap.size w wr) (fun s _ => xs.length - (intOf s).toNat)
  case atStart => exact ⟨0, Nat.zero_le _, rfl, hide rfl, Below.refl _ _⟩
  case round =>
    obtain ⟨k, hk, rfl, HN, hbk⟩ := hrel
    obtain ⟨wo, rfl⟩ : ∃ wo : World, wo = wr := ⟨_, rfl⟩
    have hbs := hbk.size
    by_cases hlt : k < xs.length
    · obtain ⟨b1, o1, rfl, hb1, hcell1⟩ := H1.out (by omega)
      have e0 : wo.cell? ⟨b1, o1 + k * 2, none⟩ = some (.int .i64 xs[k].start) := by
        rw [hbk.cell (p := ⟨b1, _, none⟩) hb1]; have := hcell1 k xs[k] (List.getElem?_eq_getElem hlt) 0 _ rfl; simpa using this
      have e1 : wo.cell? ⟨b1, o1 + k * 2 + 1, none⟩ = some (.int .i64 xs[k].fin) := by
        rw [hbk.cell (p := ⟨b1, _, none⟩) hb1]; have := hcell1 k xs[k] (List.getElem?_eq_getElem hlt) 1 _ rfl; simpa using this
      have HT := hide (any_step (p := fun x : WindowD => inB m x.start x.fin) hlt)
      obtain ⟨x, hxe⟩ : ∃ x, xs[k] = x := ⟨_, rfl⟩
      simp only [hxe] at e0 e1 HT
      clear hcell1 hxe
      have hB0 : Below wo.heap.size wo (wo.alloc (.cells #[.int .i64 x.start, .int .i64 x.fin] 94)) := (Below.refl _ _).alloc (Nat.le_refl _) _
      rcases ch1 (inB m x.start x.fin) with g | g
      · have HE := hide (show hasMin xs m = true by rw [← HN.out, HT.out, g]; rfl)
        go_wp2_with (go_at_call 94; with_reducible refine (within_any _ _ _ _).mono ?_; rintro e w1 ⟨rfl, hw⟩; obtain rfl := hw.symm)
        go_ret
        exact ⟨by rw [HE.out]; first | done | rfl, bnext hbk hB0 (Nat.le_refl _)⟩
      · have HE := hide (show (xs.drop (k + 1)).any (fun x => inB m x.start x.fin) = hasMin xs m by rw [← HN.out, HT.out, g]; rfl)
        go_wp2_with (go_at_call 94; with_reducible refine (within_any _ _ _ _).mono ?_; rintro e w1 ⟨rfl, hw⟩; obtain rfl := hw.symm)
        go_roundw
        case rel => exact ⟨k + 1, by omega, by go_num, HE, bnext hbk hB0 (Nat.le_refl _)⟩
        case measure => simp [intOf]; omega
    · obtain rfl : k = xs.length := by omega
      have HE := hide (show hasMin xs m = false by rw [← HN.out, List.drop_length]; rfl)
      go_wp2
      go_ret
      exact ⟨by rw [HE.out]; first | done | rfl, hbk⟩
end Go.Proofs.Ytpbcbdjjpkenjaa
