/- Tides: whether they are valid, and their levels: both texts. No condition. -/
import Derived.Test.YtpbcbdjjpkenjaaTide
namespace Go.Proofs.Ytpbcbdjjpkenjaa
open Go.RowKit
set_option linter.unusedVariables false
set_option maxRecDepth 100000 in
set_option maxHeartbeats 8000000 in
theorem spec_TideOk_any (m : Int) (v : Value) (xs : List PartD) (w : World) (h1 : RdPart w v xs) :
    Calls Try.prog 106 #[.agg #[.int .i64 m, v]] w fun e w' => e = .returned (.bool (tideOk m xs)) ∧ Below w.heap.size w w' := by
  obtain ⟨A1, c1, rfl, hc1, hm1, h1⟩ := h1
  unfold maxLen at hm1
  rcases ch2 (inB m (-1000) 1000) (decide ((xs.length : Int) ≤ 4)) with ⟨g1, g2⟩ | g1 | ⟨g1, g2⟩
  · have h8 : (xs.length : Int) ≤ 4 := by simpa using g2
    have HV := hide (show tideOk m xs = xs.all partOk by unfold tideOk; rw [g1]; simp; omega)
    clear g2
    go_enter Try.func106, Try.ntmps106
    go_wp2_with (go_at_call 68; with_reducible refine (l01In_any _ _ _ _).mono ?_; rintro e w1 ⟨rfl, hw⟩; obtain rfl := hw.symm)
    clear g1
    have H8 := hide h8
    go_loopw [18] (fun i wr => ∃ k : Nat, k ≤ xs.length ∧ i = .int .i64 k ∧ Hid ((xs.drop k).all partOk = xs.all partOk) ∧ Below w.heap.size w wr) (fun i _ => xs.length - (intOf i).toNat)
    case atStart => exact ⟨0, Nat.zero_le _, rfl, hide rfl, (by repeat (first | exact Below.refl _ _ | assumption | refine Below.setCell ?_ (by first | omega | (simp <;> omega)) _ | refine Below.alloc ?_ (by first | omega | (simp <;> omega)) _ | refine below_drewN ?_ _ | refine Below.drew ?_ | refine Below.trans ?_ (Below.mono (by assumption) (by first | omega | (simp <;> omega)))))⟩
    case round =>
      obtain ⟨k, hk, rfl, HN, hb⟩ := hrel
      have hbs := hb.size
      by_cases hlt : k < xs.length
      · obtain ⟨b1, o1, rfl, hb1, hcell1⟩ := h1 (by omega)
        have e0 : wr.cell? ⟨b1, o1 + k * 3, none⟩ = some (.int .i64 xs[k].amp) := by
          rw [hb.cell (p := ⟨b1, _, none⟩) hb1]; have := hcell1 k xs[k] (List.getElem?_eq_getElem hlt) 0 _ rfl; simpa using this
        have e1 : wr.cell? ⟨b1, o1 + k * 3 + 1, none⟩ = some (.int .i64 xs[k].period) := by
          rw [hb.cell (p := ⟨b1, _, none⟩) hb1]; have := hcell1 k xs[k] (List.getElem?_eq_getElem hlt) 1 _ rfl; simpa using this
        have e2 : wr.cell? ⟨b1, o1 + k * 3 + 2, none⟩ = some (.int .i64 xs[k].phase) := by
          rw [hb.cell (p := ⟨b1, _, none⟩) hb1]; have := hcell1 k xs[k] (List.getElem?_eq_getElem hlt) 2 _ rfl; simpa using this
        clear hcell1 h1
        rcases ch1 (partOk xs[k]) with g | g
        · have HG := hide g
          go_wp2_with (go_at_call 129; with_reducible refine (spec_PartOk_any _ _ _ _).mono ?_; rintro e w1 ⟨rfl, hb'⟩; (first | have hb := bnext hb hb' | have hb := bnextA hb hb' | have hb := hb'); clear hb'; obtain ⟨hc, hf⟩ := bcell hb; have hz := hb.size; (try simp at hz))
          go_roundw
          case rel => exact ⟨k + 1, by omega, by go_num, hide (all_step HN.out hlt HG.out), (by repeat (first | exact Below.refl _ _ | assumption | refine Below.setCell ?_ (by first | omega | (simp <;> omega)) _ | refine Below.alloc ?_ (by first | omega | (simp <;> omega)) _ | refine below_drewN ?_ _ | refine Below.drew ?_ | refine Below.trans ?_ (Below.mono (by assumption) (by first | omega | (simp <;> omega)))))⟩
          case measure => simp [intOf]; omega
        · have HG := hide g
          go_wp2_with (go_at_call 129; with_reducible refine (spec_PartOk_any _ _ _ _).mono ?_; rintro e w1 ⟨rfl, hb'⟩; (first | have hb := bnext hb hb' | have hb := bnextA hb hb' | have hb := hb'); clear hb'; obtain ⟨hc, hf⟩ := bcell hb; have hz := hb.size; (try simp at hz))
          go_ret
          exact ⟨by rw [HV.out, all_bad hlt HG.out]; first | done | rfl, (by repeat (first | exact Below.refl _ _ | assumption | refine Below.setCell ?_ (by first | omega | (simp <;> omega)) _ | refine Below.alloc ?_ (by first | omega | (simp <;> omega)) _ | refine below_drewN ?_ _ | refine Below.drew ?_ | refine Below.trans ?_ (Below.mono (by assumption) (by first | omega | (simp <;> omega)))))⟩
      · obtain rfl : k = xs.length := by omega
        go_wp2
        go_ret
        exact ⟨by rw [HV.out, all_end HN.out]; first | done | rfl, hb⟩
  · have HV := hide (show tideOk m xs = false by unfold tideOk; rw [g1]; rfl)
    go_enter Try.func106, Try.ntmps106
    go_wp2_with (go_at_call 68; with_reducible refine (l01In_any _ _ _ _).mono ?_; rintro e w1 ⟨rfl, hw⟩; obtain rfl := hw.symm)
    go_ret
    exact ⟨by rw [HV.out]; first | done | rfl, (by repeat (first | exact Below.refl _ _ | assumption | refine Below.setCell ?_ (by first | omega | (simp <;> omega)) _ | refine Below.alloc ?_ (by first | omega | (simp <;> omega)) _ | refine below_drewN ?_ _ | refine Below.drew ?_ | refine Below.trans ?_ (Below.mono (by assumption) (by first | omega | (simp <;> omega)))))⟩
  · have HV := hide (show tideOk m xs = false by unfold tideOk; rw [g1]; simp at g2 ⊢; intro h; omega)
    have h8 : 4 < (xs.length : Int) := by simp at g2; omega
    go_enter Try.func106, Try.ntmps106
    go_wp2_with (go_at_call 68; with_reducible refine (l01In_any _ _ _ _).mono ?_; rintro e w1 ⟨rfl, hw⟩; obtain rfl := hw.symm)
    go_ret
    exact ⟨by rw [HV.out]; first | done | rfl, (by repeat (first | exact Below.refl _ _ | assumption | refine Below.setCell ?_ (by first | omega | (simp <;> omega)) _ | refine Below.alloc ?_ (by first | omega | (simp <;> omega)) _ | refine below_drewN ?_ _ | refine Below.drew ?_ | refine Below.trans ?_ (Below.mono (by assumption) (by first | omega | (simp <;> omega)))))⟩
set_option maxRecDepth 100000 in
set_option maxHeartbeats 8000000 in
theorem impl_TideOk_any (m : Int) (v : Value) (xs : List PartD) (w : World) (h1 : RdPart w v xs) :
    Calls Try.prog 96 #[.agg #[.int .i64 m, v]] w fun e w' => e = .returned (.bool (tideOk m xs)) ∧ Below w.heap.size w w' := by
  obtain ⟨A1, c1, rfl, hc1, hm1, h1⟩ := h1
  unfold maxLen at hm1
  rcases ch2 (inB m (-1000) 1000) (decide ((xs.length : Int) ≤ 4)) with ⟨g1, g2⟩ | g1 | ⟨g1, g2⟩
  · have h8 : (xs.length : Int) ≤ 4 := by simpa using g2
    have HV := hide (show tideOk m xs = xs.all partOk by unfold tideOk; rw [g1]; simp; omega)
    clear g2
    go_enter Try.func96, Try.ntmps96
    go_wp2_with (go_at_call 94; with_reducible refine (within_any _ _ _ _).mono ?_; rintro e w1 ⟨rfl, hw⟩; obtain rfl := hw.symm)
    clear g1
    have H8 := hide h8
    go_loopw [18] (fun i wr => ∃ k : Nat, k ≤ xs.length ∧ i = .int .i64 k ∧ Hid ((xs.drop k).all partOk = xs.all partOk) ∧ Below w.heap.size w wr) (fun i _ => xs.length - (intOf i).toNat)
    case atStart => exact ⟨0, Nat.zero_le _, rfl, hide rfl, (by repeat (first | exact Below.refl _ _ | assumption | refine Below.setCell ?_ (by first | omega | (simp <;> omega)) _ | refine Below.alloc ?_ (by first | omega | (simp <;> omega)) _ | refine below_drewN ?_ _ | refine Below.drew ?_ | refine Below.trans ?_ (Below.mono (by assumption) (by first | omega | (simp <;> omega)))))⟩
    case round =>
      obtain ⟨k, hk, rfl, HN, hb⟩ := hrel
      have hbs := hb.size
      by_cases hlt : k < xs.length
      · obtain ⟨b1, o1, rfl, hb1, hcell1⟩ := h1 (by omega)
        have e0 : wr.cell? ⟨b1, o1 + k * 3, none⟩ = some (.int .i64 xs[k].amp) := by
          rw [hb.cell (p := ⟨b1, _, none⟩) hb1]; have := hcell1 k xs[k] (List.getElem?_eq_getElem hlt) 0 _ rfl; simpa using this
        have e1 : wr.cell? ⟨b1, o1 + k * 3 + 1, none⟩ = some (.int .i64 xs[k].period) := by
          rw [hb.cell (p := ⟨b1, _, none⟩) hb1]; have := hcell1 k xs[k] (List.getElem?_eq_getElem hlt) 1 _ rfl; simpa using this
        have e2 : wr.cell? ⟨b1, o1 + k * 3 + 2, none⟩ = some (.int .i64 xs[k].phase) := by
          rw [hb.cell (p := ⟨b1, _, none⟩) hb1]; have := hcell1 k xs[k] (List.getElem?_eq_getElem hlt) 2 _ rfl; simpa using this
        clear hcell1 h1
        rcases ch1 (partOk xs[k]) with g | g
        · have HG := hide g
          go_wp2_with (go_at_call 127; with_reducible refine (impl_PartOk_any _ _ _ _).mono ?_; rintro e w1 ⟨rfl, hb'⟩; (first | have hb := bnext hb hb' | have hb := bnextA hb hb' | have hb := hb'); clear hb'; obtain ⟨hc, hf⟩ := bcell hb; have hz := hb.size; (try simp at hz))
          go_roundw
          case rel => exact ⟨k + 1, by omega, by go_num, hide (all_step HN.out hlt HG.out), (by repeat (first | exact Below.refl _ _ | assumption | refine Below.setCell ?_ (by first | omega | (simp <;> omega)) _ | refine Below.alloc ?_ (by first | omega | (simp <;> omega)) _ | refine below_drewN ?_ _ | refine Below.drew ?_ | refine Below.trans ?_ (Below.mono (by assumption) (by first | omega | (simp <;> omega)))))⟩
          case measure => simp [intOf]; omega
        · have HG := hide g
          go_wp2_with (go_at_call 127; with_reducible refine (impl_PartOk_any _ _ _ _).mono ?_; rintro e w1 ⟨rfl, hb'⟩; (first | have hb := bnext hb hb' | have hb := bnextA hb hb' | have hb := hb'); clear hb'; obtain ⟨hc, hf⟩ := bcell hb; have hz := hb.size; (try simp at hz))
          go_ret
          exact ⟨by rw [HV.out, all_bad hlt HG.out]; first | done | rfl, (by repeat (first | exact Below.refl _ _ | assumption | refine Below.setCell ?_ (by first | omega | (simp <;> omega)) _ | refine Below.alloc ?_ (by first | omega | (simp <;> omega)) _ | refine below_drewN ?_ _ | refine Below.drew ?_ | refine Below.trans ?_ (Below.mono (by assumption) (by first | omega | (simp <;> omega)))))⟩
      · obtain rfl : k = xs.length := by omega
        go_wp2
        go_ret
        exact ⟨by rw [HV.out, all_end HN.out]; first | done | rfl, hb⟩
  · have HV := hide (show tideOk m xs = false by unfold tideOk; rw [g1]; rfl)
    go_enter Try.func96, Try.ntmps96
    go_wp2_with (go_at_call 94; with_reducible refine (within_any _ _ _ _).mono ?_; rintro e w1 ⟨rfl, hw⟩; obtain rfl := hw.symm)
    go_ret
    exact ⟨by rw [HV.out]; first | done | rfl, (by repeat (first | exact Below.refl _ _ | assumption | refine Below.setCell ?_ (by first | omega | (simp <;> omega)) _ | refine Below.alloc ?_ (by first | omega | (simp <;> omega)) _ | refine below_drewN ?_ _ | refine Below.drew ?_ | refine Below.trans ?_ (Below.mono (by assumption) (by first | omega | (simp <;> omega)))))⟩
  · have HV := hide (show tideOk m xs = false by unfold tideOk; rw [g1]; simp at g2 ⊢; intro h; omega)
    have h8 : 4 < (xs.length : Int) := by simp at g2; omega
    go_enter Try.func96, Try.ntmps96
    go_wp2_with (go_at_call 94; with_reducible refine (within_any _ _ _ _).mono ?_; rintro e w1 ⟨rfl, hw⟩; obtain rfl := hw.symm)
    go_ret
    exact ⟨by rw [HV.out]; first | done | rfl, (by repeat (first | exact Below.refl _ _ | assumption | refine Below.setCell ?_ (by first | omega | (simp <;> omega)) _ | refine Below.alloc ?_ (by first | omega | (simp <;> omega)) _ | refine below_drewN ?_ _ | refine Below.drew ?_ | refine Below.trans ?_ (Below.mono (by assumption) (by first | omega | (simp <;> omega)))))⟩
end Go.Proofs.Ytpbcbdjjpkenjaa
