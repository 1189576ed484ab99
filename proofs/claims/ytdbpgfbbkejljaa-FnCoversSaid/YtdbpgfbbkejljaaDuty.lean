/- Duties: whether they are valid, the gap between two, whether one can follow another. No condition. -/
import Derived.Test.YtdbpgfbbkejljaaSDuty
import Derived.Test.YtdbpgfbbkejljaaSeq
import Derived.Test.YtdbpgfbbkejljaaInts
import Derived.Test.YtdbpgfbbkejljaaScal
import Derived.BigGuardPart
import Derived.Outline
namespace Go.Proofs.Ytdbpgfbbkejljaa
open Go.RowKit
set_option linter.unusedVariables false

def dutyOk (d : DutyD) : Bool := inB d.start 0 2880 && decide (d.start < d.fin) && decide (d.fin ≤ 2880) && inB d.a 0 7 && inB d.b 0 7
def dutiesOk (xs : List DutyD) : Bool := decide (xs.length ≤ 12) && xs.all dutyOk
def moveOk (n : Int) : Bool := inB n 0 240
def movesOk (ms : List Int) : Bool := decide (ms.length = 64) && ms.all moveOk
def gapOk (pause : Int) (ms : List Int) (b a : Int) : Bool := inB pause 0 2880 && movesOk ms && inB b 0 7 && inB a 0 7
def gapOf (pause : Int) (ms : List Int) (b a : Int) : Int := if gapOk pause ms b a = true then pause + ms.getD (b * 8 + a).toNat 0 else 0
def canFollow (pause : Int) (ms : List Int) (d e : DutyD) : Bool := gapOk pause ms d.b e.a && dutyOk d && dutyOk e && decide (d.fin + gapOf pause ms d.b e.a ≤ e.start)

set_option maxHeartbeats 1000000 in
theorem l13Duty_any (x0 x1 x2 x3 : Int) (w : World) :
    Calls Try.prog 33 #[.agg #[.int .i64 x0, .int .i64 x1, .int .i64 x2, .int .i64 x3]] w fun e w' => e = .returned (.bool (dutyOk ⟨x0, x1, x2, x3⟩)) ∧ Below w.heap.size w w' := by
  go_enter Try.func33, Try.ntmps33
  go_wp2_with (go_at_call 37; refine (l01In_any _ _ _ _).mono ?_; rintro e w1 ⟨rfl, hw⟩; obtain rfl := hw.symm)
  all_goals go_ret
  all_goals exact ⟨by simp_all [dutyOk] <;> omega, (by repeat (first | exact Below.refl _ _ | assumption | refine Below.setCell ?_ (by first | omega | (simp <;> omega)) _ | refine Below.alloc ?_ (by first | omega | (simp <;> omega)) _ | refine below_drewN ?_ _ | refine Below.drew ?_ | refine Below.trans ?_ (Below.mono (by assumption) (by first | omega | (simp <;> omega)))))⟩
set_option maxHeartbeats 2000000 in
theorem spec_DutiesOk_any (v : Value) (xs : List DutyD) (w : World) (h1 : RdDuty w v xs) :
    Calls Try.prog 11 #[v] w fun e w' => e = .returned (.bool (dutiesOk xs)) ∧ Below w.heap.size w w' := by
  obtain ⟨A1, c1, rfl, hc1, hm1, h1⟩ := h1
  unfold maxLen at hm1
  by_cases h8 : xs.length ≤ 12
  · go_enter Try.func11, Try.ntmps11
    go_wp2
    have H8 := hide h8
    go_loopw [10] (fun i wr => ∃ k : Nat, k ≤ xs.length ∧ i = .int .i64 k ∧ Hid ((xs.drop k).all dutyOk = xs.all dutyOk) ∧ Below w.heap.size w wr) (fun i _ => xs.length - (intOf i).toNat)
    case atStart => exact ⟨0, Nat.zero_le _, rfl, hide rfl, Below.refl _ _⟩
    case round =>
      obtain ⟨k, hk, rfl, HN, hb⟩ := hrel
      have hbs := hb.size
      by_cases hlt : k < xs.length
      · obtain ⟨b1, o1, rfl, hb1, hcell1⟩ := h1 (by omega)
        have e0 : wr.cell? ⟨b1, o1 + k * 4, none⟩ = some (.int .i64 xs[k].start) := by
          rw [hb.cell (p := ⟨b1, _, none⟩) hb1]; have := hcell1 k xs[k] (List.getElem?_eq_getElem hlt) 0 _ rfl; simpa using this
        have e1 : wr.cell? ⟨b1, o1 + k * 4 + 1, none⟩ = some (.int .i64 xs[k].fin) := by
          rw [hb.cell (p := ⟨b1, _, none⟩) hb1]; have := hcell1 k xs[k] (List.getElem?_eq_getElem hlt) 1 _ rfl; simpa using this
        have e2 : wr.cell? ⟨b1, o1 + k * 4 + 2, none⟩ = some (.int .i64 xs[k].a) := by
          rw [hb.cell (p := ⟨b1, _, none⟩) hb1]; have := hcell1 k xs[k] (List.getElem?_eq_getElem hlt) 2 _ rfl; simpa using this
        have e3 : wr.cell? ⟨b1, o1 + k * 4 + 3, none⟩ = some (.int .i64 xs[k].b) := by
          rw [hb.cell (p := ⟨b1, _, none⟩) hb1]; have := hcell1 k xs[k] (List.getElem?_eq_getElem hlt) 3 _ rfl; simpa using this
        clear hcell1 h1
        go_wp2_with (go_at_call 33; refine (l13Duty_any _ _ _ _ _).mono ?_; rintro e w1 ⟨rfl, hb'⟩; (first | have hb := bnext hb hb' | have hb := bnextA hb hb' | have hb := hb'); clear hb'; obtain ⟨hc, hf⟩ := bcell hb; have hz := hb.size; (try simp at hz))
        · have hbad : dutyOk xs[k] = false := by simpa using (show (!dutyOk xs[k]) = true by assumption)
          go_ret
          exact ⟨by simp [dutiesOk, all_bad hlt hbad], (by repeat (first | exact Below.refl _ _ | assumption | refine Below.setCell ?_ (by first | omega | (simp <;> omega)) _ | refine Below.alloc ?_ (by first | omega | (simp <;> omega)) _ | refine below_drewN ?_ _ | refine Below.drew ?_ | refine Below.trans ?_ (Below.mono (by assumption) (by first | omega | (simp <;> omega)))))⟩
        · have hgood : dutyOk xs[k] = true := by simpa using (show (!dutyOk xs[k]) = false by assumption)
          have HG := hide hgood; clear hgood
          go_roundw
          case rel => exact ⟨k + 1, by omega, by go_num, hide (all_step HN.out hlt HG.out), (by repeat (first | exact Below.refl _ _ | assumption | refine Below.setCell ?_ (by first | omega | (simp <;> omega)) _ | refine Below.alloc ?_ (by first | omega | (simp <;> omega)) _ | refine below_drewN ?_ _ | refine Below.drew ?_ | refine Below.trans ?_ (Below.mono (by assumption) (by first | omega | (simp <;> omega)))))⟩
          case measure => simp [intOf]; omega
      · obtain rfl : k = xs.length := by omega
        go_wp2
        go_ret
        exact ⟨by simp [dutiesOk, H8.out, all_end HN.out], hb⟩
  · go_enter Try.func11, Try.ntmps11
    go_wp2
    go_ret
    exact ⟨by simp [dutiesOk, h8], Below.refl _ _⟩
set_option maxHeartbeats 4000000 in
theorem impl_DutiesOk_any (v : Value) (xs : List DutyD) (w : World) (h1 : RdDuty w v xs) :
    Calls Try.prog 13 #[v] w fun e w' => e = .returned (.bool (dutiesOk xs)) ∧ Below w.heap.size w w' := by
  obtain ⟨A1, c1, rfl, hc1, hm1, h1⟩ := h1
  unfold maxLen at hm1
  by_cases h8 : xs.length ≤ 12
  · go_enter Try.func13, Try.ntmps13
    go_wp2
    have H8 := hide h8
    go_loopw [10] (fun i wr => ∃ k : Nat, k ≤ xs.length ∧ i = .int .i64 k ∧ Hid ((xs.drop k).all dutyOk = xs.all dutyOk) ∧ Below w.heap.size w wr) (fun i _ => xs.length - (intOf i).toNat)
    case atStart => exact ⟨0, Nat.zero_le _, rfl, hide rfl, Below.refl _ _⟩
    case round =>
      obtain ⟨k, hk, rfl, HN, hb⟩ := hrel
      have hbs := hb.size
      by_cases hlt : k < xs.length
      · obtain ⟨b1, o1, rfl, hb1, hcell1⟩ := h1 (by omega)
        have e0 : wr.cell? ⟨b1, o1 + k * 4, none⟩ = some (.int .i64 xs[k].start) := by
          rw [hb.cell (p := ⟨b1, _, none⟩) hb1]; have := hcell1 k xs[k] (List.getElem?_eq_getElem hlt) 0 _ rfl; simpa using this
        have e1 : wr.cell? ⟨b1, o1 + k * 4 + 1, none⟩ = some (.int .i64 xs[k].fin) := by
          rw [hb.cell (p := ⟨b1, _, none⟩) hb1]; have := hcell1 k xs[k] (List.getElem?_eq_getElem hlt) 1 _ rfl; simpa using this
        have e2 : wr.cell? ⟨b1, o1 + k * 4 + 2, none⟩ = some (.int .i64 xs[k].a) := by
          rw [hb.cell (p := ⟨b1, _, none⟩) hb1]; have := hcell1 k xs[k] (List.getElem?_eq_getElem hlt) 2 _ rfl; simpa using this
        have e3 : wr.cell? ⟨b1, o1 + k * 4 + 3, none⟩ = some (.int .i64 xs[k].b) := by
          rw [hb.cell (p := ⟨b1, _, none⟩) hb1]; have := hcell1 k xs[k] (List.getElem?_eq_getElem hlt) 3 _ rfl; simpa using this
        clear hcell1 h1
        go_wp2_with (go_at_call 34; refine (isIndexB _ _ 7 _ (by omega)).mono ?_; rintro e w1 ⟨rfl, hw⟩; obtain rfl := hw.symm)
        all_goals first
          | (have hbad : dutyOk xs[k] = false := by (unfold dutyOk; (simp only [inB, Bool.not_eq_true', Bool.not_eq_false', Bool.and_eq_true, Bool.or_eq_true, Bool.and_eq_false_iff, Bool.or_eq_false_iff, decide_eq_true_eq, decide_eq_false_iff_not] at *; omega))
             go_ret
             exact ⟨by simp [dutiesOk, all_bad hlt hbad], (by repeat (first | exact Below.refl _ _ | assumption | refine Below.setCell ?_ (by first | omega | (simp <;> omega)) _ | refine Below.alloc ?_ (by first | omega | (simp <;> omega)) _ | refine below_drewN ?_ _ | refine Below.drew ?_ | refine Below.trans ?_ (Below.mono (by assumption) (by first | omega | (simp <;> omega)))))⟩)
          | (have hgood : dutyOk xs[k] = true := by (unfold dutyOk; (simp only [inB, Bool.not_eq_true', Bool.not_eq_false', Bool.and_eq_true, Bool.or_eq_true, Bool.and_eq_false_iff, Bool.or_eq_false_iff, decide_eq_true_eq, decide_eq_false_iff_not] at *; omega))
             have HG := hide hgood; clear hgood
             go_roundw
             case rel => exact ⟨k + 1, by omega, by go_num, hide (all_step HN.out hlt HG.out), (by repeat (first | exact Below.refl _ _ | assumption | refine Below.setCell ?_ (by first | omega | (simp <;> omega)) _ | refine Below.alloc ?_ (by first | omega | (simp <;> omega)) _ | refine below_drewN ?_ _ | refine Below.drew ?_ | refine Below.trans ?_ (Below.mono (by assumption) (by first | omega | (simp <;> omega)))))⟩
             case measure => simp [intOf]; omega)
          | (trace_state; sorry)
      · obtain rfl : k = xs.length := by omega
        go_wp2
        go_ret
        exact ⟨by simp [dutiesOk, H8.out, all_end HN.out], hb⟩
  · go_enter Try.func13, Try.ntmps13
    go_wp2
    go_ret
    exact ⟨by simp [dutiesOk, h8], Below.refl _ _⟩
set_option maxHeartbeats 2000000 in
theorem movesOk_any (v : Value) (xs : List Int) (w : World) (h1 : RdI w v xs) :
    Calls Try.prog 39 #[v] w fun e w' => e = .returned (.bool (movesOk xs)) ∧ Below w.heap.size w w' := by
  obtain ⟨A1, c1, rfl, hc1, hm1, h1⟩ := h1
  unfold maxLen at hm1
  by_cases h8 : xs.length = 64
  · have H8 := hide h8
    have h8' : ((xs.length : Int) != 64) = false := by simp [h8]
    clear h8
    go_enter Try.func39, Try.ntmps39
    go_wp2
    go_loopw [10] (fun i wr => ∃ k : Nat, k ≤ xs.length ∧ i = .int .i64 k ∧ Hid ((xs.drop k).all moveOk = xs.all moveOk) ∧ Below w.heap.size w wr) (fun i _ => xs.length - (intOf i).toNat)
    case atStart => exact ⟨0, Nat.zero_le _, rfl, hide rfl, Below.refl _ _⟩
    case round =>
      obtain ⟨k, hk, rfl, HN, hb⟩ := hrel
      have hbs := hb.size
      by_cases hlt : k < xs.length
      · obtain ⟨b1, o1, rfl, hb1, hcell1⟩ := h1 (by omega)
        have e0 : wr.cell? ⟨b1, o1 + k, none⟩ = some (.int .i64 (xs[k])) := by
          rw [hb.cell (p := ⟨b1, _, none⟩) hb1]; have := hcell1 k xs[k] (List.getElem?_eq_getElem hlt) 0 _ rfl; simpa using this
        clear hcell1 h1
        go_wp2_with (go_at_call 52; refine (within_any _ _ _ _).mono ?_; rintro e w1 ⟨rfl, hw⟩; obtain rfl := hw.symm)
        all_goals first
          | (have hbad : moveOk xs[k] = false := by (unfold moveOk; (simp only [inB, Bool.not_eq_true', Bool.not_eq_false', Bool.and_eq_true, Bool.or_eq_true, Bool.and_eq_false_iff, Bool.or_eq_false_iff, decide_eq_true_eq, decide_eq_false_iff_not] at *; omega))
             go_ret
             exact ⟨by simp [movesOk, all_bad hlt hbad], (by repeat (first | exact Below.refl _ _ | assumption | refine Below.setCell ?_ (by first | omega | (simp <;> omega)) _ | refine Below.alloc ?_ (by first | omega | (simp <;> omega)) _ | refine below_drewN ?_ _ | refine Below.drew ?_ | refine Below.trans ?_ (Below.mono (by assumption) (by first | omega | (simp <;> omega)))))⟩)
          | (have hgood : moveOk xs[k] = true := by (unfold moveOk; (simp only [inB, Bool.not_eq_true', Bool.not_eq_false', Bool.and_eq_true, Bool.or_eq_true, Bool.and_eq_false_iff, Bool.or_eq_false_iff, decide_eq_true_eq, decide_eq_false_iff_not] at *; omega))
             have HG := hide hgood; clear hgood
             go_roundw
             case rel => exact ⟨k + 1, by omega, by go_num, hide (all_step HN.out hlt HG.out), (by repeat (first | exact Below.refl _ _ | assumption | refine Below.setCell ?_ (by first | omega | (simp <;> omega)) _ | refine Below.alloc ?_ (by first | omega | (simp <;> omega)) _ | refine below_drewN ?_ _ | refine Below.drew ?_ | refine Below.trans ?_ (Below.mono (by assumption) (by first | omega | (simp <;> omega)))))⟩
             case measure => simp [intOf]; omega)
      · obtain rfl : k = xs.length := by omega
        go_wp2
        go_ret
        exact ⟨by simp [movesOk, H8.out, all_end HN.out], hb⟩
  · have h8' : ((xs.length : Int) != 64) = true := by simp; omega
    have H8 := hide h8
    clear h8
    go_enter Try.func39, Try.ntmps39
    go_wp2
    go_ret
    exact ⟨by simp [movesOk, H8.out], Below.refl _ _⟩
def tableOk (pause : Int) (ms : List Int) : Bool := inB pause 0 2880 && movesOk ms
set_option maxHeartbeats 2000000 in
theorem l13Table_any (p : Int) (v : Value) (xs : List Int) (w : World) (h1 : RdI w v xs) :
    Calls Try.prog 36 #[.int .i64 p, v] w fun e w' => e = .returned (.bool (tableOk p xs)) ∧ Below w.heap.size w w' := by
  obtain ⟨A1, c1, rfl, hc1, hm1, h1⟩ := h1
  unfold maxLen at hm1
  rcases ch2 (inB p 0 2880) (decide (xs.length = 64)) with ⟨g1, g2⟩ | g1 | ⟨g1, g2⟩
  · have h8 : xs.length = 64 := by simpa using g2
    have H8 := hide h8; have H1 := hide g1
    have h8' : ((xs.length : Int) != 64) = false := by simp [h8]
    clear h8 g2
    go_enter Try.func36, Try.ntmps36
    go_wp2_with (go_at_call 37; refine (l01In_any _ _ _ _).mono ?_; rintro e w1 ⟨rfl, hw⟩; obtain rfl := hw.symm)
    clear g1
    go_loopw [17] (fun i wr => ∃ k : Nat, k ≤ xs.length ∧ i = .int .i64 k ∧ Hid ((xs.drop k).all moveOk = xs.all moveOk) ∧ Below w.heap.size w wr) (fun i _ => xs.length - (intOf i).toNat)
    case atStart => exact ⟨0, Nat.zero_le _, rfl, hide rfl, Below.refl _ _⟩
    case round =>
      obtain ⟨k, hk, rfl, HN, hb⟩ := hrel
      have hbs := hb.size
      by_cases hlt : k < xs.length
      · obtain ⟨b1, o1, rfl, hb1, hcell1⟩ := h1 (by omega)
        have e0 : wr.cell? ⟨b1, o1 + k, none⟩ = some (.int .i64 (xs[k])) := by
          rw [hb.cell (p := ⟨b1, _, none⟩) hb1]; have := hcell1 k xs[k] (List.getElem?_eq_getElem hlt) 0 _ rfl; simpa using this
        clear hcell1 h1
        go_wp2_with (go_at_call 37; refine (l01In_any _ _ _ _).mono ?_; rintro e w1 ⟨rfl, hw⟩; obtain rfl := hw.symm)
        all_goals first
          | (have hbad : moveOk xs[k] = false := by (unfold moveOk; (simp only [inB, Bool.not_eq_true', Bool.not_eq_false', Bool.and_eq_true, Bool.or_eq_true, Bool.and_eq_false_iff, Bool.or_eq_false_iff, decide_eq_true_eq, decide_eq_false_iff_not] at *; omega))
             go_ret
             exact ⟨by simp [tableOk, movesOk, all_bad hlt hbad], (by repeat (first | exact Below.refl _ _ | assumption | refine Below.setCell ?_ (by first | omega | (simp <;> omega)) _ | refine Below.alloc ?_ (by first | omega | (simp <;> omega)) _ | refine below_drewN ?_ _ | refine Below.drew ?_ | refine Below.trans ?_ (Below.mono (by assumption) (by first | omega | (simp <;> omega)))))⟩)
          | (have hgood : moveOk xs[k] = true := by (unfold moveOk; (simp only [inB, Bool.not_eq_true', Bool.not_eq_false', Bool.and_eq_true, Bool.or_eq_true, Bool.and_eq_false_iff, Bool.or_eq_false_iff, decide_eq_true_eq, decide_eq_false_iff_not] at *; omega))
             have HG := hide hgood; clear hgood
             go_roundw
             case rel => exact ⟨k + 1, by omega, by go_num, hide (all_step HN.out hlt HG.out), (by repeat (first | exact Below.refl _ _ | assumption | refine Below.setCell ?_ (by first | omega | (simp <;> omega)) _ | refine Below.alloc ?_ (by first | omega | (simp <;> omega)) _ | refine below_drewN ?_ _ | refine Below.drew ?_ | refine Below.trans ?_ (Below.mono (by assumption) (by first | omega | (simp <;> omega)))))⟩
             case measure => simp [intOf]; omega)
      · obtain rfl : k = xs.length := by omega
        go_wp2
        go_ret
        exact ⟨by simp [tableOk, movesOk, H1.out, H8.out, all_end HN.out], hb⟩
  · have H1 := hide g1
    go_enter Try.func36, Try.ntmps36
    go_wp2_with (go_at_call 37; refine (l01In_any _ _ _ _).mono ?_; rintro e w1 ⟨rfl, hw⟩; obtain rfl := hw.symm)
    go_ret
    exact ⟨by simp [tableOk, H1.out], Below.refl _ _⟩
  · have H1 := hide g2
    have h8' : ((xs.length : Int) != 64) = true := by simp at g2 ⊢; omega
    clear g2
    go_enter Try.func36, Try.ntmps36
    go_wp2_with (go_at_call 37; refine (l01In_any _ _ _ _).mono ?_; rintro e w1 ⟨rfl, hw⟩; obtain rfl := hw.symm)
    go_ret
    have h2 := H1.out
    exact ⟨by simp at h2; simp [tableOk, movesOk, h2], Below.refl _ _⟩
theorem movesOk_at {ms : List Int} (h : movesOk ms = true) : ms.length = 64 ∧ ∀ (k : Nat) (hk : k < ms.length), 0 ≤ ms[k] ∧ ms[k] ≤ 240 := by
  unfold movesOk at h
  simp [moveOk, inB] at h
  exact ⟨h.1, fun k hk => h.2 _ (List.getElem_mem hk)⟩
set_option maxHeartbeats 2000000 in
theorem spec_Gap_any (p : Int) (v : Value) (ms : List Int) (d0 d1 d2 d3 e0 e1 e2 e3 : Int) (w : World) (h1 : RdI w v ms) :
    Calls Try.prog 15 #[.int .i64 p, v, .agg #[.int .i64 d0, .int .i64 d1, .int .i64 d2, .int .i64 d3], .agg #[.int .i64 e0, .int .i64 e1, .int .i64 e2, .int .i64 e3]] w fun e w' => e = .returned (.tuple #[.int .i64 (gapOf p ms d3 e2), .bool (gapOk p ms d3 e2)]) ∧ Below w.heap.size w w' := by
  have HR := hide h1
  obtain ⟨A1, c1, rfl, hc1, hm1, h1⟩ := h1
  unfold maxLen at hm1
  rcases ch3 (tableOk p ms) (inB d3 0 7) (inB e2 0 7) with ⟨g1, g2, g3⟩ | g1 | ⟨g1, g2⟩ | ⟨g1, g2, g3⟩
  · have HG := hide (show gapOk p ms d3 e2 = true by unfold tableOk at g1; simp [gapOk, g2, g3]; simpa using g1)
    obtain ⟨hl, hm⟩ := movesOk_at (ms := ms) (by unfold tableOk at g1; simp at g1; exact g1.2)
    have hp : 0 ≤ p ∧ p ≤ 2880 := by unfold tableOk inB at g1; simp at g1; omega
    obtain ⟨b, rfl, hb8⟩ : ∃ b : Nat, d3 = b ∧ b < 8 := by simp [inB] at g2; exact ⟨d3.toNat, by omega, by omega⟩
    obtain ⟨a, rfl, ha8⟩ : ∃ a : Nat, e2 = a ∧ a < 8 := by simp [inB] at g3; exact ⟨e2.toNat, by omega, by omega⟩
    have hlt : b * 8 + a < ms.length := by omega
    obtain ⟨b1, o1, rfl, hb1, hcell1⟩ := h1 (by omega)
    have c0 : w.cell? ⟨b1, o1 + (b * 8 + a), none⟩ = some (.int .i64 (ms[b * 8 + a])) := by
      have := hcell1 (b * 8 + a) _ (List.getElem?_eq_getElem hlt) 0 _ rfl; simpa using this
    have hv := hm _ hlt
    have HV := hide (show gapOf p ms b a = p + ms[b * 8 + a] by unfold gapOf; rw [if_pos HG.out]; congr 1; rw [show ((b : Int) * 8 + (a : Int)).toNat = b * 8 + a by omega]; simp [List.getD, hlt])
    obtain ⟨hp0, hp1⟩ := hp; obtain ⟨hv0, hv1⟩ := hv
    clear hcell1 h1 hm
    have HL := hide hl; clear hl
    have hl' : (b : Int) * 8 + a < ms.length := by omega
    have hb1' : b1 < w.heap.size + 1 + 1 := by omega
    go_enter Try.func15, Try.ntmps15
    go_wp2_with (first
      | (go_at_call 36; refine (l13Table_any _ _ ms _ (RdB.mono (RdB.keep HR.out (B' := w.heap.size) (by repeat (first | exact Below.refl _ _ | assumption | refine Below.setCell ?_ (by first | omega | (simp <;> omega)) _ | refine Below.alloc ?_ (by first | omega | (simp <;> omega)) _ | refine below_drewN ?_ _ | refine Below.drew ?_ | refine Below.trans ?_ (Below.mono (by assumption) (by first | omega | (simp <;> omega))))) (Nat.le_refl _)) (by simp <;> omega))).mono ?_; rintro e w1 ⟨rfl, hb'⟩; (first | have hb := bnext hb hb' | have hb := bnextA hb hb' | have hb := hb'); clear hb'; obtain ⟨hc, hf⟩ := bcell hb; have hz := hb.size; (try simp at hz))
      | (go_at_call 37; refine (l01In_any _ _ _ _).mono ?_; rintro e w1 ⟨rfl, hw⟩; obtain rfl := hw.symm))
    go_ret2
    exact ⟨by rw [HV.out, HG.out]; rfl, (by repeat (first | exact Below.refl _ _ | assumption | refine Below.setCell ?_ (by first | omega | (simp <;> omega)) _ | refine Below.alloc ?_ (by first | omega | (simp <;> omega)) _ | refine below_drewN ?_ _ | refine Below.drew ?_ | refine Below.trans ?_ (Below.mono (by assumption) (by first | omega | (simp <;> omega)))))⟩
  all_goals
    have HG := hide (show gapOk p ms d3 e2 = false by (show (tableOk p ms && inB d3 0 7 && inB e2 0 7) = false); simp [*])
    go_enter Try.func15, Try.ntmps15
    go_wp2_with (first
      | (go_at_call 36; refine (l13Table_any _ _ ms _ (RdB.mono (RdB.keep HR.out (B' := w.heap.size) (by repeat (first | exact Below.refl _ _ | assumption | refine Below.setCell ?_ (by first | omega | (simp <;> omega)) _ | refine Below.alloc ?_ (by first | omega | (simp <;> omega)) _ | refine below_drewN ?_ _ | refine Below.drew ?_ | refine Below.trans ?_ (Below.mono (by assumption) (by first | omega | (simp <;> omega))))) (Nat.le_refl _)) (by simp <;> omega))).mono ?_; rintro e w1 ⟨rfl, hb'⟩; (first | have hb := bnext hb hb' | have hb := bnextA hb hb' | have hb := hb'); clear hb'; obtain ⟨hc, hf⟩ := bcell hb; have hz := hb.size; (try simp at hz))
      | (go_at_call 37; refine (l01In_any _ _ _ _).mono ?_; rintro e w1 ⟨rfl, hw⟩; obtain rfl := hw.symm))
    go_ret2
    exact ⟨by rw [HG.out]; simp [gapOf, HG.out], (by repeat (first | exact Below.refl _ _ | assumption | refine Below.setCell ?_ (by first | omega | (simp <;> omega)) _ | refine Below.alloc ?_ (by first | omega | (simp <;> omega)) _ | refine below_drewN ?_ _ | refine Below.drew ?_ | refine Below.trans ?_ (Below.mono (by assumption) (by first | omega | (simp <;> omega)))))⟩
set_option maxHeartbeats 2000000 in
theorem impl_Gap_any (p : Int) (v : Value) (ms : List Int) (d0 d1 d2 d3 e0 e1 e2 e3 : Int) (w : World) (h1 : RdI w v ms) :
    Calls Try.prog 18 #[.int .i64 p, v, .agg #[.int .i64 d0, .int .i64 d1, .int .i64 d2, .int .i64 d3], .agg #[.int .i64 e0, .int .i64 e1, .int .i64 e2, .int .i64 e3]] w fun e w' => e = .returned (.tuple #[.int .i64 (gapOf p ms d3 e2), .bool (gapOk p ms d3 e2)]) ∧ Below w.heap.size w w' := by
  have HR := hide h1
  obtain ⟨A1, c1, rfl, hc1, hm1, h1⟩ := h1
  unfold maxLen at hm1
  rcases ch4 (inB p 0 2880) (movesOk ms) (inB d3 0 7) (inB e2 0 7) with ⟨g0, g1, g2, g3⟩ | g0 | ⟨g0, g1⟩ | ⟨g0, g1, g2⟩ | ⟨g0, g1, g2, g3⟩
  · have HG := hide (show gapOk p ms d3 e2 = true by simp [gapOk, *])
    obtain ⟨hl, hm⟩ := movesOk_at (ms := ms) g1
    have hp : 0 ≤ p ∧ p ≤ 2880 := by unfold inB at g0; simp at g0; omega
    obtain ⟨b, rfl, hb8⟩ : ∃ b : Nat, d3 = b ∧ b < 8 := by simp [inB] at g2; exact ⟨d3.toNat, by omega, by omega⟩
    obtain ⟨a, rfl, ha8⟩ : ∃ a : Nat, e2 = a ∧ a < 8 := by simp [inB] at g3; exact ⟨e2.toNat, by omega, by omega⟩
    have hlt : b * 8 + a < ms.length := by omega
    obtain ⟨b1, o1, rfl, hb1, hcell1⟩ := h1 (by omega)
    have c0 : w.cell? ⟨b1, o1 + (8 * b + a), none⟩ = some (.int .i64 (ms[b * 8 + a])) := by
      have e8 : 8 * b + a = b * 8 + a := by omega
      rw [e8]; have := hcell1 (b * 8 + a) _ (List.getElem?_eq_getElem hlt) 0 _ rfl; simpa using this
    have hv := hm _ hlt
    have HV := hide (show gapOf p ms b a = p + ms[b * 8 + a] by unfold gapOf; rw [if_pos HG.out]; congr 1; rw [show ((b : Int) * 8 + (a : Int)).toNat = b * 8 + a by omega]; simp [List.getD, hlt])
    obtain ⟨hp0, hp1⟩ := hp; obtain ⟨hv0, hv1⟩ := hv
    clear hcell1 h1 hm
    have HL := hide hl; clear hl
    have hl' : (8 : Int) * b + a < ms.length := by omega
    have hb1' : b1 < w.heap.size + 1 + 1 := by omega
    go_enter Try.func18, Try.ntmps18
    go_wp2_with (first
      | (go_at_call 39; refine (movesOk_any _ ms _ (RdB.mono (RdB.keep HR.out (B' := w.heap.size) (by repeat (first | exact Below.refl _ _ | assumption | refine Below.setCell ?_ (by first | omega | (simp <;> omega)) _ | refine Below.alloc ?_ (by first | omega | (simp <;> omega)) _ | refine below_drewN ?_ _ | refine Below.drew ?_ | refine Below.trans ?_ (Below.mono (by assumption) (by first | omega | (simp <;> omega))))) (Nat.le_refl _)) (by simp <;> omega))).mono ?_; rintro e w1 ⟨rfl, hb'⟩; (first | have hb := bnext hb hb' | have hb := bnextA hb hb' | have hb := hb'); clear hb'; obtain ⟨hc, hf⟩ := bcell hb; have hz := hb.size; (try simp at hz))
      | (go_at_call 38; refine (isMinute_any _ _).mono ?_; rintro e w1 ⟨rfl, hw⟩; obtain rfl := hw.symm)
      | (go_at_call 34; refine (isIndexB _ _ 7 _ (by omega)).mono ?_; rintro e w1 ⟨rfl, hw⟩; obtain rfl := hw.symm))
    go_ret2
    exact ⟨by rw [HV.out, HG.out]; rfl, (by repeat (first | exact Below.refl _ _ | assumption | refine Below.setCell ?_ (by first | omega | (simp <;> omega)) _ | refine Below.alloc ?_ (by first | omega | (simp <;> omega)) _ | refine below_drewN ?_ _ | refine Below.drew ?_ | refine Below.trans ?_ (Below.mono (by assumption) (by first | omega | (simp <;> omega)))))⟩
  all_goals
    have HG := hide (show gapOk p ms d3 e2 = false by simp [gapOk, *])
    go_enter Try.func18, Try.ntmps18
    go_wp2_with (first
      | (go_at_call 39; refine (movesOk_any _ ms _ (RdB.mono (RdB.keep HR.out (B' := w.heap.size) (by repeat (first | exact Below.refl _ _ | assumption | refine Below.setCell ?_ (by first | omega | (simp <;> omega)) _ | refine Below.alloc ?_ (by first | omega | (simp <;> omega)) _ | refine below_drewN ?_ _ | refine Below.drew ?_ | refine Below.trans ?_ (Below.mono (by assumption) (by first | omega | (simp <;> omega))))) (Nat.le_refl _)) (by simp <;> omega))).mono ?_; rintro e w1 ⟨rfl, hb'⟩; (first | have hb := bnext hb hb' | have hb := bnextA hb hb' | have hb := hb'); clear hb'; obtain ⟨hc, hf⟩ := bcell hb; have hz := hb.size; (try simp at hz))
      | (go_at_call 38; refine (isMinute_any _ _).mono ?_; rintro e w1 ⟨rfl, hw⟩; obtain rfl := hw.symm)
      | (go_at_call 34; refine (isIndexB _ _ 7 _ (by omega)).mono ?_; rintro e w1 ⟨rfl, hw⟩; obtain rfl := hw.symm))
    go_ret2
    exact ⟨by rw [HG.out]; simp [gapOf, HG.out], (by repeat (first | exact Below.refl _ _ | assumption | refine Below.setCell ?_ (by first | omega | (simp <;> omega)) _ | refine Below.alloc ?_ (by first | omega | (simp <;> omega)) _ | refine below_drewN ?_ _ | refine Below.drew ?_ | refine Below.trans ?_ (Below.mono (by assumption) (by first | omega | (simp <;> omega)))))⟩
theorem gapOf_range {p : Int} {ms : List Int} {b a : Int} : 0 ≤ gapOf p ms b a ∧ gapOf p ms b a ≤ 3120 := by
  unfold gapOf
  split
  · rename_i h
    unfold gapOk at h
    simp at h
    obtain ⟨⟨⟨h1, h2⟩, h3⟩, h4⟩ := h
    obtain ⟨hl, hm⟩ := movesOk_at h2
    simp [inB] at h1 h3 h4
    have hlt : (b * 8 + a).toNat < ms.length := by omega
    have := hm _ hlt
    simp [List.getD, hlt]
    omega
  · omega
theorem dutyOk_fin {d : DutyD} (h : dutyOk d = true) : 0 ≤ d.start ∧ d.start < d.fin ∧ d.fin ≤ 2880 := by
  simp [dutyOk, inB] at h; omega
set_option maxHeartbeats 4000000 in
theorem spec_CanFollow_any (p : Int) (v : Value) (ms : List Int) (d e : DutyD) (w : World) (h1 : RdI w v ms) :
    Calls Try.prog 20 #[.int .i64 p, v, d.val, e.val] w fun r w' => r = .returned (.bool (canFollow p ms d e)) ∧ Below w.heap.size w w' := by
  obtain ⟨d0, d1, d2, d3⟩ := d
  obtain ⟨e0, e1, e2, e3⟩ := e
  have HR := hide h1
  obtain ⟨A1, c1, rfl, hc1, hm1, h1⟩ := h1
  unfold maxLen at hm1
  clear h1
  obtain ⟨hg0, hg1⟩ := gapOf_range (p := p) (ms := ms) (b := d3) (a := e2)
  rcases ch3 (gapOk p ms d3 e2) (dutyOk ⟨d0, d1, d2, d3⟩) (dutyOk ⟨e0, e1, e2, e3⟩) with ⟨g1, g2, g3⟩ | g1 | ⟨g1, g2⟩ | ⟨g1, g2, g3⟩
  · obtain ⟨q1, q2, q3⟩ := dutyOk_fin g2
    simp only at q1 q2 q3
    have HC := hide (show canFollow p ms ⟨d0, d1, d2, d3⟩ ⟨e0, e1, e2, e3⟩ = decide (d1 + gapOf p ms d3 e2 ≤ e0) by simp [canFollow, *])
    go_enter Try.func20, Try.ntmps20
    go_wp2_with (first
      | (go_at_call 15; refine (spec_Gap_any _ _ ms _ _ _ _ _ _ _ _ _ (RdB.mono (RdB.keep HR.out (B' := w.heap.size) (by repeat (first | exact Below.refl _ _ | assumption | refine Below.setCell ?_ (by first | omega | (simp <;> omega)) _ | refine Below.alloc ?_ (by first | omega | (simp <;> omega)) _ | refine below_drewN ?_ _ | refine Below.drew ?_ | refine Below.trans ?_ (Below.mono (by assumption) (by first | omega | (simp <;> omega))))) (Nat.le_refl _)) (by simp <;> omega))).mono ?_; rintro e w1 ⟨rfl, hb'⟩; (first | have hb := bnext hb hb' | have hb := bnextA hb hb' | have hb := hb'); clear hb'; obtain ⟨hc, hf⟩ := bcell hb; have hz := hb.size; (try simp at hz))
      | (go_at_call 33; refine (l13Duty_any _ _ _ _ _).mono ?_; rintro e w1 ⟨rfl, hb'⟩; (first | have hb := bnext hb hb' | have hb := bnextA hb hb' | have hb := hb'); clear hb'; obtain ⟨hc, hf⟩ := bcell hb; have hz := hb.size; (try simp at hz)))
    go_ret
    exact ⟨by rw [HC.out]; first | done | rfl, (by repeat (first | exact Below.refl _ _ | assumption | refine Below.setCell ?_ (by first | omega | (simp <;> omega)) _ | refine Below.alloc ?_ (by first | omega | (simp <;> omega)) _ | refine below_drewN ?_ _ | refine Below.drew ?_ | refine Below.trans ?_ (Below.mono (by assumption) (by first | omega | (simp <;> omega)))))⟩
  all_goals
    have HC := hide (show canFollow p ms ⟨d0, d1, d2, d3⟩ ⟨e0, e1, e2, e3⟩ = false by simp [canFollow, *])
    go_enter Try.func20, Try.ntmps20
    go_wp2_with (first
      | (go_at_call 15; refine (spec_Gap_any _ _ ms _ _ _ _ _ _ _ _ _ (RdB.mono (RdB.keep HR.out (B' := w.heap.size) (by repeat (first | exact Below.refl _ _ | assumption | refine Below.setCell ?_ (by first | omega | (simp <;> omega)) _ | refine Below.alloc ?_ (by first | omega | (simp <;> omega)) _ | refine below_drewN ?_ _ | refine Below.drew ?_ | refine Below.trans ?_ (Below.mono (by assumption) (by first | omega | (simp <;> omega))))) (Nat.le_refl _)) (by simp <;> omega))).mono ?_; rintro e w1 ⟨rfl, hb'⟩; (first | have hb := bnext hb hb' | have hb := bnextA hb hb' | have hb := hb'); clear hb'; obtain ⟨hc, hf⟩ := bcell hb; have hz := hb.size; (try simp at hz))
      | (go_at_call 33; refine (l13Duty_any _ _ _ _ _).mono ?_; rintro e w1 ⟨rfl, hb'⟩; (first | have hb := bnext hb hb' | have hb := bnextA hb hb' | have hb := hb'); clear hb'; obtain ⟨hc, hf⟩ := bcell hb; have hz := hb.size; (try simp at hz)))
    go_ret
    exact ⟨by rw [HC.out]; first | done | rfl, (by repeat (first | exact Below.refl _ _ | assumption | refine Below.setCell ?_ (by first | omega | (simp <;> omega)) _ | refine Below.alloc ?_ (by first | omega | (simp <;> omega)) _ | refine below_drewN ?_ _ | refine Below.drew ?_ | refine Below.trans ?_ (Below.mono (by assumption) (by first | omega | (simp <;> omega)))))⟩
theorem duties_one (d : DutyD) : dutiesOk [d] = dutyOk d := by simp [dutiesOk]
set_option maxHeartbeats 4000000 in
theorem impl_CanFollow_any (p : Int) (v : Value) (ms : List Int) (d e : DutyD) (w : World) (h1 : RdI w v ms) :
    Calls Try.prog 21 #[.int .i64 p, v, d.val, e.val] w fun r w' => r = .returned (.bool (canFollow p ms d e)) ∧ Below w.heap.size w w' := by
  obtain ⟨d0, d1, d2, d3⟩ := d
  obtain ⟨e0, e1, e2, e3⟩ := e
  have HR := hide h1
  obtain ⟨A1, c1, rfl, hc1, hm1, h1⟩ := h1
  unfold maxLen at hm1
  clear h1
  obtain ⟨hg0, hg1⟩ := gapOf_range (p := p) (ms := ms) (b := d3) (a := e2)
  rcases ch3 (gapOk p ms d3 e2) (dutyOk ⟨d0, d1, d2, d3⟩) (dutyOk ⟨e0, e1, e2, e3⟩) with ⟨g1, g2, g3⟩ | g1 | ⟨g1, g2⟩ | ⟨g1, g2, g3⟩
  · obtain ⟨q1, q2, q3⟩ := dutyOk_fin g2
    simp only at q1 q2 q3
    have HC := hide (show canFollow p ms ⟨d0, d1, d2, d3⟩ ⟨e0, e1, e2, e3⟩ = decide (d1 + gapOf p ms d3 e2 ≤ e0) by simp [canFollow, *])
    go_enter Try.func21, Try.ntmps21
    go_wp2_with (first
      | (go_at_call 18; refine (impl_Gap_any _ _ ms _ _ _ _ _ _ _ _ _ (RdB.mono (RdB.keep HR.out (B' := w.heap.size) (by repeat (first | exact Below.refl _ _ | assumption | refine Below.setCell ?_ (by first | omega | (simp <;> omega)) _ | refine Below.alloc ?_ (by first | omega | (simp <;> omega)) _ | refine below_drewN ?_ _ | refine Below.drew ?_ | refine Below.trans ?_ (Below.mono (by assumption) (by first | omega | (simp <;> omega))))) (Nat.le_refl _)) (by simp <;> omega))).mono ?_; rintro e w1 ⟨rfl, hb'⟩; (first | have hb := bnext hb hb' | have hb := bnextA hb hb' | have hb := hb'); clear hb'; obtain ⟨hc, hf⟩ := bcell hb; have hz := hb.size; (try simp at hz))
      | (go_at_call 13; refine (impl_DutiesOk_any _ [⟨d0, d1, d2, d3⟩] _ (rd_new _ _ _)).mono ?_; rintro e w1 ⟨rfl, hb'⟩; rw [duties_one]; (first | have hb := bnext hb hb' | have hb := bnextA hb hb' | have hb := hb'); clear hb'; obtain ⟨hc, hf⟩ := bcell hb; have hz := hb.size; (try simp at hz))
      | (go_at_call 13; refine (impl_DutiesOk_any _ [⟨e0, e1, e2, e3⟩] _ (rd_new _ _ _)).mono ?_; rintro e w1 ⟨rfl, hb'⟩; rw [duties_one]; (first | have hb := bnext hb hb' | have hb := bnextA hb hb' | have hb := hb'); clear hb'; obtain ⟨hc, hf⟩ := bcell hb; have hz := hb.size; (try simp at hz)))
    go_ret
    exact ⟨by rw [HC.out]; first | done | rfl, (by repeat (first | exact Below.refl _ _ | assumption | refine Below.setCell ?_ (by first | omega | (simp <;> omega)) _ | refine Below.alloc ?_ (by first | omega | (simp <;> omega)) _ | refine below_drewN ?_ _ | refine Below.drew ?_ | refine Below.trans ?_ (Below.mono (by assumption) (by first | omega | (simp <;> omega)))))⟩
  all_goals
    have HC := hide (show canFollow p ms ⟨d0, d1, d2, d3⟩ ⟨e0, e1, e2, e3⟩ = false by simp [canFollow, *])
    go_enter Try.func21, Try.ntmps21
    go_wp2_with (first
      | (go_at_call 18; refine (impl_Gap_any _ _ ms _ _ _ _ _ _ _ _ _ (RdB.mono (RdB.keep HR.out (B' := w.heap.size) (by repeat (first | exact Below.refl _ _ | assumption | refine Below.setCell ?_ (by first | omega | (simp <;> omega)) _ | refine Below.alloc ?_ (by first | omega | (simp <;> omega)) _ | refine below_drewN ?_ _ | refine Below.drew ?_ | refine Below.trans ?_ (Below.mono (by assumption) (by first | omega | (simp <;> omega))))) (Nat.le_refl _)) (by simp <;> omega))).mono ?_; rintro e w1 ⟨rfl, hb'⟩; (first | have hb := bnext hb hb' | have hb := bnextA hb hb' | have hb := hb'); clear hb'; obtain ⟨hc, hf⟩ := bcell hb; have hz := hb.size; (try simp at hz))
      | (go_at_call 13; refine (impl_DutiesOk_any _ [⟨d0, d1, d2, d3⟩] _ (rd_new _ _ _)).mono ?_; rintro e w1 ⟨rfl, hb'⟩; rw [duties_one]; (first | have hb := bnext hb hb' | have hb := bnextA hb hb' | have hb := hb'); clear hb'; obtain ⟨hc, hf⟩ := bcell hb; have hz := hb.size; (try simp at hz))
      | (go_at_call 13; refine (impl_DutiesOk_any _ [⟨e0, e1, e2, e3⟩] _ (rd_new _ _ _)).mono ?_; rintro e w1 ⟨rfl, hb'⟩; rw [duties_one]; (first | have hb := bnext hb hb' | have hb := bnextA hb hb' | have hb := hb'); clear hb'; obtain ⟨hc, hf⟩ := bcell hb; have hz := hb.size; (try simp at hz)))
    go_ret
    exact ⟨by rw [HC.out]; first | done | rfl, (by repeat (first | exact Below.refl _ _ | assumption | refine Below.setCell ?_ (by first | omega | (simp <;> omega)) _ | refine Below.alloc ?_ (by first | omega | (simp <;> omega)) _ | refine below_drewN ?_ _ | refine Below.drew ?_ | refine Below.trans ?_ (Below.mono (by assumption) (by first | omega | (simp <;> omega)))))⟩
end Go.Proofs.Ytdbpgfbbkejljaa
