/- Whether a list of passages is clear; clashes of two lists. No condition. -/
import Derived.Test.YtefidlecandnlaaConf2
namespace Go.Proofs.Ytefidlecandnlaa
open Go.RowKit
set_option linter.unusedVariables false

def isClearB (c : ChartD) (r0 : Int) (r1 : Bool) (xs : List PassageD) : Bool := chartOk c && inB r0 0 60 && decide (fcN c r0 r1 xs = 0)
def anyD {α : Type} (f : α → Bool) (xs : List α) (k : Nat) : Bool := (xs.drop k).any f
theorem any_step {α : Type} {f : α → Bool} {xs : List α} {k : Nat} {b : Bool} (h : (xs.drop k).any f = b) (hlt : k < xs.length) (hf : f xs[k] = false) : (xs.drop (k + 1)).any f = b := by
  rw [List.drop_eq_getElem_cons hlt, List.any_cons, hf, Bool.false_or] at h; exact h
theorem any_hit {α : Type} {f : α → Bool} {xs : List α} {k : Nat} (hlt : k < xs.length) (hf : f xs[k] = true) : xs.any f = true := by
  rw [List.any_eq_true]; exact ⟨xs[k], List.getElem_mem hlt, hf⟩
theorem any_end {α : Type} {f : α → Bool} {xs : List α} {b : Bool} (h : (xs.drop xs.length).any f = b) : b = false := by
  rw [List.drop_length] at h; simpa using h.symm
theorem clashes_bad {c : ChartD} {r0 : Int} {r1 : Bool} {xs ys : List PassageD} (h : (chartOk c && inB r0 0 60) = false) : clashesB c r0 r1 xs ys = false := by
  unfold clashesB
  rw [List.any_eq_false]; intro p _
  rw [Bool.not_eq_true, List.any_eq_false]; intro q _
  unfold hitB; rw [conf_bad h]; simp
set_option maxRecDepth 100000 in
set_option maxHeartbeats 8000000 in
theorem spec_IsClear_any (v1 v2 v3 : Value) (c : ChartD) (r0 : Int) (r1 : Bool) (xs : List PassageD) (w : World) (h : RdChart w w.heap.size v1 v2 c) (h3 : RdPassage w v3 xs) (hxs : ∀ x ∈ xs, x.ok) (hok : ∀ x ∈ c.points, x.name.size ≤ maxLen) :
    Calls Try.prog 43 #[.agg #[v1, v2], .agg #[.int .i64 r0, .bool r1], v3] w fun e w' => e = .returned (.bool (isClearB c r0 r1 xs)) ∧ Below w.heap.size w w' := by
  have HR := hide h
  obtain ⟨h1, h2⟩ := h
  obtain ⟨A1, c1, rfl, hc1, hm1, h1⟩ := h1
  obtain ⟨A2, c2, rfl, hc2, hm2, h2⟩ := h2
  unfold maxLen at hm1 hm2
  clear h1 h2
  have H3 := hide h3
  obtain ⟨A3, c3, rfl, hc3, hm3, h3⟩ := h3
  unfold maxLen at hm3
  clear h3
  rcases ch3 (chartOk c) (inB r0 0 60) (fcN c r0 r1 xs == 0) with ⟨g1, g2, g3⟩ | g1 | ⟨g1, g2⟩ | ⟨g1, g2, g3⟩
  all_goals
    have HV := hide (show isClearB c r0 r1 xs = (chartOk c && inB r0 0 60 && (fcN c r0 r1 xs == 0)) by unfold isClearB; congr 1)
    go_enter Try.func43, Try.ntmps43
    go_wp2_with (first
      | (go_at_call 64; refine (spec_ChartOk_any _ _ c _ ((HR.out.keep (B' := w.heap.size) (by repeat (first | exact Below.refl _ _ | assumption | refine Below.setCell ?_ (by first | omega | (simp <;> omega)) _ | refine Below.alloc ?_ (by first | omega | (simp <;> omega)) _ | refine below_drewN ?_ _ | refine Below.drew ?_ | refine Below.trans ?_ (Below.mono (by assumption) (by first | omega | (simp <;> omega))))) (Nat.le_refl _)).mono (by first | omega | (simp <;> omega))) hok).mono ?_; rintro e w1 ⟨rfl, hb'⟩; (first | have hb := bnext hb hb' | have hb := bnextA hb hb' | have hb := hb'); clear hb'; obtain ⟨hc, hf⟩ := bcell hb; have hz := hb.size; (try simp at hz))
      | (go_at_call 80; refine (spec_RegimeOk_any _ _ _).mono ?_; rintro e w1 ⟨rfl, hb'⟩; (first | have hb := bnext hb hb' | have hb := bnextA hb hb' | have hb := hb'); clear hb'; obtain ⟨hc, hf⟩ := bcell hb; have hz := hb.size; (try simp at hz))
      | (go_at_call 39; refine (spec_FirstConflict_any _ _ _ c r0 r1 xs _ ((HR.out.keep (B' := w.heap.size) (by repeat (first | exact Below.refl _ _ | assumption | refine Below.setCell ?_ (by first | omega | (simp <;> omega)) _ | refine Below.alloc ?_ (by first | omega | (simp <;> omega)) _ | refine below_drewN ?_ _ | refine Below.drew ?_ | refine Below.trans ?_ (Below.mono (by assumption) (by first | omega | (simp <;> omega))))) (Nat.le_refl _)).mono (by first | omega | (simp <;> omega))) ((H3.out.keep (B' := w.heap.size) (by repeat (first | exact Below.refl _ _ | assumption | refine Below.setCell ?_ (by first | omega | (simp <;> omega)) _ | refine Below.alloc ?_ (by first | omega | (simp <;> omega)) _ | refine below_drewN ?_ _ | refine Below.drew ?_ | refine Below.trans ?_ (Below.mono (by assumption) (by first | omega | (simp <;> omega))))) (Nat.le_refl _)).mono (by first | omega | (simp <;> omega))) hxs hok).mono ?_; rintro e w1 ⟨rfl, hb'⟩; (first | have hb := bnext hb hb' | have hb := bnextA hb hb' | have hb := hb'); clear hb'; obtain ⟨hc, hf⟩ := bcell hb; have hz := hb.size; (try simp at hz)))
    go_ret
    exact ⟨by rw [HV.out]; simp [*], (by repeat (first | exact Below.refl _ _ | assumption | refine Below.setCell ?_ (by first | omega | (simp <;> omega)) _ | refine Below.alloc ?_ (by first | omega | (simp <;> omega)) _ | refine below_drewN ?_ _ | refine Below.drew ?_ | refine Below.trans ?_ (Below.mono (by assumption) (by first | omega | (simp <;> omega)))))⟩
set_option maxRecDepth 100000 in
set_option maxHeartbeats 8000000 in
theorem impl_IsClear_any (v1 v2 v3 : Value) (c : ChartD) (r0 : Int) (r1 : Bool) (xs : List PassageD) (w : World) (h : RdChart w w.heap.size v1 v2 c) (h3 : RdPassage w v3 xs) (hxs : ∀ x ∈ xs, x.ok) (hok : ∀ x ∈ c.points, x.name.size ≤ maxLen) :
    Calls Try.prog 44 #[.agg #[v1, v2], .agg #[.int .i64 r0, .bool r1], v3] w fun e w' => e = .returned (.bool (isClearB c r0 r1 xs)) ∧ Below w.heap.size w w' := by
  have HR := hide h
  obtain ⟨h1, h2⟩ := h
  obtain ⟨A1, c1, rfl, hc1, hm1, h1⟩ := h1
  obtain ⟨A2, c2, rfl, hc2, hm2, h2⟩ := h2
  unfold maxLen at hm1 hm2
  clear h1 h2
  have H3 := hide h3
  obtain ⟨A3, c3, rfl, hc3, hm3, h3⟩ := h3
  unfold maxLen at hm3
  clear h3
  rcases ch3 (chartOk c) (inB r0 0 60) (fcN c r0 r1 xs == 0) with ⟨g1, g2, g3⟩ | g1 | ⟨g1, g2⟩ | ⟨g1, g2, g3⟩
  all_goals
    have HV := hide (show isClearB c r0 r1 xs = (chartOk c && inB r0 0 60 && (fcN c r0 r1 xs == 0)) by unfold isClearB; congr 1)
    go_enter Try.func44, Try.ntmps44
    go_wp2_with (first
      | (go_at_call 70; refine (impl_ChartOk_any _ _ c _ ((HR.out.keep (B' := w.heap.size) (by repeat (first | exact Below.refl _ _ | assumption | refine Below.setCell ?_ (by first | omega | (simp <;> omega)) _ | refine Below.alloc ?_ (by first | omega | (simp <;> omega)) _ | refine below_drewN ?_ _ | refine Below.drew ?_ | refine Below.trans ?_ (Below.mono (by assumption) (by first | omega | (simp <;> omega))))) (Nat.le_refl _)).mono (by first | omega | (simp <;> omega))) hok).mono ?_; rintro e w1 ⟨rfl, hb'⟩; (first | have hb := bnext hb hb' | have hb := bnextA hb hb' | have hb := hb'); clear hb'; obtain ⟨hc, hf⟩ := bcell hb; have hz := hb.size; (try simp at hz))
      | (go_at_call 59; refine (impl_RegimeOk_any _ _ _).mono ?_; rintro e w1 ⟨rfl, hb'⟩; (first | have hb := bnext hb hb' | have hb := bnextA hb hb' | have hb := hb'); clear hb'; obtain ⟨hc, hf⟩ := bcell hb; have hz := hb.size; (try simp at hz))
      | (go_at_call 40; refine (impl_FirstConflict_any _ _ _ c r0 r1 xs _ ((HR.out.keep (B' := w.heap.size) (by repeat (first | exact Below.refl _ _ | assumption | refine Below.setCell ?_ (by first | omega | (simp <;> omega)) _ | refine Below.alloc ?_ (by first | omega | (simp <;> omega)) _ | refine below_drewN ?_ _ | refine Below.drew ?_ | refine Below.trans ?_ (Below.mono (by assumption) (by first | omega | (simp <;> omega))))) (Nat.le_refl _)).mono (by first | omega | (simp <;> omega))) ((H3.out.keep (B' := w.heap.size) (by repeat (first | exact Below.refl _ _ | assumption | refine Below.setCell ?_ (by first | omega | (simp <;> omega)) _ | refine Below.alloc ?_ (by first | omega | (simp <;> omega)) _ | refine below_drewN ?_ _ | refine Below.drew ?_ | refine Below.trans ?_ (Below.mono (by assumption) (by first | omega | (simp <;> omega))))) (Nat.le_refl _)).mono (by first | omega | (simp <;> omega))) hxs hok).mono ?_; rintro e w1 ⟨rfl, hb'⟩; (first | have hb := bnext hb hb' | have hb := bnextA hb hb' | have hb := hb'); clear hb'; obtain ⟨hc, hf⟩ := bcell hb; have hz := hb.size; (try simp at hz)))
    go_ret
    exact ⟨by rw [HV.out]; simp [*], (by repeat (first | exact Below.refl _ _ | assumption | refine Below.setCell ?_ (by first | omega | (simp <;> omega)) _ | refine Below.alloc ?_ (by first | omega | (simp <;> omega)) _ | refine below_drewN ?_ _ | refine Below.drew ?_ | refine Below.trans ?_ (Below.mono (by assumption) (by first | omega | (simp <;> omega)))))⟩
set_option maxRecDepth 100000 in
set_option maxHeartbeats 16000000 in
theorem spec_Clashes_any (v1 v2 v3 v4 : Value) (c : ChartD) (r0 : Int) (r1 : Bool) (xs ys : List PassageD) (w : World) (h : RdChart w w.heap.size v1 v2 c) (h3 : RdPassage w v3 xs) (h4 : RdPassage w v4 ys) (hxs : ∀ x ∈ xs, x.ok) (hys : ∀ x ∈ ys, x.ok) (hok : ∀ x ∈ c.points, x.name.size ≤ maxLen) :
    Calls Try.prog 41 #[.agg #[v1, v2], .agg #[.int .i64 r0, .bool r1], v3, v4] w fun e w' => e = .returned (.bool (clashesB c r0 r1 xs ys)) ∧ Below w.heap.size w w' := by
  have HR := hide h
  obtain ⟨h1, h2⟩ := h
  obtain ⟨A1, c1, rfl, hc1, hm1, h1⟩ := h1
  obtain ⟨A2, c2, rfl, hc2, hm2, h2⟩ := h2
  unfold maxLen at hm1 hm2
  clear h1 h2
  obtain ⟨A3, c3, rfl, hc3, hm3, h3⟩ := h3
  obtain ⟨A4, c4, rfl, hc4, hm4, h4⟩ := h4
  unfold maxLen at hm3 hm4
  have HXS := hide hxs; have HYS := hide hys
  clear hxs hys
  go_enter Try.func41, Try.ntmps41
  go_wp2
  go_loopw [15] (fun i wr => ∃ k : Nat, k ≤ xs.length ∧ i = .int .i64 k ∧ Hid ((xs.drop k).any (fun p => ys.any fun q => hitB c r0 r1 p q) = clashesB c r0 r1 xs ys) ∧ wr.cell? ⟨w.heap.size, 0, none⟩ = some (.slice A1 c.points.length c1) ∧ wr.cell? ⟨w.heap.size, 1, none⟩ = some (.slice A2 c.segs.length c2) ∧ wr.cell? ⟨w.heap.size + 1, 0, none⟩ = some (.int .i64 r0) ∧ wr.cell? ⟨w.heap.size + 1, 1, none⟩ = some (.bool r1) ∧ w.heap.size + 1 < wr.heap.size ∧ Below w.heap.size w wr) (fun i _ => xs.length - (intOf i).toNat)
  case atStart => exact ⟨0, Nat.zero_le _, rfl, hide rfl, by simp [go_sem], by simp [go_sem], by simp [go_sem], by simp [go_sem], by simp, (by repeat (first | exact Below.refl _ _ | assumption | refine Below.setCell ?_ (by first | omega | (simp <;> omega)) _ | refine Below.alloc ?_ (by first | omega | (simp <;> omega)) _ | refine below_drewN ?_ _ | refine Below.drew ?_ | refine Below.trans ?_ (Below.mono (by assumption) (by first | omega | (simp <;> omega)))))⟩
  case round =>
    obtain ⟨k, hk, rfl, HN, y0, y1, y2, y3, hl0, hb0⟩ := hrel
    obtain ⟨wo, rfl⟩ : ∃ wo : World, wo = wr := ⟨_, rfl⟩
    have hbs := hb0.size
    by_cases hlt : k < xs.length
    · obtain ⟨b3, o3, rfl, hb3, hcell3⟩ := h3 (by omega)
      have hz3 : b3 < wo.heap.size := by omega
      have e0 : wo.cell? ⟨b3, o3 + k * 5, none⟩ = some (.int .i64 xs[k].ship) := by
        rw [hb0.cell (p := ⟨b3, _, none⟩) hb3]; have := hcell3 k xs[k] (List.getElem?_eq_getElem hlt) 0 _ rfl; simpa using this
      have e1 : wo.cell? ⟨b3, o3 + k * 5 + 1, none⟩ = some (.int .i64 xs[k].segment) := by
        rw [hb0.cell (p := ⟨b3, _, none⟩) hb3]; have := hcell3 k xs[k] (List.getElem?_eq_getElem hlt) 1 _ rfl; simpa using this
      have e2 : wo.cell? ⟨b3, o3 + k * 5 + 2, none⟩ = some (.bool xs[k].toward) := by
        rw [hb0.cell (p := ⟨b3, _, none⟩) hb3]; have := hcell3 k xs[k] (List.getElem?_eq_getElem hlt) 2 _ rfl; simpa using this
      have e3 : wo.cell? ⟨b3, o3 + k * 5 + 3, none⟩ = some (.int .i64 xs[k].start) := by
        rw [hb0.cell (p := ⟨b3, _, none⟩) hb3]; have := hcell3 k xs[k] (List.getElem?_eq_getElem hlt) 3 _ rfl; simpa using this
      have e4 : wo.cell? ⟨b3, o3 + k * 5 + 4, none⟩ = some (.int .i64 xs[k].fin) := by
        rw [hb0.cell (p := ⟨b3, _, none⟩) hb3]; have := hcell3 k xs[k] (List.getElem?_eq_getElem hlt) 4 _ rfl; simpa using this
      have HP := hide (HXS.out xs[k] (List.getElem_mem hlt))
      clear h3 hcell3
      go_wp2
      go_loopw [21] (fun i wr => ∃ j : Nat, j ≤ ys.length ∧ i = .int .i64 j ∧ Hid ((ys.drop j).any (fun q => hitB c r0 r1 xs[k] q) = ys.any fun q => hitB c r0 r1 xs[k] q) ∧ wr.cell? ⟨w.heap.size, 0, none⟩ = some (.slice A1 c.points.length c1) ∧ wr.cell? ⟨w.heap.size, 1, none⟩ = some (.slice A2 c.segs.length c2) ∧ wr.cell? ⟨w.heap.size + 1, 0, none⟩ = some (.int .i64 r0) ∧ wr.cell? ⟨w.heap.size + 1, 1, none⟩ = some (.bool r1) ∧ w.heap.size + 1 < wr.heap.size ∧ wr.cell? ⟨wo.heap.size, 0, none⟩ = some (.int .i64 xs[k].ship) ∧ wr.cell? ⟨wo.heap.size, 1, none⟩ = some (.int .i64 xs[k].segment) ∧ wr.cell? ⟨wo.heap.size, 2, none⟩ = some (.bool xs[k].toward) ∧ wr.cell? ⟨wo.heap.size, 3, none⟩ = some (.int .i64 xs[k].start) ∧ wr.cell? ⟨wo.heap.size, 4, none⟩ = some (.int .i64 xs[k].fin) ∧ wo.heap.size < wr.heap.size ∧ Below wo.heap.size wo wr) (fun i _ => ys.length - (intOf i).toNat)
      case atStart => exact ⟨0, Nat.zero_le _, rfl, hide rfl, cellKeep (B := wo.heap.size) (w1 := wo) (by repeat (first | exact Below.refl _ _ | assumption | refine Below.setCell ?_ (by first | omega | (simp <;> omega)) _ | refine Below.alloc ?_ (by first | omega | (simp <;> omega)) _ | refine below_drewN ?_ _ | refine Below.drew ?_ | refine Below.trans ?_ (Below.mono (by assumption) (by first | omega | (simp <;> omega))))) y0 (by omega), cellKeep (B := wo.heap.size) (w1 := wo) (by repeat (first | exact Below.refl _ _ | assumption | refine Below.setCell ?_ (by first | omega | (simp <;> omega)) _ | refine Below.alloc ?_ (by first | omega | (simp <;> omega)) _ | refine below_drewN ?_ _ | refine Below.drew ?_ | refine Below.trans ?_ (Below.mono (by assumption) (by first | omega | (simp <;> omega))))) y1 (by omega), cellKeep (B := wo.heap.size) (w1 := wo) (by repeat (first | exact Below.refl _ _ | assumption | refine Below.setCell ?_ (by first | omega | (simp <;> omega)) _ | refine Below.alloc ?_ (by first | omega | (simp <;> omega)) _ | refine below_drewN ?_ _ | refine Below.drew ?_ | refine Below.trans ?_ (Below.mono (by assumption) (by first | omega | (simp <;> omega))))) y2 (by omega), cellKeep (B := wo.heap.size) (w1 := wo) (by repeat (first | exact Below.refl _ _ | assumption | refine Below.setCell ?_ (by first | omega | (simp <;> omega)) _ | refine Below.alloc ?_ (by first | omega | (simp <;> omega)) _ | refine below_drewN ?_ _ | refine Below.drew ?_ | refine Below.trans ?_ (Below.mono (by assumption) (by first | omega | (simp <;> omega))))) y3 (by omega), by first | omega | (simp <;> omega), by simp [go_sem], by simp [go_sem], by simp [go_sem], by simp [go_sem], by simp [go_sem], by simp, (by repeat (first | exact Below.refl _ _ | assumption | refine Below.setCell ?_ (by first | omega | (simp <;> omega)) _ | refine Below.alloc ?_ (by first | omega | (simp <;> omega)) _ | refine below_drewN ?_ _ | refine Below.drew ?_ | refine Below.trans ?_ (Below.mono (by assumption) (by first | omega | (simp <;> omega)))))⟩
      case round =>
        obtain ⟨j, hj, rfl, HJ, z0, z1, z2, z3, hl1, q0, q1, q2, q3, q4, hl2, hbj⟩ := hrel
        have hbk := bnext hb0 hbj (Nat.le_refl _)
        have hbks := hbk.size
        by_cases hjl : j < ys.length
        · obtain ⟨b4, o4, rfl, hb4, hcell4⟩ := h4 (by omega)
          have f0 : wr.cell? ⟨b4, o4 + j * 5, none⟩ = some (.int .i64 ys[j].ship) := by
            rw [hbk.cell (p := ⟨b4, _, none⟩) hb4]; have := hcell4 j ys[j] (List.getElem?_eq_getElem hjl) 0 _ rfl; simpa using this
          have f1 : wr.cell? ⟨b4, o4 + j * 5 + 1, none⟩ = some (.int .i64 ys[j].segment) := by
            rw [hbk.cell (p := ⟨b4, _, none⟩) hb4]; have := hcell4 j ys[j] (List.getElem?_eq_getElem hjl) 1 _ rfl; simpa using this
          have f2 : wr.cell? ⟨b4, o4 + j * 5 + 2, none⟩ = some (.bool ys[j].toward) := by
            rw [hbk.cell (p := ⟨b4, _, none⟩) hb4]; have := hcell4 j ys[j] (List.getElem?_eq_getElem hjl) 2 _ rfl; simpa using this
          have f3 : wr.cell? ⟨b4, o4 + j * 5 + 3, none⟩ = some (.int .i64 ys[j].start) := by
            rw [hbk.cell (p := ⟨b4, _, none⟩) hb4]; have := hcell4 j ys[j] (List.getElem?_eq_getElem hjl) 3 _ rfl; simpa using this
          have f4 : wr.cell? ⟨b4, o4 + j * 5 + 4, none⟩ = some (.int .i64 ys[j].fin) := by
            rw [hbk.cell (p := ⟨b4, _, none⟩) hb4]; have := hcell4 j ys[j] (List.getElem?_eq_getElem hjl) 4 _ rfl; simpa using this
          have hz4 : b4 < wr.heap.size := by omega
          have hz0 : w.heap.size < wr.heap.size := by omega
          have HQ := hide (HYS.out ys[j] (List.getElem_mem hjl))
          have HB := hide (show hitB c r0 r1 xs[k] ys[j] = decide (conflictOf c r0 r1 xs[k] ys[j] ≠ 0) from rfl)
          clear hcell4 h4 y0 y1 y2 y3 e0 e1 e2 e3 e4
          by_cases hv : conflictOf c r0 r1 xs[k] ys[j] = 0
          · have hvb : (conflictOf c r0 r1 xs[k] ys[j] != 0) = false := by simp [hv]
            have HF := hide (show hitB c r0 r1 xs[k] ys[j] = false by rw [HB.out]; simp [hv])
            clear hv
            go_wp2_with (go_at_call 26; refine (spec_ConflictOf_any _ _ c r0 r1 xs[k] ys[j] _ ((HR.out.keep (B' := w.heap.size) (by repeat (first | exact Below.refl _ _ | assumption | refine Below.setCell ?_ (by first | omega | (simp <;> omega)) _ | refine Below.alloc ?_ (by first | omega | (simp <;> omega)) _ | refine below_drewN ?_ _ | refine Below.drew ?_ | refine Below.trans ?_ (Below.mono (by assumption) (by first | omega | (simp <;> omega))))) (Nat.le_refl _)).mono (by first | omega | (simp <;> omega))) HP.out HQ.out hok).mono ?_; rintro e w1 ⟨rfl, hb'⟩; (first | have hb := bnext hb hb' | have hb := bnextA hb hb' | have hb := hb'); clear hb'; obtain ⟨hc, hf⟩ := bcell hb; have hz := hb.size; (try simp at hz))
            go_roundw
            case rel => exact ⟨j + 1, by omega, by go_num, hide (any_step HJ.out hjl HF.out), cellKeep (B := wr.heap.size) (w1 := wr) (by repeat (first | exact Below.refl _ _ | assumption | refine Below.setCell ?_ (by first | omega | (simp <;> omega)) _ | refine Below.alloc ?_ (by first | omega | (simp <;> omega)) _ | refine below_drewN ?_ _ | refine Below.drew ?_ | refine Below.trans ?_ (Below.mono (by assumption) (by first | omega | (simp <;> omega))))) z0 (by omega), cellKeep (B := wr.heap.size) (w1 := wr) (by repeat (first | exact Below.refl _ _ | assumption | refine Below.setCell ?_ (by first | omega | (simp <;> omega)) _ | refine Below.alloc ?_ (by first | omega | (simp <;> omega)) _ | refine below_drewN ?_ _ | refine Below.drew ?_ | refine Below.trans ?_ (Below.mono (by assumption) (by first | omega | (simp <;> omega))))) z1 (by omega), cellKeep (B := wr.heap.size) (w1 := wr) (by repeat (first | exact Below.refl _ _ | assumption | refine Below.setCell ?_ (by first | omega | (simp <;> omega)) _ | refine Below.alloc ?_ (by first | omega | (simp <;> omega)) _ | refine below_drewN ?_ _ | refine Below.drew ?_ | refine Below.trans ?_ (Below.mono (by assumption) (by first | omega | (simp <;> omega))))) z2 (by omega), cellKeep (B := wr.heap.size) (w1 := wr) (by repeat (first | exact Below.refl _ _ | assumption | refine Below.setCell ?_ (by first | omega | (simp <;> omega)) _ | refine Below.alloc ?_ (by first | omega | (simp <;> omega)) _ | refine below_drewN ?_ _ | refine Below.drew ?_ | refine Below.trans ?_ (Below.mono (by assumption) (by first | omega | (simp <;> omega))))) z3 (by omega), by first | omega | (simp <;> omega), cellKeep (B := wr.heap.size) (w1 := wr) (by repeat (first | exact Below.refl _ _ | assumption | refine Below.setCell ?_ (by first | omega | (simp <;> omega)) _ | refine Below.alloc ?_ (by first | omega | (simp <;> omega)) _ | refine below_drewN ?_ _ | refine Below.drew ?_ | refine Below.trans ?_ (Below.mono (by assumption) (by first | omega | (simp <;> omega))))) q0 hl2, cellKeep (B := wr.heap.size) (w1 := wr) (by repeat (first | exact Below.refl _ _ | assumption | refine Below.setCell ?_ (by first | omega | (simp <;> omega)) _ | refine Below.alloc ?_ (by first | omega | (simp <;> omega)) _ | refine below_drewN ?_ _ | refine Below.drew ?_ | refine Below.trans ?_ (Below.mono (by assumption) (by first | omega | (simp <;> omega))))) q1 hl2, cellKeep (B := wr.heap.size) (w1 := wr) (by repeat (first | exact Below.refl _ _ | assumption | refine Below.setCell ?_ (by first | omega | (simp <;> omega)) _ | refine Below.alloc ?_ (by first | omega | (simp <;> omega)) _ | refine below_drewN ?_ _ | refine Below.drew ?_ | refine Below.trans ?_ (Below.mono (by assumption) (by first | omega | (simp <;> omega))))) q2 hl2, cellKeep (B := wr.heap.size) (w1 := wr) (by repeat (first | exact Below.refl _ _ | assumption | refine Below.setCell ?_ (by first | omega | (simp <;> omega)) _ | refine Below.alloc ?_ (by first | omega | (simp <;> omega)) _ | refine below_drewN ?_ _ | refine Below.drew ?_ | refine Below.trans ?_ (Below.mono (by assumption) (by first | omega | (simp <;> omega))))) q3 hl2, cellKeep (B := wr.heap.size) (w1 := wr) (by repeat (first | exact Below.refl _ _ | assumption | refine Below.setCell ?_ (by first | omega | (simp <;> omega)) _ | refine Below.alloc ?_ (by first | omega | (simp <;> omega)) _ | refine below_drewN ?_ _ | refine Below.drew ?_ | refine Below.trans ?_ (Below.mono (by assumption) (by first | omega | (simp <;> omega))))) q4 hl2, by first | omega | (simp <;> omega), bnext hbj (w1 := wr) (by repeat (first | exact Below.refl _ _ | assumption | refine Below.setCell ?_ (by first | omega | (simp <;> omega)) _ | refine Below.alloc ?_ (by first | omega | (simp <;> omega)) _ | refine below_drewN ?_ _ | refine Below.drew ?_ | refine Below.trans ?_ (Below.mono (by assumption) (by first | omega | (simp <;> omega))))) (Nat.le_refl _)⟩
            case measure => simp [intOf]; omega
          · have hvb : (conflictOf c r0 r1 xs[k] ys[j] != 0) = true := by simpa using hv
            have HF := hide (show clashesB c r0 r1 xs ys = true from any_hit hlt (any_hit hjl (by rw [HB.out]; simpa using hv)))
            clear hv
            go_wp2_with (go_at_call 26; refine (spec_ConflictOf_any _ _ c r0 r1 xs[k] ys[j] _ ((HR.out.keep (B' := w.heap.size) (by repeat (first | exact Below.refl _ _ | assumption | refine Below.setCell ?_ (by first | omega | (simp <;> omega)) _ | refine Below.alloc ?_ (by first | omega | (simp <;> omega)) _ | refine below_drewN ?_ _ | refine Below.drew ?_ | refine Below.trans ?_ (Below.mono (by assumption) (by first | omega | (simp <;> omega))))) (Nat.le_refl _)).mono (by first | omega | (simp <;> omega))) HP.out HQ.out hok).mono ?_; rintro e w1 ⟨rfl, hb'⟩; (first | have hb := bnext hb hb' | have hb := bnextA hb hb' | have hb := hb'); clear hb'; obtain ⟨hc, hf⟩ := bcell hb; have hz := hb.size; (try simp at hz))
            go_ret
            exact ⟨by rw [HF.out]; first | done | rfl, (by repeat (first | exact Below.refl _ _ | assumption | refine Below.setCell ?_ (by first | omega | (simp <;> omega)) _ | refine Below.alloc ?_ (by first | omega | (simp <;> omega)) _ | refine below_drewN ?_ _ | refine Below.drew ?_ | refine Below.trans ?_ (Below.mono (by assumption) (by first | omega | (simp <;> omega)))))⟩
        · obtain rfl : j = ys.length := by omega
          have HT := hide (any_end HJ.out)
          go_wp2
          go_roundw
          case rel => exact ⟨k + 1, by omega, by go_num, hide (any_step HN.out hlt HT.out), cellKeep hbj y0 (by omega), cellKeep hbj y1 (by omega), cellKeep hbj y2 (by omega), cellKeep hbj y3 (by omega), by omega, hbk⟩
          case measure => simp [intOf]; omega
    · obtain rfl : k = xs.length := by omega
      have HF := hide (any_end HN.out)
      go_wp2
      go_ret
      exact ⟨by rw [HF.out]; first | done | rfl, hb0⟩
set_option maxRecDepth 100000 in
set_option maxHeartbeats 16000000 in
theorem impl_clashes_any (v1 v2 v3 v4 : Value) (c : ChartD) (r0 : Int) (r1 : Bool) (xs ys : List PassageD) (w : World) (h : RdChart w w.heap.size v1 v2 c) (h3 : RdPassage w v3 xs) (h4 : RdPassage w v4 ys) (hxs : ∀ x ∈ xs, x.ok) (hys : ∀ x ∈ ys, x.ok) (hok : ∀ x ∈ c.points, x.name.size ≤ maxLen) (hc0 : chartOk c = true) (hg0 : inB r0 0 60 = true) :
    Calls Try.prog 90 #[.agg #[v1, v2], .agg #[.int .i64 r0, .bool r1], v3, v4] w fun e w' => e = .returned (.bool (clashesB c r0 r1 xs ys)) ∧ Below w.heap.size w w' := by
  have HR := hide h
  obtain ⟨h1, h2⟩ := h
  obtain ⟨A1, c1, rfl, hc1, hm1, h1⟩ := h1
  obtain ⟨A2, c2, rfl, hc2, hm2, h2⟩ := h2
  unfold maxLen at hm1 hm2
  clear h1 h2
  obtain ⟨A3, c3, rfl, hc3, hm3, h3⟩ := h3
  obtain ⟨A4, c4, rfl, hc4, hm4, h4⟩ := h4
  unfold maxLen at hm3 hm4
  have HXS := hide hxs; have HYS := hide hys
  have G1 := hide hc0; have G2 := hide hg0
  clear hxs hys hc0 hg0
  go_enter Try.func90, Try.ntmps90
  go_wp2
  go_loopw [15] (fun i wr => ∃ k : Nat, k ≤ xs.length ∧ i = .int .i64 k ∧ Hid ((xs.drop k).any (fun p => ys.any fun q => hitB c r0 r1 p q) = clashesB c r0 r1 xs ys) ∧ wr.cell? ⟨w.heap.size, 0, none⟩ = some (.slice A1 c.points.length c1) ∧ wr.cell? ⟨w.heap.size, 1, none⟩ = some (.slice A2 c.segs.length c2) ∧ wr.cell? ⟨w.heap.size + 1, 0, none⟩ = some (.int .i64 r0) ∧ wr.cell? ⟨w.heap.size + 1, 1, none⟩ = some (.bool r1) ∧ w.heap.size + 1 < wr.heap.size ∧ Below w.heap.size w wr) (fun i _ => xs.length - (intOf i).toNat)
  case atStart => exact ⟨0, Nat.zero_le _, rfl, hide rfl, by simp [go_sem], by simp [go_sem], by simp [go_sem], by simp [go_sem], by simp, (by repeat (first | exact Below.refl _ _ | assumption | refine Below.setCell ?_ (by first | omega | (simp <;> omega)) _ | refine Below.alloc ?_ (by first | omega | (simp <;> omega)) _ | refine below_drewN ?_ _ | refine Below.drew ?_ | refine Below.trans ?_ (Below.mono (by assumption) (by first | omega | (simp <;> omega)))))⟩
  case round =>
    obtain ⟨k, hk, rfl, HN, y0, y1, y2, y3, hl0, hb0⟩ := hrel
    obtain ⟨wo, rfl⟩ : ∃ wo : World, wo = wr := ⟨_, rfl⟩
    have hbs := hb0.size
    by_cases hlt : k < xs.length
    · obtain ⟨b3, o3, rfl, hb3, hcell3⟩ := h3 (by omega)
      have hz3 : b3 < wo.heap.size := by omega
      have e0 : wo.cell? ⟨b3, o3 + k * 5, none⟩ = some (.int .i64 xs[k].ship) := by
        rw [hb0.cell (p := ⟨b3, _, none⟩) hb3]; have := hcell3 k xs[k] (List.getElem?_eq_getElem hlt) 0 _ rfl; simpa using this
      have e1 : wo.cell? ⟨b3, o3 + k * 5 + 1, none⟩ = some (.int .i64 xs[k].segment) := by
        rw [hb0.cell (p := ⟨b3, _, none⟩) hb3]; have := hcell3 k xs[k] (List.getElem?_eq_getElem hlt) 1 _ rfl; simpa using this
      have e2 : wo.cell? ⟨b3, o3 + k * 5 + 2, none⟩ = some (.bool xs[k].toward) := by
        rw [hb0.cell (p := ⟨b3, _, none⟩) hb3]; have := hcell3 k xs[k] (List.getElem?_eq_getElem hlt) 2 _ rfl; simpa using this
      have e3 : wo.cell? ⟨b3, o3 + k * 5 + 3, none⟩ = some (.int .i64 xs[k].start) := by
        rw [hb0.cell (p := ⟨b3, _, none⟩) hb3]; have := hcell3 k xs[k] (List.getElem?_eq_getElem hlt) 3 _ rfl; simpa using this
      have e4 : wo.cell? ⟨b3, o3 + k * 5 + 4, none⟩ = some (.int .i64 xs[k].fin) := by
        rw [hb0.cell (p := ⟨b3, _, none⟩) hb3]; have := hcell3 k xs[k] (List.getElem?_eq_getElem hlt) 4 _ rfl; simpa using this
      have HP := hide (HXS.out xs[k] (List.getElem_mem hlt))
      clear h3 hcell3
      go_wp2
      go_loopw [21] (fun i wr => ∃ j : Nat, j ≤ ys.length ∧ i = .int .i64 j ∧ Hid ((ys.drop j).any (fun q => hitB c r0 r1 xs[k] q) = ys.any fun q => hitB c r0 r1 xs[k] q) ∧ wr.cell? ⟨w.heap.size, 0, none⟩ = some (.slice A1 c.points.length c1) ∧ wr.cell? ⟨w.heap.size, 1, none⟩ = some (.slice A2 c.segs.length c2) ∧ wr.cell? ⟨w.heap.size + 1, 0, none⟩ = some (.int .i64 r0) ∧ wr.cell? ⟨w.heap.size + 1, 1, none⟩ = some (.bool r1) ∧ w.heap.size + 1 < wr.heap.size ∧ wr.cell? ⟨wo.heap.size, 0, none⟩ = some (.int .i64 xs[k].ship) ∧ wr.cell? ⟨wo.heap.size, 1, none⟩ = some (.int .i64 xs[k].segment) ∧ wr.cell? ⟨wo.heap.size, 2, none⟩ = some (.bool xs[k].toward) ∧ wr.cell? ⟨wo.heap.size, 3, none⟩ = some (.int .i64 xs[k].start) ∧ wr.cell? ⟨wo.heap.size, 4, none⟩ = some (.int .i64 xs[k].fin) ∧ wo.heap.size < wr.heap.size ∧ Below wo.heap.size wo wr) (fun i _ => ys.length - (intOf i).toNat)
      case atStart => exact ⟨0, Nat.zero_le _, rfl, hide rfl, cellKeep (B := wo.heap.size) (w1 := wo) (by repeat (first | exact Below.refl _ _ | assumption | refine Below.setCell ?_ (by first | omega | (simp <;> omega)) _ | refine Below.alloc ?_ (by first | omega | (simp <;> omega)) _ | refine below_drewN ?_ _ | refine Below.drew ?_ | refine Below.trans ?_ (Below.mono (by assumption) (by first | omega | (simp <;> omega))))) y0 (by omega), cellKeep (B := wo.heap.size) (w1 := wo) (by repeat (first | exact Below.refl _ _ | assumption | refine Below.setCell ?_ (by first | omega | (simp <;> omega)) _ | refine Below.alloc ?_ (by first | omega | (simp <;> omega)) _ | refine below_drewN ?_ _ | refine Below.drew ?_ | refine Below.trans ?_ (Below.mono (by assumption) (by first | omega | (simp <;> omega))))) y1 (by omega), cellKeep (B := wo.heap.size) (w1 := wo) (by repeat (first | exact Below.refl _ _ | assumption | refine Below.setCell ?_ (by first | omega | (simp <;> omega)) _ | refine Below.alloc ?_ (by first | omega | (simp <;> omega)) _ | refine below_drewN ?_ _ | refine Below.drew ?_ | refine Below.trans ?_ (Below.mono (by assumption) (by first | omega | (simp <;> omega))))) y2 (by omega), cellKeep (B := wo.heap.size) (w1 := wo) (by repeat (first | exact Below.refl _ _ | assumption | refine Below.setCell ?_ (by first | omega | (simp <;> omega)) _ | refine Below.alloc ?_ (by first | omega | (simp <;> omega)) _ | refine below_drewN ?_ _ | refine Below.drew ?_ | refine Below.trans ?_ (Below.mono (by assumption) (by first | omega | (simp <;> omega))))) y3 (by omega), by first | omega | (simp <;> omega), by simp [go_sem], by simp [go_sem], by simp [go_sem], by simp [go_sem], by simp [go_sem], by simp, (by repeat (first | exact Below.refl _ _ | assumption | refine Below.setCell ?_ (by first | omega | (simp <;> omega)) _ | refine Below.alloc ?_ (by first | omega | (simp <;> omega)) _ | refine below_drewN ?_ _ | refine Below.drew ?_ | refine Below.trans ?_ (Below.mono (by assumption) (by first | omega | (simp <;> omega)))))⟩
      case round =>
        obtain ⟨j, hj, rfl, HJ, z0, z1, z2, z3, hl1, q0, q1, q2, q3, q4, hl2, hbj⟩ := hrel
        have hbk := bnext hb0 hbj (Nat.le_refl _)
        have hbks := hbk.size
        by_cases hjl : j < ys.length
        · obtain ⟨b4, o4, rfl, hb4, hcell4⟩ := h4 (by omega)
          have f0 : wr.cell? ⟨b4, o4 + j * 5, none⟩ = some (.int .i64 ys[j].ship) := by
            rw [hbk.cell (p := ⟨b4, _, none⟩) hb4]; have := hcell4 j ys[j] (List.getElem?_eq_getElem hjl) 0 _ rfl; simpa using this
          have f1 : wr.cell? ⟨b4, o4 + j * 5 + 1, none⟩ = some (.int .i64 ys[j].segment) := by
            rw [hbk.cell (p := ⟨b4, _, none⟩) hb4]; have := hcell4 j ys[j] (List.getElem?_eq_getElem hjl) 1 _ rfl; simpa using this
          have f2 : wr.cell? ⟨b4, o4 + j * 5 + 2, none⟩ = some (.bool ys[j].toward) := by
            rw [hbk.cell (p := ⟨b4, _, none⟩) hb4]; have := hcell4 j ys[j] (List.getElem?_eq_getElem hjl) 2 _ rfl; simpa using this
          have f3 : wr.cell? ⟨b4, o4 + j * 5 + 3, none⟩ = some (.int .i64 ys[j].start) := by
            rw [hbk.cell (p := ⟨b4, _, none⟩) hb4]; have := hcell4 j ys[j] (List.getElem?_eq_getElem hjl) 3 _ rfl; simpa using this
          have f4 : wr.cell? ⟨b4, o4 + j * 5 + 4, none⟩ = some (.int .i64 ys[j].fin) := by
            rw [hbk.cell (p := ⟨b4, _, none⟩) hb4]; have := hcell4 j ys[j] (List.getElem?_eq_getElem hjl) 4 _ rfl; simpa using this
          have hz4 : b4 < wr.heap.size := by omega
          have hz0 : w.heap.size < wr.heap.size := by omega
          have HQ := hide (HYS.out ys[j] (List.getElem_mem hjl))
          have HB := hide (show hitB c r0 r1 xs[k] ys[j] = decide (conflictOf c r0 r1 xs[k] ys[j] ≠ 0) from rfl)
          clear hcell4 h4 y0 y1 y2 y3 e0 e1 e2 e3 e4
          have HV2 := hide (show conflictV c r0 r1 xs[k] ys[j] = conflictOf c r0 r1 xs[k] ys[j] by unfold conflictOf; rw [if_pos ⟨G1.out, G2.out⟩])
          by_cases hv : conflictOf c r0 r1 xs[k] ys[j] = 0
          · have hvb : (conflictOf c r0 r1 xs[k] ys[j] != 0) = false := by simp [hv]
            have HF := hide (show hitB c r0 r1 xs[k] ys[j] = false by rw [HB.out]; simp [hv])
            clear hv
            go_wp2_with (go_at_call 83; refine (calls_intC (conflict_v _ _ c r0 r1 xs[k] ys[j] _ ((HR.out.keep (B' := w.heap.size) (by repeat (first | exact Below.refl _ _ | assumption | refine Below.setCell ?_ (by first | omega | (simp <;> omega)) _ | refine Below.alloc ?_ (by first | omega | (simp <;> omega)) _ | refine below_drewN ?_ _ | refine Below.drew ?_ | refine Below.trans ?_ (Below.mono (by assumption) (by first | omega | (simp <;> omega))))) (Nat.le_refl _)).mono (by first | omega | (simp <;> omega))) G1.out G2.out HP.out HQ.out) HV2.out).mono ?_; rintro e w1 ⟨rfl, hb'⟩; (first | have hb := bnext hb hb' | have hb := bnextA hb hb' | have hb := hb'); clear hb'; obtain ⟨hc, hf⟩ := bcell hb; have hz := hb.size; (try simp at hz))
            go_roundw
            case rel => exact ⟨j + 1, by omega, by go_num, hide (any_step HJ.out hjl HF.out), cellKeep (B := wr.heap.size) (w1 := wr) (by repeat (first | exact Below.refl _ _ | assumption | refine Below.setCell ?_ (by first | omega | (simp <;> omega)) _ | refine Below.alloc ?_ (by first | omega | (simp <;> omega)) _ | refine below_drewN ?_ _ | refine Below.drew ?_ | refine Below.trans ?_ (Below.mono (by assumption) (by first | omega | (simp <;> omega))))) z0 (by omega), cellKeep (B := wr.heap.size) (w1 := wr) (by repeat (first | exact Below.refl _ _ | assumption | refine Below.setCell ?_ (by first | omega | (simp <;> omega)) _ | refine Below.alloc ?_ (by first | omega | (simp <;> omega)) _ | refine below_drewN ?_ _ | refine Below.drew ?_ | refine Below.trans ?_ (Below.mono (by assumption) (by first | omega | (simp <;> omega))))) z1 (by omega), cellKeep (B := wr.heap.size) (w1 := wr) (by repeat (first | exact Below.refl _ _ | assumption | refine Below.setCell ?_ (by first | omega | (simp <;> omega)) _ | refine Below.alloc ?_ (by first | omega | (simp <;> omega)) _ | refine below_drewN ?_ _ | refine Below.drew ?_ | refine Below.trans ?_ (Below.mono (by assumption) (by first | omega | (simp <;> omega))))) z2 (by omega), cellKeep (B := wr.heap.size) (w1 := wr) (by repeat (first | exact Below.refl _ _ | assumption | refine Below.setCell ?_ (by first | omega | (simp <;> omega)) _ | refine Below.alloc ?_ (by first | omega | (simp <;> omega)) _ | refine below_drewN ?_ _ | refine Below.drew ?_ | refine Below.trans ?_ (Below.mono (by assumption) (by first | omega | (simp <;> omega))))) z3 (by omega), by first | omega | (simp <;> omega), cellKeep (B := wr.heap.size) (w1 := wr) (by repeat (first | exact Below.refl _ _ | assumption | refine Below.setCell ?_ (by first | omega | (simp <;> omega)) _ | refine Below.alloc ?_ (by first | omega | (simp <;> omega)) _ | refine below_drewN ?_ _ | refine Below.drew ?_ | refine Below.trans ?_ (Below.mono (by assumption) (by first | omega | (simp <;> omega))))) q0 hl2, cellKeep (B := wr.heap.size) (w1 := wr) (by repeat (first | exact Below.refl _ _ | assumption | refine Below.setCell ?_ (by first | omega | (simp <;> omega)) _ | refine Below.alloc ?_ (by first | omega | (simp <;> omega)) _ | refine below_drewN ?_ _ | refine Below.drew ?_ | refine Below.trans ?_ (Below.mono (by assumption) (by first | omega | (simp <;> omega))))) q1 hl2, cellKeep (B := wr.heap.size) (w1 := wr) (by repeat (first | exact Below.refl _ _ | assumption | refine Below.setCell ?_ (by first | omega | (simp <;> omega)) _ | refine Below.alloc ?_ (by first | omega | (simp <;> omega)) _ | refine below_drewN ?_ _ | refine Below.drew ?_ | refine Below.trans ?_ (Below.mono (by assumption) (by first | omega | (simp <;> omega))))) q2 hl2, cellKeep (B := wr.heap.size) (w1 := wr) (by repeat (first | exact Below.refl _ _ | assumption | refine Below.setCell ?_ (by first | omega | (simp <;> omega)) _ | refine Below.alloc ?_ (by first | omega | (simp <;> omega)) _ | refine below_drewN ?_ _ | refine Below.drew ?_ | refine Below.trans ?_ (Below.mono (by assumption) (by first | omega | (simp <;> omega))))) q3 hl2, cellKeep (B := wr.heap.size) (w1 := wr) (by repeat (first | exact Below.refl _ _ | assumption | refine Below.setCell ?_ (by first | omega | (simp <;> omega)) _ | refine Below.alloc ?_ (by first | omega | (simp <;> omega)) _ | refine below_drewN ?_ _ | refine Below.drew ?_ | refine Below.trans ?_ (Below.mono (by assumption) (by first | omega | (simp <;> omega))))) q4 hl2, by first | omega | (simp <;> omega), bnext hbj (w1 := wr) (by repeat (first | exact Below.refl _ _ | assumption | refine Below.setCell ?_ (by first | omega | (simp <;> omega)) _ | refine Below.alloc ?_ (by first | omega | (simp <;> omega)) _ | refine below_drewN ?_ _ | refine Below.drew ?_ | refine Below.trans ?_ (Below.mono (by assumption) (by first | omega | (simp <;> omega))))) (Nat.le_refl _)⟩
            case measure => simp [intOf]; omega
          · have hvb : (conflictOf c r0 r1 xs[k] ys[j] != 0) = true := by simpa using hv
            have HF := hide (show clashesB c r0 r1 xs ys = true from any_hit hlt (any_hit hjl (by rw [HB.out]; simpa using hv)))
            clear hv
            go_wp2_with (go_at_call 83; refine (calls_intC (conflict_v _ _ c r0 r1 xs[k] ys[j] _ ((HR.out.keep (B' := w.heap.size) (by repeat (first | exact Below.refl _ _ | assumption | refine Below.setCell ?_ (by first | omega | (simp <;> omega)) _ | refine Below.alloc ?_ (by first | omega | (simp <;> omega)) _ | refine below_drewN ?_ _ | refine Below.drew ?_ | refine Below.trans ?_ (Below.mono (by assumption) (by first | omega | (simp <;> omega))))) (Nat.le_refl _)).mono (by first | omega | (simp <;> omega))) G1.out G2.out HP.out HQ.out) HV2.out).mono ?_; rintro e w1 ⟨rfl, hb'⟩; (first | have hb := bnext hb hb' | have hb := bnextA hb hb' | have hb := hb'); clear hb'; obtain ⟨hc, hf⟩ := bcell hb; have hz := hb.size; (try simp at hz))
            go_ret
            exact ⟨by rw [HF.out]; first | done | rfl, (by repeat (first | exact Below.refl _ _ | assumption | refine Below.setCell ?_ (by first | omega | (simp <;> omega)) _ | refine Below.alloc ?_ (by first | omega | (simp <;> omega)) _ | refine below_drewN ?_ _ | refine Below.drew ?_ | refine Below.trans ?_ (Below.mono (by assumption) (by first | omega | (simp <;> omega)))))⟩
        · obtain rfl : j = ys.length := by omega
          have HT := hide (any_end HJ.out)
          go_wp2
          go_roundw
          case rel => exact ⟨k + 1, by omega, by go_num, hide (any_step HN.out hlt HT.out), cellKeep hbj y0 (by omega), cellKeep hbj y1 (by omega), cellKeep hbj y2 (by omega), cellKeep hbj y3 (by omega), by omega, hbk⟩
          case measure => simp [intOf]; omega
    · obtain rfl : k = xs.length := by omega
      have HF := hide (any_end HN.out)
      go_wp2
      go_ret
      exact ⟨by rw [HF.out]; first | done | rfl, hb0⟩
set_option maxRecDepth 100000 in
set_option maxHeartbeats 8000000 in
theorem impl_Clashes_any (v1 v2 v3 v4 : Value) (c : ChartD) (r0 : Int) (r1 : Bool) (xs ys : List PassageD) (w : World) (h : RdChart w w.heap.size v1 v2 c) (h3 : RdPassage w v3 xs) (h4 : RdPassage w v4 ys) (hxs : ∀ x ∈ xs, x.ok) (hys : ∀ x ∈ ys, x.ok) (hok : ∀ x ∈ c.points, x.name.size ≤ maxLen) :
    Calls Try.prog 42 #[.agg #[v1, v2], .agg #[.int .i64 r0, .bool r1], v3, v4] w fun e w' => e = .returned (.bool (clashesB c r0 r1 xs ys)) ∧ Below w.heap.size w w' := by
  have HR := hide h
  obtain ⟨h1, h2⟩ := h
  obtain ⟨A1, c1, rfl, hc1, hm1, h1⟩ := h1
  obtain ⟨A2, c2, rfl, hc2, hm2, h2⟩ := h2
  unfold maxLen at hm1 hm2
  clear h1 h2
  have H3 := hide h3; have H4 := hide h4
  obtain ⟨A3, c3, rfl, hc3, hm3, h3⟩ := h3
  obtain ⟨A4, c4, rfl, hc4, hm4, h4⟩ := h4
  clear h3 h4
  rcases ch2 (chartOk c) (inB r0 0 60) with ⟨g1, g2⟩ | g1 | ⟨g1, g2⟩
  · have G1 := hide g1; have G2 := hide g2
    go_enter Try.func42, Try.ntmps42
    go_wp2_with (first
      | (go_at_call 70; refine (impl_ChartOk_any _ _ c _ ((HR.out.keep (B' := w.heap.size) (by repeat (first | exact Below.refl _ _ | assumption | refine Below.setCell ?_ (by first | omega | (simp <;> omega)) _ | refine Below.alloc ?_ (by first | omega | (simp <;> omega)) _ | refine below_drewN ?_ _ | refine Below.drew ?_ | refine Below.trans ?_ (Below.mono (by assumption) (by first | omega | (simp <;> omega))))) (Nat.le_refl _)).mono (by first | omega | (simp <;> omega))) hok).mono ?_; rintro e w1 ⟨rfl, hb'⟩; (first | have hb := bnext hb hb' | have hb := bnextA hb hb' | have hb := hb'); clear hb'; obtain ⟨hc, hf⟩ := bcell hb; have hz := hb.size; (try simp at hz))
      | (go_at_call 59; refine (impl_RegimeOk_any _ _ _).mono ?_; rintro e w1 ⟨rfl, hb'⟩; (first | have hb := bnext hb hb' | have hb := bnextA hb hb' | have hb := hb'); clear hb'; obtain ⟨hc, hf⟩ := bcell hb; have hz := hb.size; (try simp at hz))
      | (go_at_call 90; refine (impl_clashes_any _ _ _ _ c r0 r1 xs ys _ ((HR.out.keep (B' := w.heap.size) (by repeat (first | exact Below.refl _ _ | assumption | refine Below.setCell ?_ (by first | omega | (simp <;> omega)) _ | refine Below.alloc ?_ (by first | omega | (simp <;> omega)) _ | refine below_drewN ?_ _ | refine Below.drew ?_ | refine Below.trans ?_ (Below.mono (by assumption) (by first | omega | (simp <;> omega))))) (Nat.le_refl _)).mono (by first | omega | (simp <;> omega))) ((H3.out.keep (B' := w.heap.size) (by repeat (first | exact Below.refl _ _ | assumption | refine Below.setCell ?_ (by first | omega | (simp <;> omega)) _ | refine Below.alloc ?_ (by first | omega | (simp <;> omega)) _ | refine below_drewN ?_ _ | refine Below.drew ?_ | refine Below.trans ?_ (Below.mono (by assumption) (by first | omega | (simp <;> omega))))) (Nat.le_refl _)).mono (by first | omega | (simp <;> omega))) ((H4.out.keep (B' := w.heap.size) (by repeat (first | exact Below.refl _ _ | assumption | refine Below.setCell ?_ (by first | omega | (simp <;> omega)) _ | refine Below.alloc ?_ (by first | omega | (simp <;> omega)) _ | refine below_drewN ?_ _ | refine Below.drew ?_ | refine Below.trans ?_ (Below.mono (by assumption) (by first | omega | (simp <;> omega))))) (Nat.le_refl _)).mono (by first | omega | (simp <;> omega))) hxs hys hok G1.out G2.out).mono ?_; rintro e w1 ⟨rfl, hb'⟩; (first | have hb := bnext hb hb' | have hb := bnextA hb hb' | have hb := hb'); clear hb'; obtain ⟨hc, hf⟩ := bcell hb; have hz := hb.size; (try simp at hz)))
    go_ret
    exact ⟨rfl, (by repeat (first | exact Below.refl _ _ | assumption | refine Below.setCell ?_ (by first | omega | (simp <;> omega)) _ | refine Below.alloc ?_ (by first | omega | (simp <;> omega)) _ | refine below_drewN ?_ _ | refine Below.drew ?_ | refine Below.trans ?_ (Below.mono (by assumption) (by first | omega | (simp <;> omega)))))⟩
  all_goals
    have HV := hide (clashes_bad (c := c) (r0 := r0) (r1 := r1) (xs := xs) (ys := ys) (by simp [*]))
    go_enter Try.func42, Try.ntmps42
    go_wp2_with (first
      | (go_at_call 70; refine (impl_ChartOk_any _ _ c _ ((HR.out.keep (B' := w.heap.size) (by repeat (first | exact Below.refl _ _ | assumption | refine Below.setCell ?_ (by first | omega | (simp <;> omega)) _ | refine Below.alloc ?_ (by first | omega | (simp <;> omega)) _ | refine below_drewN ?_ _ | refine Below.drew ?_ | refine Below.trans ?_ (Below.mono (by assumption) (by first | omega | (simp <;> omega))))) (Nat.le_refl _)).mono (by first | omega | (simp <;> omega))) hok).mono ?_; rintro e w1 ⟨rfl, hb'⟩; (first | have hb := bnext hb hb' | have hb := bnextA hb hb' | have hb := hb'); clear hb'; obtain ⟨hc, hf⟩ := bcell hb; have hz := hb.size; (try simp at hz))
      | (go_at_call 59; refine (impl_RegimeOk_any _ _ _).mono ?_; rintro e w1 ⟨rfl, hb'⟩; (first | have hb := bnext hb hb' | have hb := bnextA hb hb' | have hb := hb'); clear hb'; obtain ⟨hc, hf⟩ := bcell hb; have hz := hb.size; (try simp at hz)))
    go_ret
    exact ⟨by rw [HV.out]; first | done | rfl, (by repeat (first | exact Below.refl _ _ | assumption | refine Below.setCell ?_ (by first | omega | (simp <;> omega)) _ | refine Below.alloc ?_ (by first | omega | (simp <;> omega)) _ | refine below_drewN ?_ _ | refine Below.drew ?_ | refine Below.trans ?_ (Below.mono (by assumption) (by first | omega | (simp <;> omega)))))⟩
end Go.Proofs.Ytefidlecandnlaa
