/- Ships on segments: minutes, levels. No condition. -/
import Derived.Test.YtpbcbdjjpkenjaaChart
import Derived.Test.YtpbcbdjjpkenjaaChartL
import Derived.Test.YtpbcbdjjpkenjaaNeed
namespace Go.Proofs.Ytpbcbdjjpkenjaa
open Go.RowKit
set_option linter.unusedVariables false

def need (s : ShipD) : Int := s.draught + squat s + 50
def segAt (c : ChartD) (k : Int) : SegmentD := c.segs.getD k.toNat default
def shipMinutes (g : SegmentD) (s : ShipD) : Int := if s.slow = true then 2 * g.minutes else g.minutes
def onSeg (c : ChartD) (k : Int) (s : ShipD) : Bool := chartOk c && shipOk s && inB k 0 ((c.segs.length : Int) - 1)
def minutesOn (c : ChartD) (k : Int) (s : ShipD) : Int := if onSeg c k s = true then shipMinutes (segAt c k) s else 0
def levelFor (c : ChartD) (k : Int) (s : ShipD) : Int := if onSeg c k s = true then need s - (segAt c k).depth else 0
def isAfloat (c : ChartD) (k : Int) (s : ShipD) (l : Int) : Bool := onSeg c k s && decide (levelFor c k s ≤ l)
theorem segAt_nat {c : ChartD} {a : Nat} (h : a < c.segs.length) : segAt c (a : Int) = c.segs[a] := by unfold segAt; rw [Int.toNat_natCast, getD_at h]
theorem idx_nat {n : Int} {m : Nat} (h : inB n 0 ((m : Int) - 1) = true) : ∃ a : Nat, n = a ∧ a < m := by simp [inB] at h; exact ⟨n.toNat, by omega, by omega⟩
theorem onSeg_iff {c : ChartD} {k : Int} {s : ShipD} (h : onSeg c k s = true) : chartOk c = true ∧ shipOk s = true ∧ ∃ a : Nat, k = a ∧ a < c.segs.length := by
  unfold onSeg at h; simp only [Bool.and_eq_true] at h; exact ⟨h.1.1, h.1.2, idx_nat h.2⟩
theorem shipMinutes_range {g : SegmentD} {s : ShipD} (h0 : 1 ≤ g.minutes) (h1 : g.minutes ≤ 240) : 1 ≤ shipMinutes g s ∧ shipMinutes g s ≤ 480 := by unfold shipMinutes; split <;> omega
theorem need_range {s : ShipD} (h : shipOk s = true) : 152 ≤ need s ∧ need s ≤ 2150 := by
  have h1 := shipOk_of h; have h2 := squat_range h; unfold need; omega
theorem calls_int {P : Program} {f : FuncId} {args : Array Value} {w : World} {R : World → Prop} {b c : Int} (h : Calls P f args w fun e w' => e = .returned (.int .i64 b) ∧ R w') (hb : b = c) : Calls P f args w fun e w' => e = .returned (.int .i64 c) ∧ R w' := hb ▸ h
set_option maxHeartbeats 2000000 in
theorem l06Minutes_any (g : SegmentD) (s : ShipD) (w : World) (h0 : 1 ≤ g.minutes) (h1 : g.minutes ≤ 240) :
    Calls Try.prog 110 #[g.val, s.val] w fun e w' => e = .returned (.int .i64 (shipMinutes g s)) ∧ Below w.heap.size w w' := by
  obtain ⟨g0, g1, g2, g3, g4⟩ := g
  obtain ⟨x0, x1, x2, x3, x4, x5⟩ := s
  simp only at h0 h1
  cases x5
  all_goals
    go_enter Try.func110, Try.ntmps110
    go_wp2
    go_ret
    exact ⟨ret_int (by simp [shipMinutes]), (by repeat (first | exact Below.refl _ _ | assumption | refine Below.setCell ?_ (by first | omega | (simp <;> omega)) _ | refine Below.alloc ?_ (by first | omega | (simp <;> omega)) _ | refine below_drewN ?_ _ | refine Below.drew ?_ | refine Below.trans ?_ (Below.mono (by assumption) (by first | omega | (simp <;> omega)))))⟩
set_option maxHeartbeats 2000000 in
theorem minutes_any (g : SegmentD) (s : ShipD) (w : World) (h0 : 1 ≤ g.minutes) (h1 : g.minutes ≤ 240) :
    Calls Try.prog 50 #[s.val, g.val] w fun e w' => e = .returned (.int .i64 (shipMinutes g s)) ∧ Below w.heap.size w w' := by
  obtain ⟨g0, g1, g2, g3, g4⟩ := g
  obtain ⟨x0, x1, x2, x3, x4, x5⟩ := s
  simp only at h0 h1
  cases x5
  all_goals
    go_enter Try.func50, Try.ntmps50
    go_wp2
    go_ret
    exact ⟨ret_int (by simp [shipMinutes]), (by repeat (first | exact Below.refl _ _ | assumption | refine Below.setCell ?_ (by first | omega | (simp <;> omega)) _ | refine Below.alloc ?_ (by first | omega | (simp <;> omega)) _ | refine below_drewN ?_ _ | refine Below.drew ?_ | refine Below.trans ?_ (Below.mono (by assumption) (by first | omega | (simp <;> omega)))))⟩
set_option maxRecDepth 100000 in
set_option maxHeartbeats 4000000 in
theorem spec_MinutesOn_any (v1 v2 : Value) (c : ChartD) (k : Int) (s : ShipD) (w : World) (h : RdChart w w.heap.size v1 v2 c) (hok : ∀ x ∈ c.points, x.name.size ≤ maxLen) (hs : s.name.size ≤ maxLen) :
    Calls Try.prog 69 #[.agg #[v1, v2], .int .i64 k, s.val] w fun e w' => e = .returned (.int .i64 (minutesOn c k s)) ∧ Below w.heap.size w w' := by
  have HR := hide h
  obtain ⟨h1, h2⟩ := h
  obtain ⟨A1, c1, rfl, hc1, hm1, h1⟩ := h1
  obtain ⟨A2, c2, rfl, hc2, hm2, h2⟩ := h2
  unfold maxLen at hm1 hm2
  clear h1
  have hl2 : (c.segs.length : Int) ≤ 9223372036854775807 := by omega
  obtain ⟨x0, x1, x2, x3, x4, x5⟩ := s
  rcases ch3 (chartOk c) (shipOk ⟨x0, x1, x2, x3, x4, x5⟩) (inB k 0 ((c.segs.length : Int) - 1)) with ⟨g1, g2, g3⟩ | g1 | ⟨g1, g2⟩ | ⟨g1, g2, g3⟩
  · have HV := hide (show minutesOn c k ⟨x0, x1, x2, x3, x4, x5⟩ = shipMinutes (segAt c k) ⟨x0, x1, x2, x3, x4, x5⟩ by unfold minutesOn onSeg; rw [g1, g2, g3]; rfl)
    obtain ⟨a, rfl, ha⟩ := idx_nat g3
    have HA := hide (segAt_nat ha)
    obtain ⟨-, -, -, -, -, -, -, hq1, hq2⟩ := chart_seg g1 ha
    obtain ⟨b2, o2, rfl, hb2, hcell2⟩ := h2 (by omega)
    have hrr := Below.refl w.heap.size w
    have e0 : w.cell? ⟨b2, o2 + a * 5, none⟩ = some (.int .i64 c.segs[a].a) := by
      rw [hrr.cell (p := ⟨b2, _, none⟩) hb2]; have := hcell2 a c.segs[a] (List.getElem?_eq_getElem ha) 0 _ rfl; simpa using this
    have e1 : w.cell? ⟨b2, o2 + a * 5 + 1, none⟩ = some (.int .i64 c.segs[a].b) := by
      rw [hrr.cell (p := ⟨b2, _, none⟩) hb2]; have := hcell2 a c.segs[a] (List.getElem?_eq_getElem ha) 1 _ rfl; simpa using this
    have e2 : w.cell? ⟨b2, o2 + a * 5 + 2, none⟩ = some (.int .i64 c.segs[a].depth) := by
      rw [hrr.cell (p := ⟨b2, _, none⟩) hb2]; have := hcell2 a c.segs[a] (List.getElem?_eq_getElem ha) 2 _ rfl; simpa using this
    have e3 : w.cell? ⟨b2, o2 + a * 5 + 3, none⟩ = some (.int .i64 c.segs[a].minutes) := by
      rw [hrr.cell (p := ⟨b2, _, none⟩) hb2]; have := hcell2 a c.segs[a] (List.getElem?_eq_getElem ha) 3 _ rfl; simpa using this
    have e4 : w.cell? ⟨b2, o2 + a * 5 + 4, none⟩ = some (.bool c.segs[a].meet) := by
      rw [hrr.cell (p := ⟨b2, _, none⟩) hb2]; have := hcell2 a c.segs[a] (List.getElem?_eq_getElem ha) 4 _ rfl; simpa using this
    have hz2 : b2 < w.heap.size + 1 + 1 := by omega
    have ha' : (a : Int) < c.segs.length := by omega
    clear hcell2 h2 hrr
    go_enter Try.func69, Try.ntmps69
    go_wp2_with (first
      | (go_at_call 108; refine (spec_ChartOk_any _ _ c _ ((HR.out.keep (B' := w.heap.size) (by repeat (first | exact Below.refl _ _ | assumption | refine Below.setCell ?_ (by first | omega | (simp <;> omega)) _ | refine Below.alloc ?_ (by first | omega | (simp <;> omega)) _ | refine below_drewN ?_ _ | refine Below.drew ?_ | refine Below.trans ?_ (Below.mono (by assumption) (by first | omega | (simp <;> omega))))) (Nat.le_refl _)).mono (by first | omega | (simp <;> omega))) hok).mono ?_; rintro e w1 ⟨rfl, hb'⟩; (first | have hb := bnext hb hb' | have hb := bnextA hb hb' | have hb := hb'); clear hb'; obtain ⟨hc, hf⟩ := bcell hb; have hz := hb.size; (try simp at hz))
      | (go_at_call 109; refine (spec_ShipOk_any _ _ _ _ _ _ _ hs).mono ?_; rintro e w1 ⟨rfl, hb'⟩; (first | have hb := bnext hb hb' | have hb := bnextA hb hb' | have hb := hb'); clear hb'; obtain ⟨hc, hf⟩ := bcell hb; have hz := hb.size; (try simp at hz))
      | (go_at_call 68; refine (l01In_any _ _ _ _).mono ?_; rintro e w1 ⟨rfl, hw⟩; obtain rfl := hw.symm))
    refine wp_region_below hb (by kernel_rfl) (by kernel_rfl) ?_
    repeat (first
      | go_big_quiet_skip
      | (go_big_quiet_want
         first
          | (refine quiet_value ?_; apply Exists.intro
             refine ⟨fun wq hq => ?_, ?_⟩
             · (obtain ⟨hc, hf⟩ := bcell hq; go_simp; first | done | rfl)
             go_big_quiet_on
             simp only [Act.put, List.setIfInBounds_toArray, List.set_cons_zero, List.set_cons_succ])
          | (refine quiet_call ?_; apply Exists.intro; apply Exists.intro; apply Exists.intro
             refine ⟨fun wq hq => ?_, fun wq hq => ?_, ?_⟩
             · (obtain ⟨hc, hf⟩ := bcell hq; go_simp; exact ⟨rfl, rfl⟩)
             · (first | with_reducible exact (l06Minutes_any c.segs[a] ⟨x0, x1, x2, x3, x4, x5⟩ _ hq1 hq2).mono fun e w'' ⟨he, hw⟩ => ⟨he, hw ▸ hq⟩ | with_reducible exact (l06Minutes_any c.segs[a] ⟨x0, x1, x2, x3, x4, x5⟩ _ hq1 hq2).mono fun e w'' ⟨he, hb'⟩ => ⟨he, bnext hq hb'⟩ |  exact (l06Minutes_any c.segs[a] ⟨x0, x1, x2, x3, x4, x5⟩ _ hq1 hq2).mono fun e w'' ⟨he, hb'⟩ => ⟨he, bnext hq hb'⟩ |  exact (l06Minutes_any c.segs[a] ⟨x0, x1, x2, x3, x4, x5⟩ _ hq1 hq2).mono fun e w'' ⟨he, hw⟩ => ⟨he, hw ▸ hq⟩)
             go_big_quiet_on
             simp only [Act.put, List.setIfInBounds_toArray, List.set_cons_zero, List.set_cons_succ])
          | (go_big_quiet_op; go_big_quiet_on)
         ))
    refine wpQuiet_nil (fun w1 hb' => ?_)
    obtain ⟨hc, hf⟩ := bcell hb'
    have hz := hb'.size; (try simp at hz)
    go_wp2
    go_ret
    exact ⟨by rw [HV.out, HA.out]; first | done | rfl, (by repeat (first | exact Below.refl _ _ | assumption | refine Below.setCell ?_ (by first | omega | (simp <;> omega)) _ | refine Below.alloc ?_ (by first | omega | (simp <;> omega)) _ | refine below_drewN ?_ _ | refine Below.drew ?_ | refine Below.trans ?_ (Below.mono (by assumption) (by first | omega | (simp <;> omega)))))⟩
  all_goals
    have HV := hide (show minutesOn c k ⟨x0, x1, x2, x3, x4, x5⟩ = 0 by unfold minutesOn onSeg; simp [*])
    clear h2
    go_enter Try.func69, Try.ntmps69
    go_wp2_with (first
      | (go_at_call 108; refine (spec_ChartOk_any _ _ c _ ((HR.out.keep (B' := w.heap.size) (by repeat (first | exact Below.refl _ _ | assumption | refine Below.setCell ?_ (by first | omega | (simp <;> omega)) _ | refine Below.alloc ?_ (by first | omega | (simp <;> omega)) _ | refine below_drewN ?_ _ | refine Below.drew ?_ | refine Below.trans ?_ (Below.mono (by assumption) (by first | omega | (simp <;> omega))))) (Nat.le_refl _)).mono (by first | omega | (simp <;> omega))) hok).mono ?_; rintro e w1 ⟨rfl, hb'⟩; (first | have hb := bnext hb hb' | have hb := bnextA hb hb' | have hb := hb'); clear hb'; obtain ⟨hc, hf⟩ := bcell hb; have hz := hb.size; (try simp at hz))
      | (go_at_call 109; refine (spec_ShipOk_any _ _ _ _ _ _ _ hs).mono ?_; rintro e w1 ⟨rfl, hb'⟩; (first | have hb := bnext hb hb' | have hb := bnextA hb hb' | have hb := hb'); clear hb'; obtain ⟨hc, hf⟩ := bcell hb; have hz := hb.size; (try simp at hz))
      | (go_at_call 68; refine (l01In_any _ _ _ _).mono ?_; rintro e w1 ⟨rfl, hw⟩; obtain rfl := hw.symm))
    go_ret
    exact ⟨by rw [HV.out]; first | done | rfl, (by repeat (first | exact Below.refl _ _ | assumption | refine Below.setCell ?_ (by first | omega | (simp <;> omega)) _ | refine Below.alloc ?_ (by first | omega | (simp <;> omega)) _ | refine below_drewN ?_ _ | refine Below.drew ?_ | refine Below.trans ?_ (Below.mono (by assumption) (by first | omega | (simp <;> omega)))))⟩
set_option maxRecDepth 100000 in
set_option maxHeartbeats 4000000 in
theorem impl_MinutesOn_any (v1 v2 : Value) (c : ChartD) (k : Int) (s : ShipD) (w : World) (h : RdChart w w.heap.size v1 v2 c) (hok : ∀ x ∈ c.points, x.name.size ≤ maxLen) (hs : s.name.size ≤ maxLen) :
    Calls Try.prog 12 #[.agg #[v1, v2], .int .i64 k, s.val] w fun e w' => e = .returned (.int .i64 (minutesOn c k s)) ∧ Below w.heap.size w w' := by
  have HR := hide h
  obtain ⟨h1, h2⟩ := h
  obtain ⟨A1, c1, rfl, hc1, hm1, h1⟩ := h1
  obtain ⟨A2, c2, rfl, hc2, hm2, h2⟩ := h2
  unfold maxLen at hm1 hm2
  clear h1
  have hl2 : (c.segs.length : Int) ≤ 9223372036854775807 := by omega
  obtain ⟨x0, x1, x2, x3, x4, x5⟩ := s
  rcases ch3 (chartOk c) (shipOk ⟨x0, x1, x2, x3, x4, x5⟩) (inB k 0 ((c.segs.length : Int) - 1)) with ⟨g1, g2, g3⟩ | g1 | ⟨g1, g2⟩ | ⟨g1, g2, g3⟩
  · have HV := hide (show minutesOn c k ⟨x0, x1, x2, x3, x4, x5⟩ = shipMinutes (segAt c k) ⟨x0, x1, x2, x3, x4, x5⟩ by unfold minutesOn onSeg; rw [g1, g2, g3]; rfl)
    obtain ⟨a, rfl, ha⟩ := idx_nat g3
    have HA := hide (segAt_nat ha)
    obtain ⟨-, -, -, -, -, -, -, hq1, hq2⟩ := chart_seg g1 ha
    obtain ⟨b2, o2, rfl, hb2, hcell2⟩ := h2 (by omega)
    have hrr := Below.refl w.heap.size w
    have e0 : w.cell? ⟨b2, o2 + a * 5, none⟩ = some (.int .i64 c.segs[a].a) := by
      rw [hrr.cell (p := ⟨b2, _, none⟩) hb2]; have := hcell2 a c.segs[a] (List.getElem?_eq_getElem ha) 0 _ rfl; simpa using this
    have e1 : w.cell? ⟨b2, o2 + a * 5 + 1, none⟩ = some (.int .i64 c.segs[a].b) := by
      rw [hrr.cell (p := ⟨b2, _, none⟩) hb2]; have := hcell2 a c.segs[a] (List.getElem?_eq_getElem ha) 1 _ rfl; simpa using this
    have e2 : w.cell? ⟨b2, o2 + a * 5 + 2, none⟩ = some (.int .i64 c.segs[a].depth) := by
      rw [hrr.cell (p := ⟨b2, _, none⟩) hb2]; have := hcell2 a c.segs[a] (List.getElem?_eq_getElem ha) 2 _ rfl; simpa using this
    have e3 : w.cell? ⟨b2, o2 + a * 5 + 3, none⟩ = some (.int .i64 c.segs[a].minutes) := by
      rw [hrr.cell (p := ⟨b2, _, none⟩) hb2]; have := hcell2 a c.segs[a] (List.getElem?_eq_getElem ha) 3 _ rfl; simpa using this
    have e4 : w.cell? ⟨b2, o2 + a * 5 + 4, none⟩ = some (.bool c.segs[a].meet) := by
      rw [hrr.cell (p := ⟨b2, _, none⟩) hb2]; have := hcell2 a c.segs[a] (List.getElem?_eq_getElem ha) 4 _ rfl; simpa using this
    have hz2 : b2 < w.heap.size + 1 + 1 := by omega
    have ha' : (a : Int) < c.segs.length := by omega
    clear hcell2 h2 hrr
    go_enter Try.func12, Try.ntmps12
    go_wp2_with (first
      | (go_at_call 47; refine (impl_ChartOk_any _ _ c _ ((HR.out.keep (B' := w.heap.size) (by repeat (first | exact Below.refl _ _ | assumption | refine Below.setCell ?_ (by first | omega | (simp <;> omega)) _ | refine Below.alloc ?_ (by first | omega | (simp <;> omega)) _ | refine below_drewN ?_ _ | refine Below.drew ?_ | refine Below.trans ?_ (Below.mono (by assumption) (by first | omega | (simp <;> omega))))) (Nat.le_refl _)).mono (by first | omega | (simp <;> omega))) hok).mono ?_; rintro e w1 ⟨rfl, hb'⟩; (first | have hb := bnext hb hb' | have hb := bnextA hb hb' | have hb := hb'); clear hb'; obtain ⟨hc, hf⟩ := bcell hb; have hz := hb.size; (try simp at hz))
      | (go_at_call 48; refine (impl_ShipOk_any _ _ _ _ _ _ _ hs).mono ?_; rintro e w1 ⟨rfl, hb'⟩; (first | have hb := bnext hb hb' | have hb := bnextA hb hb' | have hb := hb'); clear hb'; obtain ⟨hc, hf⟩ := bcell hb; have hz := hb.size; (try simp at hz))
      | (go_at_call 49; refine (isIndexB _ _ ((c.segs.length : Int) - 1) _ (by omega)).mono ?_; rintro e w1 ⟨rfl, hw⟩; obtain rfl := hw.symm))
    refine wp_region_below hb (by kernel_rfl) (by kernel_rfl) ?_
    repeat (first
      | go_big_quiet_skip
      | (go_big_quiet_want
         first
          | (refine quiet_value ?_; apply Exists.intro
             refine ⟨fun wq hq => ?_, ?_⟩
             · (obtain ⟨hc, hf⟩ := bcell hq; go_simp; first | done | rfl)
             go_big_quiet_on
             simp only [Act.put, List.setIfInBounds_toArray, List.set_cons_zero, List.set_cons_succ])
          | (refine quiet_call ?_; apply Exists.intro; apply Exists.intro; apply Exists.intro
             refine ⟨fun wq hq => ?_, fun wq hq => ?_, ?_⟩
             · (obtain ⟨hc, hf⟩ := bcell hq; go_simp; exact ⟨rfl, rfl⟩)
             · (first | with_reducible exact (minutes_any c.segs[a] ⟨x0, x1, x2, x3, x4, x5⟩ _ hq1 hq2).mono fun e w'' ⟨he, hw⟩ => ⟨he, hw ▸ hq⟩ | with_reducible exact (minutes_any c.segs[a] ⟨x0, x1, x2, x3, x4, x5⟩ _ hq1 hq2).mono fun e w'' ⟨he, hb'⟩ => ⟨he, bnext hq hb'⟩ |  exact (minutes_any c.segs[a] ⟨x0, x1, x2, x3, x4, x5⟩ _ hq1 hq2).mono fun e w'' ⟨he, hb'⟩ => ⟨he, bnext hq hb'⟩ |  exact (minutes_any c.segs[a] ⟨x0, x1, x2, x3, x4, x5⟩ _ hq1 hq2).mono fun e w'' ⟨he, hw⟩ => ⟨he, hw ▸ hq⟩)
             go_big_quiet_on
             simp only [Act.put, List.setIfInBounds_toArray, List.set_cons_zero, List.set_cons_succ])
          | (go_big_quiet_op; go_big_quiet_on)
         ))
    refine wpQuiet_nil (fun w1 hb' => ?_)
    obtain ⟨hc, hf⟩ := bcell hb'
    have hz := hb'.size; (try simp at hz)
    go_wp2
    go_ret
    exact ⟨by rw [HV.out, HA.out]; first | done | rfl, (by repeat (first | exact Below.refl _ _ | assumption | refine Below.setCell ?_ (by first | omega | (simp <;> omega)) _ | refine Below.alloc ?_ (by first | omega | (simp <;> omega)) _ | refine below_drewN ?_ _ | refine Below.drew ?_ | refine Below.trans ?_ (Below.mono (by assumption) (by first | omega | (simp <;> omega)))))⟩
  all_goals
    have HV := hide (show minutesOn c k ⟨x0, x1, x2, x3, x4, x5⟩ = 0 by unfold minutesOn onSeg; simp [*])
    clear h2
    go_enter Try.func12, Try.ntmps12
    go_wp2_with (first
      | (go_at_call 47; refine (impl_ChartOk_any _ _ c _ ((HR.out.keep (B' := w.heap.size) (by repeat (first | exact Below.refl _ _ | assumption | refine Below.setCell ?_ (by first | omega | (simp <;> omega)) _ | refine Below.alloc ?_ (by first | omega | (simp <;> omega)) _ | refine below_drewN ?_ _ | refine Below.drew ?_ | refine Below.trans ?_ (Below.mono (by assumption) (by first | omega | (simp <;> omega))))) (Nat.le_refl _)).mono (by first | omega | (simp <;> omega))) hok).mono ?_; rintro e w1 ⟨rfl, hb'⟩; (first | have hb := bnext hb hb' | have hb := bnextA hb hb' | have hb := hb'); clear hb'; obtain ⟨hc, hf⟩ := bcell hb; have hz := hb.size; (try simp at hz))
      | (go_at_call 48; refine (impl_ShipOk_any _ _ _ _ _ _ _ hs).mono ?_; rintro e w1 ⟨rfl, hb'⟩; (first | have hb := bnext hb hb' | have hb := bnextA hb hb' | have hb := hb'); clear hb'; obtain ⟨hc, hf⟩ := bcell hb; have hz := hb.size; (try simp at hz))
      | (go_at_call 49; refine (isIndexB _ _ ((c.segs.length : Int) - 1) _ (by omega)).mono ?_; rintro e w1 ⟨rfl, hw⟩; obtain rfl := hw.symm))
    go_ret
    exact ⟨by rw [HV.out]; first | done | rfl, (by repeat (first | exact Below.refl _ _ | assumption | refine Below.setCell ?_ (by first | omega | (simp <;> omega)) _ | refine Below.alloc ?_ (by first | omega | (simp <;> omega)) _ | refine below_drewN ?_ _ | refine Below.drew ?_ | refine Below.trans ?_ (Below.mono (by assumption) (by first | omega | (simp <;> omega)))))⟩
set_option maxRecDepth 100000 in
set_option maxHeartbeats 4000000 in
theorem spec_l07Ok_any (v1 v2 : Value) (c : ChartD) (k : Int) (s : ShipD) (w : World) (h : RdChart w w.heap.size v1 v2 c) (hok : ∀ x ∈ c.points, x.name.size ≤ maxLen) (hs : s.name.size ≤ maxLen) :
    Calls Try.prog 67 #[.agg #[v1, v2], .int .i64 k, s.val] w fun e w' => e = .returned (.bool (onSeg c k s)) ∧ Below w.heap.size w w' := by
  have HR := hide h
  obtain ⟨h1, h2⟩ := h
  obtain ⟨A1, c1, rfl, hc1, hm1, h1⟩ := h1
  obtain ⟨A2, c2, rfl, hc2, hm2, h2⟩ := h2
  unfold maxLen at hm1 hm2
  clear h1
  have hl2 : (c.segs.length : Int) ≤ 9223372036854775807 := by omega
  obtain ⟨x0, x1, x2, x3, x4, x5⟩ := s
  clear h2
  rcases ch3 (chartOk c) (shipOk ⟨x0, x1, x2, x3, x4, x5⟩) (inB k 0 ((c.segs.length : Int) - 1)) with ⟨g1, g2, g3⟩ | g1 | ⟨g1, g2⟩ | ⟨g1, g2, g3⟩
  all_goals
    have HV := hide (show onSeg c k ⟨x0, x1, x2, x3, x4, x5⟩ = (chartOk c && shipOk ⟨x0, x1, x2, x3, x4, x5⟩ && inB k 0 ((c.segs.length : Int) - 1)) from rfl)
    go_enter Try.func67, Try.ntmps67
    go_wp2_with (first
      | (go_at_call 108; refine (spec_ChartOk_any _ _ c _ ((HR.out.keep (B' := w.heap.size) (by repeat (first | exact Below.refl _ _ | assumption | refine Below.setCell ?_ (by first | omega | (simp <;> omega)) _ | refine Below.alloc ?_ (by first | omega | (simp <;> omega)) _ | refine below_drewN ?_ _ | refine Below.drew ?_ | refine Below.trans ?_ (Below.mono (by assumption) (by first | omega | (simp <;> omega))))) (Nat.le_refl _)).mono (by first | omega | (simp <;> omega))) hok).mono ?_; rintro e w1 ⟨rfl, hb'⟩; (first | have hb := bnext hb hb' | have hb := bnextA hb hb' | have hb := hb'); clear hb'; obtain ⟨hc, hf⟩ := bcell hb; have hz := hb.size; (try simp at hz))
      | (go_at_call 109; refine (spec_ShipOk_any _ _ _ _ _ _ _ hs).mono ?_; rintro e w1 ⟨rfl, hb'⟩; (first | have hb := bnext hb hb' | have hb := bnextA hb hb' | have hb := hb'); clear hb'; obtain ⟨hc, hf⟩ := bcell hb; have hz := hb.size; (try simp at hz))
      | (go_at_call 68; refine (l01In_any _ _ _ _).mono ?_; rintro e w1 ⟨rfl, hw⟩; obtain rfl := hw.symm))
    go_ret
    exact ⟨by rw [HV.out]; simp [*], (by repeat (first | exact Below.refl _ _ | assumption | refine Below.setCell ?_ (by first | omega | (simp <;> omega)) _ | refine Below.alloc ?_ (by first | omega | (simp <;> omega)) _ | refine below_drewN ?_ _ | refine Below.drew ?_ | refine Below.trans ?_ (Below.mono (by assumption) (by first | omega | (simp <;> omega)))))⟩
set_option maxRecDepth 100000 in
set_option maxHeartbeats 4000000 in
theorem impl_onSegment_any (v1 v2 : Value) (c : ChartD) (k : Int) (s : ShipD) (w : World) (h : RdChart w w.heap.size v1 v2 c) (hok : ∀ x ∈ c.points, x.name.size ≤ maxLen) (hs : s.name.size ≤ maxLen) :
    Calls Try.prog 53 #[.agg #[v1, v2], .int .i64 k, s.val] w fun e w' => e = .returned (.bool (onSeg c k s)) ∧ Below w.heap.size w w' := by
  have HR := hide h
  obtain ⟨h1, h2⟩ := h
  obtain ⟨A1, c1, rfl, hc1, hm1, h1⟩ := h1
  obtain ⟨A2, c2, rfl, hc2, hm2, h2⟩ := h2
  unfold maxLen at hm1 hm2
  clear h1
  have hl2 : (c.segs.length : Int) ≤ 9223372036854775807 := by omega
  obtain ⟨x0, x1, x2, x3, x4, x5⟩ := s
  clear h2
  rcases ch3 (chartOk c) (shipOk ⟨x0, x1, x2, x3, x4, x5⟩) (inB k 0 ((c.segs.length : Int) - 1)) with ⟨g1, g2, g3⟩ | g1 | ⟨g1, g2⟩ | ⟨g1, g2, g3⟩
  all_goals
    have HV := hide (show onSeg c k ⟨x0, x1, x2, x3, x4, x5⟩ = (chartOk c && shipOk ⟨x0, x1, x2, x3, x4, x5⟩ && inB k 0 ((c.segs.length : Int) - 1)) from rfl)
    go_enter Try.func53, Try.ntmps53
    go_wp2_with (first
      | (go_at_call 47; refine (impl_ChartOk_any _ _ c _ ((HR.out.keep (B' := w.heap.size) (by repeat (first | exact Below.refl _ _ | assumption | refine Below.setCell ?_ (by first | omega | (simp <;> omega)) _ | refine Below.alloc ?_ (by first | omega | (simp <;> omega)) _ | refine below_drewN ?_ _ | refine Below.drew ?_ | refine Below.trans ?_ (Below.mono (by assumption) (by first | omega | (simp <;> omega))))) (Nat.le_refl _)).mono (by first | omega | (simp <;> omega))) hok).mono ?_; rintro e w1 ⟨rfl, hb'⟩; (first | have hb := bnext hb hb' | have hb := bnextA hb hb' | have hb := hb'); clear hb'; obtain ⟨hc, hf⟩ := bcell hb; have hz := hb.size; (try simp at hz))
      | (go_at_call 48; refine (impl_ShipOk_any _ _ _ _ _ _ _ hs).mono ?_; rintro e w1 ⟨rfl, hb'⟩; (first | have hb := bnext hb hb' | have hb := bnextA hb hb' | have hb := hb'); clear hb'; obtain ⟨hc, hf⟩ := bcell hb; have hz := hb.size; (try simp at hz))
      | (go_at_call 49; refine (isIndexB _ _ ((c.segs.length : Int) - 1) _ (by omega)).mono ?_; rintro e w1 ⟨rfl, hw⟩; obtain rfl := hw.symm))
    go_ret
    exact ⟨by rw [HV.out]; simp [*], (by repeat (first | exact Below.refl _ _ | assumption | refine Below.setCell ?_ (by first | omega | (simp <;> omega)) _ | refine Below.alloc ?_ (by first | omega | (simp <;> omega)) _ | refine below_drewN ?_ _ | refine Below.drew ?_ | refine Below.trans ?_ (Below.mono (by assumption) (by first | omega | (simp <;> omega)))))⟩
set_option maxRecDepth 100000 in
set_option maxHeartbeats 4000000 in
theorem spec_LevelFor_any (v1 v2 : Value) (c : ChartD) (k : Int) (s : ShipD) (w : World) (h : RdChart w w.heap.size v1 v2 c) (hok : ∀ x ∈ c.points, x.name.size ≤ maxLen) (hs : s.name.size ≤ maxLen) :
    Calls Try.prog 71 #[.agg #[v1, v2], .int .i64 k, s.val] w fun e w' => e = .returned (.int .i64 (levelFor c k s)) ∧ Below w.heap.size w w' := by
  have HR := hide h
  obtain ⟨h1, h2⟩ := h
  obtain ⟨A1, c1, rfl, hc1, hm1, h1⟩ := h1
  obtain ⟨A2, c2, rfl, hc2, hm2, h2⟩ := h2
  unfold maxLen at hm1 hm2
  clear h1
  have hl2 : (c.segs.length : Int) ≤ 9223372036854775807 := by omega
  obtain ⟨x0, x1, x2, x3, x4, x5⟩ := s
  by_cases g : onSeg c k ⟨x0, x1, x2, x3, x4, x5⟩ = true
  · obtain ⟨g1, hso, a, rfl, ha⟩ := onSeg_iff g
    have HV := hide (show levelFor c (a : Int) ⟨x0, x1, x2, x3, x4, x5⟩ = need ⟨x0, x1, x2, x3, x4, x5⟩ - c.segs[a].depth by unfold levelFor; rw [if_pos g, segAt_nat ha])
    obtain ⟨-, -, -, -, -, hq1, hq2, -, -⟩ := chart_seg g1 ha
    obtain ⟨hn1, hn2⟩ := need_range hso
    have HN := hide (show needOf ⟨x0, x1, x2, x3, x4, x5⟩ = need ⟨x0, x1, x2, x3, x4, x5⟩ by unfold needOf need; simp [hso])
    have HI := hide (show x2 + squat ⟨x0, x1, x2, x3, x4, x5⟩ + 50 = need ⟨x0, x1, x2, x3, x4, x5⟩ from rfl)
    obtain ⟨b2, o2, rfl, hb2, hcell2⟩ := h2 (by omega)
    have hrr := Below.refl w.heap.size w
    have e0 : w.cell? ⟨b2, o2 + a * 5, none⟩ = some (.int .i64 c.segs[a].a) := by
      rw [hrr.cell (p := ⟨b2, _, none⟩) hb2]; have := hcell2 a c.segs[a] (List.getElem?_eq_getElem ha) 0 _ rfl; simpa using this
    have e1 : w.cell? ⟨b2, o2 + a * 5 + 1, none⟩ = some (.int .i64 c.segs[a].b) := by
      rw [hrr.cell (p := ⟨b2, _, none⟩) hb2]; have := hcell2 a c.segs[a] (List.getElem?_eq_getElem ha) 1 _ rfl; simpa using this
    have e2 : w.cell? ⟨b2, o2 + a * 5 + 2, none⟩ = some (.int .i64 c.segs[a].depth) := by
      rw [hrr.cell (p := ⟨b2, _, none⟩) hb2]; have := hcell2 a c.segs[a] (List.getElem?_eq_getElem ha) 2 _ rfl; simpa using this
    have e3 : w.cell? ⟨b2, o2 + a * 5 + 3, none⟩ = some (.int .i64 c.segs[a].minutes) := by
      rw [hrr.cell (p := ⟨b2, _, none⟩) hb2]; have := hcell2 a c.segs[a] (List.getElem?_eq_getElem ha) 3 _ rfl; simpa using this
    have e4 : w.cell? ⟨b2, o2 + a * 5 + 4, none⟩ = some (.bool c.segs[a].meet) := by
      rw [hrr.cell (p := ⟨b2, _, none⟩) hb2]; have := hcell2 a c.segs[a] (List.getElem?_eq_getElem ha) 4 _ rfl; simpa using this
    have hz2 : b2 < w.heap.size + 1 + 1 := by omega
    have ha' : (a : Int) < c.segs.length := by omega
    have hws : IntKind.i64.wrap (need ⟨x0, x1, x2, x3, x4, x5⟩ - c.segs[a].depth) = need ⟨x0, x1, x2, x3, x4, x5⟩ - c.segs[a].depth := IntWalk.i64_in _ (by omega)
    clear hcell2 h2 hrr g1
    go_enter Try.func71, Try.ntmps71
    go_wp2_with (go_at_call 67; refine (spec_l07Ok_any _ _ c _ ⟨x0, x1, x2, x3, x4, x5⟩ _ ((HR.out.keep (B' := w.heap.size) (by repeat (first | exact Below.refl _ _ | assumption | refine Below.setCell ?_ (by first | omega | (simp <;> omega)) _ | refine Below.alloc ?_ (by first | omega | (simp <;> omega)) _ | refine below_drewN ?_ _ | refine Below.drew ?_ | refine Below.trans ?_ (Below.mono (by assumption) (by first | omega | (simp <;> omega))))) (Nat.le_refl _)).mono (by first | omega | (simp <;> omega))) hok hs).mono ?_; rintro e w1 ⟨rfl, hb'⟩; (first | have hb := bnext hb hb' | have hb := bnextA hb hb' | have hb := hb'); clear hb'; obtain ⟨hc, hf⟩ := bcell hb; have hz := hb.size; (try simp at hz))
    refine wp_region_below hb (by kernel_rfl) (by kernel_rfl) ?_
    repeat (first
      | go_big_quiet_skip
      | (go_big_quiet_want
         first
          | (refine quiet_value ?_; apply Exists.intro
             refine ⟨fun wq hq => ?_, ?_⟩
             · (obtain ⟨hc, hf⟩ := bcell hq; go_simp; first | done | rfl)
             go_big_quiet_on
             simp only [Act.put, List.setIfInBounds_toArray, List.set_cons_zero, List.set_cons_succ])
          | (refine quiet_call ?_; apply Exists.intro; apply Exists.intro; apply Exists.intro
             refine ⟨fun wq hq => ?_, fun wq hq => ?_, ?_⟩
             · (obtain ⟨hc, hf⟩ := bcell hq; go_simp; exact ⟨rfl, rfl⟩)
             · (first | with_reducible exact (calls_int (spec_NeedOf_any x0 x1 x2 x3 x4 x5 _ hs) HN.out).mono fun e w'' ⟨he, hw⟩ => ⟨he, hw ▸ hq⟩ | with_reducible exact (calls_int (spec_NeedOf_any x0 x1 x2 x3 x4 x5 _ hs) HN.out).mono fun e w'' ⟨he, hb'⟩ => ⟨he, bnext hq hb'⟩ |  exact (calls_int (spec_NeedOf_any x0 x1 x2 x3 x4 x5 _ hs) HN.out).mono fun e w'' ⟨he, hb'⟩ => ⟨he, bnext hq hb'⟩ |  exact (calls_int (spec_NeedOf_any x0 x1 x2 x3 x4 x5 _ hs) HN.out).mono fun e w'' ⟨he, hw⟩ => ⟨he, hw ▸ hq⟩)
             go_big_quiet_on
             simp only [Act.put, List.setIfInBounds_toArray, List.set_cons_zero, List.set_cons_succ])
          | (go_big_quiet_op; go_big_quiet_on)
         ))
    refine wpQuiet_nil (fun w1 hb' => ?_)
    obtain ⟨hc, hf⟩ := bcell hb'
    have hz := hb'.size; (try simp at hz)
    go_wp2
    go_ret
    exact ⟨by rw [HV.out]; first | done | rfl, (by repeat (first | exact Below.refl _ _ | assumption | refine Below.setCell ?_ (by first | omega | (simp <;> omega)) _ | refine Below.alloc ?_ (by first | omega | (simp <;> omega)) _ | refine below_drewN ?_ _ | refine Below.drew ?_ | refine Below.trans ?_ (Below.mono (by assumption) (by first | omega | (simp <;> omega)))))⟩
  · have g' : onSeg c k ⟨x0, x1, x2, x3, x4, x5⟩ = false := by simpa using g
    have HV := hide (show levelFor c k ⟨x0, x1, x2, x3, x4, x5⟩ = 0 by unfold levelFor; rw [if_neg g])
    clear h2 g
    go_enter Try.func71, Try.ntmps71
    go_wp2_with (go_at_call 67; refine (spec_l07Ok_any _ _ c _ ⟨x0, x1, x2, x3, x4, x5⟩ _ ((HR.out.keep (B' := w.heap.size) (by repeat (first | exact Below.refl _ _ | assumption | refine Below.setCell ?_ (by first | omega | (simp <;> omega)) _ | refine Below.alloc ?_ (by first | omega | (simp <;> omega)) _ | refine below_drewN ?_ _ | refine Below.drew ?_ | refine Below.trans ?_ (Below.mono (by assumption) (by first | omega | (simp <;> omega))))) (Nat.le_refl _)).mono (by first | omega | (simp <;> omega))) hok hs).mono ?_; rintro e w1 ⟨rfl, hb'⟩; (first | have hb := bnext hb hb' | have hb := bnextA hb hb' | have hb := hb'); clear hb'; obtain ⟨hc, hf⟩ := bcell hb; have hz := hb.size; (try simp at hz))
    go_ret
    exact ⟨by rw [HV.out]; first | done | rfl, (by repeat (first | exact Below.refl _ _ | assumption | refine Below.setCell ?_ (by first | omega | (simp <;> omega)) _ | refine Below.alloc ?_ (by first | omega | (simp <;> omega)) _ | refine below_drewN ?_ _ | refine Below.drew ?_ | refine Below.trans ?_ (Below.mono (by assumption) (by first | omega | (simp <;> omega)))))⟩
set_option maxRecDepth 100000 in
set_option maxHeartbeats 4000000 in
theorem impl_LevelFor_any (v1 v2 : Value) (c : ChartD) (k : Int) (s : ShipD) (w : World) (h : RdChart w w.heap.size v1 v2 c) (hok : ∀ x ∈ c.points, x.name.size ≤ maxLen) (hs : s.name.size ≤ maxLen) :
    Calls Try.prog 23 #[.agg #[v1, v2], .int .i64 k, s.val] w fun e w' => e = .returned (.int .i64 (levelFor c k s)) ∧ Below w.heap.size w w' := by
  have HR := hide h
  obtain ⟨h1, h2⟩ := h
  obtain ⟨A1, c1, rfl, hc1, hm1, h1⟩ := h1
  obtain ⟨A2, c2, rfl, hc2, hm2, h2⟩ := h2
  unfold maxLen at hm1 hm2
  clear h1
  have hl2 : (c.segs.length : Int) ≤ 9223372036854775807 := by omega
  obtain ⟨x0, x1, x2, x3, x4, x5⟩ := s
  by_cases g : onSeg c k ⟨x0, x1, x2, x3, x4, x5⟩ = true
  · obtain ⟨g1, hso, a, rfl, ha⟩ := onSeg_iff g
    have HV := hide (show levelFor c (a : Int) ⟨x0, x1, x2, x3, x4, x5⟩ = need ⟨x0, x1, x2, x3, x4, x5⟩ - c.segs[a].depth by unfold levelFor; rw [if_pos g, segAt_nat ha])
    obtain ⟨-, -, -, -, -, hq1, hq2, -, -⟩ := chart_seg g1 ha
    obtain ⟨hn1, hn2⟩ := need_range hso
    have HN := hide (show needOf ⟨x0, x1, x2, x3, x4, x5⟩ = need ⟨x0, x1, x2, x3, x4, x5⟩ by unfold needOf need; simp [hso])
    have HI := hide (show x2 + squat ⟨x0, x1, x2, x3, x4, x5⟩ + 50 = need ⟨x0, x1, x2, x3, x4, x5⟩ from rfl)
    obtain ⟨b2, o2, rfl, hb2, hcell2⟩ := h2 (by omega)
    have hrr := Below.refl w.heap.size w
    have e0 : w.cell? ⟨b2, o2 + a * 5, none⟩ = some (.int .i64 c.segs[a].a) := by
      rw [hrr.cell (p := ⟨b2, _, none⟩) hb2]; have := hcell2 a c.segs[a] (List.getElem?_eq_getElem ha) 0 _ rfl; simpa using this
    have e1 : w.cell? ⟨b2, o2 + a * 5 + 1, none⟩ = some (.int .i64 c.segs[a].b) := by
      rw [hrr.cell (p := ⟨b2, _, none⟩) hb2]; have := hcell2 a c.segs[a] (List.getElem?_eq_getElem ha) 1 _ rfl; simpa using this
    have e2 : w.cell? ⟨b2, o2 + a * 5 + 2, none⟩ = some (.int .i64 c.segs[a].depth) := by
      rw [hrr.cell (p := ⟨b2, _, none⟩) hb2]; have := hcell2 a c.segs[a] (List.getElem?_eq_getElem ha) 2 _ rfl; simpa using this
    have e3 : w.cell? ⟨b2, o2 + a * 5 + 3, none⟩ = some (.int .i64 c.segs[a].minutes) := by
      rw [hrr.cell (p := ⟨b2, _, none⟩) hb2]; have := hcell2 a c.segs[a] (List.getElem?_eq_getElem ha) 3 _ rfl; simpa using this
    have e4 : w.cell? ⟨b2, o2 + a * 5 + 4, none⟩ = some (.bool c.segs[a].meet) := by
      rw [hrr.cell (p := ⟨b2, _, none⟩) hb2]; have := hcell2 a c.segs[a] (List.getElem?_eq_getElem ha) 4 _ rfl; simpa using this
    have hz2 : b2 < w.heap.size + 1 + 1 := by omega
    have ha' : (a : Int) < c.segs.length := by omega
    have hws : IntKind.i64.wrap (need ⟨x0, x1, x2, x3, x4, x5⟩ - c.segs[a].depth) = need ⟨x0, x1, x2, x3, x4, x5⟩ - c.segs[a].depth := IntWalk.i64_in _ (by omega)
    clear hcell2 h2 hrr g1
    go_enter Try.func23, Try.ntmps23
    go_wp2_with (go_at_call 53; refine (impl_onSegment_any _ _ c _ ⟨x0, x1, x2, x3, x4, x5⟩ _ ((HR.out.keep (B' := w.heap.size) (by repeat (first | exact Below.refl _ _ | assumption | refine Below.setCell ?_ (by first | omega | (simp <;> omega)) _ | refine Below.alloc ?_ (by first | omega | (simp <;> omega)) _ | refine below_drewN ?_ _ | refine Below.drew ?_ | refine Below.trans ?_ (Below.mono (by assumption) (by first | omega | (simp <;> omega))))) (Nat.le_refl _)).mono (by first | omega | (simp <;> omega))) hok hs).mono ?_; rintro e w1 ⟨rfl, hb'⟩; (first | have hb := bnext hb hb' | have hb := bnextA hb hb' | have hb := hb'); clear hb'; obtain ⟨hc, hf⟩ := bcell hb; have hz := hb.size; (try simp at hz))
    refine wp_region_below hb (by kernel_rfl) (by kernel_rfl) ?_
    repeat (first
      | go_big_quiet_skip
      | (go_big_quiet_want
         first
          | (refine quiet_value ?_; apply Exists.intro
             refine ⟨fun wq hq => ?_, ?_⟩
             · (obtain ⟨hc, hf⟩ := bcell hq; go_simp; first | done | rfl)
             go_big_quiet_on
             simp only [Act.put, List.setIfInBounds_toArray, List.set_cons_zero, List.set_cons_succ])
          | (refine quiet_call ?_; apply Exists.intro; apply Exists.intro; apply Exists.intro
             refine ⟨fun wq hq => ?_, fun wq hq => ?_, ?_⟩
             · (obtain ⟨hc, hf⟩ := bcell hq; go_simp; exact ⟨rfl, rfl⟩)
             · (first | with_reducible exact (calls_int (impl_need_any x0 x1 x2 x3 x4 x5 _ hso) HI.out).mono fun e w'' ⟨he, hw⟩ => ⟨he, hw ▸ hq⟩ | with_reducible exact (calls_int (impl_need_any x0 x1 x2 x3 x4 x5 _ hso) HI.out).mono fun e w'' ⟨he, hb'⟩ => ⟨he, bnext hq hb'⟩ |  exact (calls_int (impl_need_any x0 x1 x2 x3 x4 x5 _ hso) HI.out).mono fun e w'' ⟨he, hb'⟩ => ⟨he, bnext hq hb'⟩ |  exact (calls_int (impl_need_any x0 x1 x2 x3 x4 x5 _ hso) HI.out).mono fun e w'' ⟨he, hw⟩ => ⟨he, hw ▸ hq⟩)
             go_big_quiet_on
             simp only [Act.put, List.setIfInBounds_toArray, List.set_cons_zero, List.set_cons_succ])
          | (go_big_quiet_op; go_big_quiet_on)
         ))
    refine wpQuiet_nil (fun w1 hb' => ?_)
    obtain ⟨hc, hf⟩ := bcell hb'
    have hz := hb'.size; (try simp at hz)
    go_wp2
    go_ret
    exact ⟨by rw [HV.out]; first | done | rfl, (by repeat (first | exact Below.refl _ _ | assumption | refine Below.setCell ?_ (by first | omega | (simp <;> omega)) _ | refine Below.alloc ?_ (by first | omega | (simp <;> omega)) _ | refine below_drewN ?_ _ | refine Below.drew ?_ | refine Below.trans ?_ (Below.mono (by assumption) (by first | omega | (simp <;> omega)))))⟩
  · have g' : onSeg c k ⟨x0, x1, x2, x3, x4, x5⟩ = false := by simpa using g
    have HV := hide (show levelFor c k ⟨x0, x1, x2, x3, x4, x5⟩ = 0 by unfold levelFor; rw [if_neg g])
    clear h2 g
    go_enter Try.func23, Try.ntmps23
    go_wp2_with (go_at_call 53; refine (impl_onSegment_any _ _ c _ ⟨x0, x1, x2, x3, x4, x5⟩ _ ((HR.out.keep (B' := w.heap.size) (by repeat (first | exact Below.refl _ _ | assumption | refine Below.setCell ?_ (by first | omega | (simp <;> omega)) _ | refine Below.alloc ?_ (by first | omega | (simp <;> omega)) _ | refine below_drewN ?_ _ | refine Below.drew ?_ | refine Below.trans ?_ (Below.mono (by assumption) (by first | omega | (simp <;> omega))))) (Nat.le_refl _)).mono (by first | omega | (simp <;> omega))) hok hs).mono ?_; rintro e w1 ⟨rfl, hb'⟩; (first | have hb := bnext hb hb' | have hb := bnextA hb hb' | have hb := hb'); clear hb'; obtain ⟨hc, hf⟩ := bcell hb; have hz := hb.size; (try simp at hz))
    go_ret
    exact ⟨by rw [HV.out]; first | done | rfl, (by repeat (first | exact Below.refl _ _ | assumption | refine Below.setCell ?_ (by first | omega | (simp <;> omega)) _ | refine Below.alloc ?_ (by first | omega | (simp <;> omega)) _ | refine below_drewN ?_ _ | refine Below.drew ?_ | refine Below.trans ?_ (Below.mono (by assumption) (by first | omega | (simp <;> omega)))))⟩
set_option maxRecDepth 100000 in
set_option maxHeartbeats 4000000 in
theorem impl_IsAfloat_any (v1 v2 : Value) (c : ChartD) (k : Int) (s : ShipD) (l : Int) (w : World) (h : RdChart w w.heap.size v1 v2 c) (hok : ∀ x ∈ c.points, x.name.size ≤ maxLen) (hs : s.name.size ≤ maxLen) :
    Calls Try.prog 15 #[.agg #[v1, v2], .int .i64 k, s.val, .int .i64 l] w fun e w' => e = .returned (.bool (isAfloat c k s l)) ∧ Below w.heap.size w w' := by
  have HR := hide h
  obtain ⟨h1, h2⟩ := h
  obtain ⟨A1, c1, rfl, hc1, hm1, h1⟩ := h1
  obtain ⟨A2, c2, rfl, hc2, hm2, h2⟩ := h2
  unfold maxLen at hm1 hm2
  clear h1
  have hl2 : (c.segs.length : Int) ≤ 9223372036854775807 := by omega
  obtain ⟨x0, x1, x2, x3, x4, x5⟩ := s
  clear h2
  rcases ch1 (onSeg c k ⟨x0, x1, x2, x3, x4, x5⟩) with g | g
  all_goals
    have HV := hide (show isAfloat c k ⟨x0, x1, x2, x3, x4, x5⟩ l = (onSeg c k ⟨x0, x1, x2, x3, x4, x5⟩ && decide (levelFor c k ⟨x0, x1, x2, x3, x4, x5⟩ ≤ l)) from rfl)
    go_enter Try.func15, Try.ntmps15
    go_wp2_with (first
      | (go_at_call 53; refine (impl_onSegment_any _ _ c _ ⟨x0, x1, x2, x3, x4, x5⟩ _ ((HR.out.keep (B' := w.heap.size) (by repeat (first | exact Below.refl _ _ | assumption | refine Below.setCell ?_ (by first | omega | (simp <;> omega)) _ | refine Below.alloc ?_ (by first | omega | (simp <;> omega)) _ | refine below_drewN ?_ _ | refine Below.drew ?_ | refine Below.trans ?_ (Below.mono (by assumption) (by first | omega | (simp <;> omega))))) (Nat.le_refl _)).mono (by first | omega | (simp <;> omega))) hok hs).mono ?_; rintro e w1 ⟨rfl, hb'⟩; (first | have hb := bnext hb hb' | have hb := bnextA hb hb' | have hb := hb'); clear hb'; obtain ⟨hc, hf⟩ := bcell hb; have hz := hb.size; (try simp at hz))
      | (go_at_call 23; refine (impl_LevelFor_any _ _ c _ ⟨x0, x1, x2, x3, x4, x5⟩ _ ((HR.out.keep (B' := w.heap.size) (by repeat (first | exact Below.refl _ _ | assumption | refine Below.setCell ?_ (by first | omega | (simp <;> omega)) _ | refine Below.alloc ?_ (by first | omega | (simp <;> omega)) _ | refine below_drewN ?_ _ | refine Below.drew ?_ | refine Below.trans ?_ (Below.mono (by assumption) (by first | omega | (simp <;> omega))))) (Nat.le_refl _)).mono (by first | omega | (simp <;> omega))) hok hs).mono ?_; rintro e w1 ⟨rfl, hb'⟩; (first | have hb := bnext hb hb' | have hb := bnextA hb hb' | have hb := hb'); clear hb'; obtain ⟨hc, hf⟩ := bcell hb; have hz := hb.size; (try simp at hz)))
    go_ret
    exact ⟨by rw [HV.out]; simp [g], (by repeat (first | exact Below.refl _ _ | assumption | refine Below.setCell ?_ (by first | omega | (simp <;> omega)) _ | refine Below.alloc ?_ (by first | omega | (simp <;> omega)) _ | refine below_drewN ?_ _ | refine Below.drew ?_ | refine Below.trans ?_ (Below.mono (by assumption) (by first | omega | (simp <;> omega)))))⟩
end Go.Proofs.Ytpbcbdjjpkenjaa
