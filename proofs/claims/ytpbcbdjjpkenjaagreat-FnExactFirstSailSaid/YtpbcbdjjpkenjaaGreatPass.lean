/- Whether a passage is valid. No condition. -/
import Derived.Test.YtpbcbdjjpkenjaaGreatAfloat
import Derived.Test.YtpbcbdjjpkenjaaGreatSPassage
namespace Go.Proofs.YtpbcbdjjpkenjaaGreat
open Go.RowKit
set_option linter.unusedVariables false

def passOk (c : ChartD) (fl : List ShipD) (p : PassageD) : Bool := chartOk c && fleetOk fl && inB p.ship 0 ((fl.length : Int) - 1) && inB p.segment 0 ((c.segs.length : Int) - 1) && inB p.start 0 2880 && decide (p.fin = p.start + minutesOn c p.segment (fl.getD p.ship.toNat default)) && decide (p.fin ≤ 2880)
theorem minutesOn_range {c : ChartD} {k : Int} {s : ShipD} : 0 ≤ minutesOn c k s ∧ minutesOn c k s ≤ 480 := by
  unfold minutesOn
  split
  · rename_i g
    obtain ⟨g1, -, a, rfl, ha⟩ := onSeg_iff g
    rw [segAt_nat ha]
    obtain ⟨-, -, -, -, -, -, -, h1, h2⟩ := chart_seg g1 ha
    have := shipMinutes_range (s := s) h1 h2; omega
  · omega
theorem fleet_ship {fl : List ShipD} (h : fleetOk fl = true) {a : Nat} (ha : a < fl.length) : shipOk fl[a] = true := by
  unfold fleetOk at h; simp only [Bool.and_eq_true] at h
  have := allUpTo_iff.1 h.2 a ha
  unfold fleetRow at this; rw [getD_at ha] at this; simp only [Bool.and_eq_true] at this; exact this.1
set_option maxRecDepth 100000 in
set_option maxHeartbeats 8000000 in
theorem spec_PassageOk_any (v1 v2 v3 : Value) (c : ChartD) (fl : List ShipD) (p : PassageD) (w : World) (h : RdChart w w.heap.size v1 v2 c) (hf : RdShip w v3 fl) (hok : ∀ x ∈ c.points, x.name.size ≤ maxLen) (hokf : ∀ x ∈ fl, x.ok) :
    Calls Tryz.prog 60 #[.agg #[v1, v2], v3, p.val] w fun e w' => e = .returned (.bool (passOk c fl p)) ∧ Below w.heap.size w w' := by
  have HR := hide h; have HF := hide hf
  obtain ⟨h1, h2⟩ := h
  obtain ⟨A1, c1, rfl, hc1, hm1, h1⟩ := h1
  obtain ⟨A2, c2, rfl, hc2, hm2, h2⟩ := h2
  obtain ⟨A3, c3, rfl, hc3, hm3, hf⟩ := hf
  unfold maxLen at hm1 hm2 hm3
  clear h1
  have hl2 : (c.segs.length : Int) ≤ 9223372036854775807 := by omega
  have hl3 : (fl.length : Int) ≤ 9223372036854775807 := by omega
  obtain ⟨p0, p1, p2, p3, p4⟩ := p
  clear h2
  rcases ch5 (chartOk c) (fleetOk fl) (inB p0 0 ((fl.length : Int) - 1)) (inB p1 0 ((c.segs.length : Int) - 1)) (inB p3 0 2880) with ⟨g1, g2, g3, g4, g5⟩ | g1 | ⟨g1, g2⟩ | ⟨g1, g2, g3⟩ | ⟨g1, g2, g3, g4⟩ | ⟨g1, g2, g3, g4, g5⟩
  · obtain ⟨a, rfl, ha⟩ := idx_nat g3
    have hs := ShipD.ok_size (hokf fl[a] (List.getElem_mem ha))
    obtain ⟨m, hm⟩ : ∃ m, minutesOn c p1 fl[a] = m := ⟨_, rfl⟩
    have hr := minutesOn_range (c := c) (k := p1) (s := fl[a])
    rw [hm] at hr
    have HM := hide hm; clear hm
    have HV := hide (show passOk c fl ⟨a, p1, p2, p3, p4⟩ = (decide (p4 = p3 + m) && decide (p4 ≤ 2880)) by unfold passOk; rw [g1, g2, g3, g4, g5, Int.toNat_natCast, getD_at ha, HM.out]; rfl)
    have hp3 : 0 ≤ p3 ∧ p3 ≤ 2880 := by simp [inB] at g5; omega
    obtain ⟨hp30, hp31⟩ := hp3
    obtain ⟨hr0, hr1⟩ := hr
    obtain ⟨b2, o2, rfl, hb2, hcell2⟩ := hf (by omega)
    have hrr := Below.refl w.heap.size w
    have e0 : w.cell? ⟨b2, o2 + a * 6, none⟩ = some (.string fl[a].name) := by
      rw [hrr.cell (p := ⟨b2, _, none⟩) hb2]; have := hcell2 a fl[a] (List.getElem?_eq_getElem ha) 0 _ rfl; simpa using this
    have e1 : w.cell? ⟨b2, o2 + a * 6 + 1, none⟩ = some (.int .i64 fl[a].length) := by
      rw [hrr.cell (p := ⟨b2, _, none⟩) hb2]; have := hcell2 a fl[a] (List.getElem?_eq_getElem ha) 1 _ rfl; simpa using this
    have e2 : w.cell? ⟨b2, o2 + a * 6 + 2, none⟩ = some (.int .i64 fl[a].draught) := by
      rw [hrr.cell (p := ⟨b2, _, none⟩) hb2]; have := hcell2 a fl[a] (List.getElem?_eq_getElem ha) 2 _ rfl; simpa using this
    have e3 : w.cell? ⟨b2, o2 + a * 6 + 3, none⟩ = some (.int .i64 fl[a].line) := by
      rw [hrr.cell (p := ⟨b2, _, none⟩) hb2]; have := hcell2 a fl[a] (List.getElem?_eq_getElem ha) 3 _ rfl; simpa using this
    have e4 : w.cell? ⟨b2, o2 + a * 6 + 4, none⟩ = some (.int .i64 fl[a].tugs) := by
      rw [hrr.cell (p := ⟨b2, _, none⟩) hb2]; have := hcell2 a fl[a] (List.getElem?_eq_getElem ha) 4 _ rfl; simpa using this
    have e5 : w.cell? ⟨b2, o2 + a * 6 + 5, none⟩ = some (.bool fl[a].slow) := by
      rw [hrr.cell (p := ⟨b2, _, none⟩) hb2]; have := hcell2 a fl[a] (List.getElem?_eq_getElem ha) 5 _ rfl; simpa using this
    have hz2 : b2 < w.heap.size + 1 + 1 := by omega
    have ha' : (a : Int) < fl.length := by omega
    clear hcell2 hf hrr
    have hwm : IntKind.i64.wrap (p3 + m) = p3 + m := IntWalk.i64_in _ (by omega)
    rcases ch1 (p4 == p3 + m) with g6 | g6
    all_goals
      have HE := hide g6
      rw [← hwm] at g6
      have HWM := hide hwm; clear hwm
      go_enter Tryz.func60, Tryz.ntmps60
      go_wp2_with (first
      | (go_at_call 103; refine (spec_ChartOk_any _ _ c _ ((HR.out.keep (B' := w.heap.size) (by repeat (first | exact Below.refl _ _ | assumption | refine Below.setCell ?_ (by first | omega | (simp <;> omega)) _ | refine Below.alloc ?_ (by first | omega | (simp <;> omega)) _ | refine below_drewN ?_ _ | refine Below.drew ?_ | refine Below.trans ?_ (Below.mono (by assumption) (by first | omega | (simp <;> omega))))) (Nat.le_refl _)).mono (by first | omega | (simp <;> omega))) hok).mono ?_; rintro e w1 ⟨rfl, hb'⟩; (first | have hb := bnext hb hb' | have hb := bnextA hb hb' | have hb := hb'); clear hb'; obtain ⟨hc, hf⟩ := bcell hb; have hz := hb.size; (try simp at hz))
      | (go_at_call 104; refine (spec_FleetOk_any _ fl _ ((HF.out.keep (B' := w.heap.size) (by repeat (first | exact Below.refl _ _ | assumption | refine Below.setCell ?_ (by first | omega | (simp <;> omega)) _ | refine Below.alloc ?_ (by first | omega | (simp <;> omega)) _ | refine below_drewN ?_ _ | refine Below.drew ?_ | refine Below.trans ?_ (Below.mono (by assumption) (by first | omega | (simp <;> omega))))) (Nat.le_refl _)).mono (by first | omega | (simp <;> omega))) hokf).mono ?_; rintro e w1 ⟨rfl, hb'⟩; (first | have hb := bnext hb hb' | have hb := bnextA hb hb' | have hb := hb'); clear hb'; obtain ⟨hc, hf⟩ := bcell hb; have hz := hb.size; (try simp at hz))
      | (go_at_call 105; refine (l01In_any _ _ _ _).mono ?_; rintro e w1 ⟨rfl, hw⟩; obtain rfl := hw.symm))
      refine wp_region_below hb (by kernel_rfl) (by kernel_rfl) ?_
      repeat (first
        | go_big_quiet_skip
        | (go_big_quiet_want
           first
            | (refine quiet_value ?_; apply Exists.intro
               refine ⟨fun wq hq => ?_, ?_⟩
               · (obtain ⟨hc, hf⟩ := bcell hq; go_simp; first | done | rfl)
               go_big_quiet_on
               simp only [Act.put, List.setIfInBounds_toArray, List.set_cons_zero, List.set_cons_succ])
            | (refine quiet_call ?_; apply Exists.intro; apply Exists.intro; apply Exists.intro
               refine ⟨fun wq hq => ?_, fun wq hq => ?_, ?_⟩
               · (obtain ⟨hc, hf⟩ := bcell hq; go_simp; exact ⟨rfl, rfl⟩)
               · (first | with_reducible exact (calls_int (spec_MinutesOn_any _ _ c _ fl[a] _ ((HR.out.keep (B' := w.heap.size) (by repeat (first | exact Below.refl _ _ | assumption | refine Below.setCell ?_ (by first | omega | (simp <;> omega)) _ | refine Below.alloc ?_ (by first | omega | (simp <;> omega)) _ | refine below_drewN ?_ _ | refine Below.drew ?_ | refine Below.trans ?_ (Below.mono (by assumption) (by first | omega | (simp <;> omega))))) (Nat.le_refl _)).mono (by have hqs := hq.size; (try simp at hqs); omega)) hok hs) HM.out).mono fun e w'' ⟨he, hw⟩ => ⟨he, hw ▸ hq⟩ | with_reducible exact (calls_int (spec_MinutesOn_any _ _ c _ fl[a] _ ((HR.out.keep (B' := w.heap.size) (by repeat (first | exact Below.refl _ _ | assumption | refine Below.setCell ?_ (by first | omega | (simp <;> omega)) _ | refine Below.alloc ?_ (by first | omega | (simp <;> omega)) _ | refine below_drewN ?_ _ | refine Below.drew ?_ | refine Below.trans ?_ (Below.mono (by assumption) (by first | omega | (simp <;> omega))))) (Nat.le_refl _)).mono (by have hqs := hq.size; (try simp at hqs); omega)) hok hs) HM.out).mono fun e w'' ⟨he, hb'⟩ => ⟨he, bnext hq hb'⟩ |  exact (calls_int (spec_MinutesOn_any _ _ c _ fl[a] _ ((HR.out.keep (B' := w.heap.size) (by repeat (first | exact Below.refl _ _ | assumption | refine Below.setCell ?_ (by first | omega | (simp <;> omega)) _ | refine Below.alloc ?_ (by first | omega | (simp <;> omega)) _ | refine below_drewN ?_ _ | refine Below.drew ?_ | refine Below.trans ?_ (Below.mono (by assumption) (by first | omega | (simp <;> omega))))) (Nat.le_refl _)).mono (by have hqs := hq.size; (try simp at hqs); omega)) hok hs) HM.out).mono fun e w'' ⟨he, hb'⟩ => ⟨he, bnext hq hb'⟩ |  exact (calls_int (spec_MinutesOn_any _ _ c _ fl[a] _ ((HR.out.keep (B' := w.heap.size) (by repeat (first | exact Below.refl _ _ | assumption | refine Below.setCell ?_ (by first | omega | (simp <;> omega)) _ | refine Below.alloc ?_ (by first | omega | (simp <;> omega)) _ | refine below_drewN ?_ _ | refine Below.drew ?_ | refine Below.trans ?_ (Below.mono (by assumption) (by first | omega | (simp <;> omega))))) (Nat.le_refl _)).mono (by have hqs := hq.size; (try simp at hqs); omega)) hok hs) HM.out).mono fun e w'' ⟨he, hw⟩ => ⟨he, hw ▸ hq⟩)
               go_big_quiet_on
               simp only [Act.put, List.setIfInBounds_toArray, List.set_cons_zero, List.set_cons_succ])
            | (go_big_quiet_op; go_big_quiet_on)
           ))
      refine wpQuiet_nil (fun w1 hb' => ?_)
      obtain ⟨hc, hf⟩ := bcell hb'
      have hz := hb'.size; (try simp at hz)
      go_wp2
      go_ret
      exact ⟨by rw [HV.out]; have h1 := HE.out; simp at h1; simp [h1], (by repeat (first | exact Below.refl _ _ | assumption | refine Below.setCell ?_ (by first | omega | (simp <;> omega)) _ | refine Below.alloc ?_ (by first | omega | (simp <;> omega)) _ | refine below_drewN ?_ _ | refine Below.drew ?_ | refine Below.trans ?_ (Below.mono (by assumption) (by first | omega | (simp <;> omega)))))⟩
  all_goals
    have HV := hide (show passOk c fl ⟨p0, p1, p2, p3, p4⟩ = false by unfold passOk; simp [*])
    clear hf
    go_enter Tryz.func60, Tryz.ntmps60
    go_wp2_with (first
      | (go_at_call 103; refine (spec_ChartOk_any _ _ c _ ((HR.out.keep (B' := w.heap.size) (by repeat (first | exact Below.refl _ _ | assumption | refine Below.setCell ?_ (by first | omega | (simp <;> omega)) _ | refine Below.alloc ?_ (by first | omega | (simp <;> omega)) _ | refine below_drewN ?_ _ | refine Below.drew ?_ | refine Below.trans ?_ (Below.mono (by assumption) (by first | omega | (simp <;> omega))))) (Nat.le_refl _)).mono (by first | omega | (simp <;> omega))) hok).mono ?_; rintro e w1 ⟨rfl, hb'⟩; (first | have hb := bnext hb hb' | have hb := bnextA hb hb' | have hb := hb'); clear hb'; obtain ⟨hc, hf⟩ := bcell hb; have hz := hb.size; (try simp at hz))
      | (go_at_call 104; refine (spec_FleetOk_any _ fl _ ((HF.out.keep (B' := w.heap.size) (by repeat (first | exact Below.refl _ _ | assumption | refine Below.setCell ?_ (by first | omega | (simp <;> omega)) _ | refine Below.alloc ?_ (by first | omega | (simp <;> omega)) _ | refine below_drewN ?_ _ | refine Below.drew ?_ | refine Below.trans ?_ (Below.mono (by assumption) (by first | omega | (simp <;> omega))))) (Nat.le_refl _)).mono (by first | omega | (simp <;> omega))) hokf).mono ?_; rintro e w1 ⟨rfl, hb'⟩; (first | have hb := bnext hb hb' | have hb := bnextA hb hb' | have hb := hb'); clear hb'; obtain ⟨hc, hf⟩ := bcell hb; have hz := hb.size; (try simp at hz))
      | (go_at_call 105; refine (l01In_any _ _ _ _).mono ?_; rintro e w1 ⟨rfl, hw⟩; obtain rfl := hw.symm))
    go_ret
    exact ⟨by rw [HV.out]; first | done | rfl, (by repeat (first | exact Below.refl _ _ | assumption | refine Below.setCell ?_ (by first | omega | (simp <;> omega)) _ | refine Below.alloc ?_ (by first | omega | (simp <;> omega)) _ | refine below_drewN ?_ _ | refine Below.drew ?_ | refine Below.trans ?_ (Below.mono (by assumption) (by first | omega | (simp <;> omega)))))⟩
set_option maxRecDepth 100000 in
set_option maxHeartbeats 8000000 in
theorem impl_passageOk_any (v1 v2 v3 : Value) (c : ChartD) (fl : List ShipD) (p : PassageD) (w : World) (h : RdChart w w.heap.size v1 v2 c) (hf : RdShip w v3 fl) (hg1 : chartOk c = true) (hg2 : fleetOk fl = true) :
    Calls Tryz.prog 108 #[.agg #[v1, v2], v3, p.val] w fun e w' => e = .returned (.bool (passOk c fl p)) ∧ Below w.heap.size w w' := by
  have HR := hide h; have HF := hide hf
  obtain ⟨h1, h2⟩ := h
  obtain ⟨A1, c1, rfl, hc1, hm1, h1⟩ := h1
  obtain ⟨A2, c2, rfl, hc2, hm2, h2⟩ := h2
  obtain ⟨A3, c3, rfl, hc3, hm3, hf⟩ := hf
  unfold maxLen at hm1 hm2 hm3
  clear h1
  have hl2 : (c.segs.length : Int) ≤ 9223372036854775807 := by omega
  have hl3 : (fl.length : Int) ≤ 9223372036854775807 := by omega
  obtain ⟨p0, p1, p2, p3, p4⟩ := p
  rcases ch4 (inB p0 0 ((fl.length : Int) - 1)) (inB p1 0 ((c.segs.length : Int) - 1)) (inB p3 0 2880) (decide (p4 ≤ 2880)) with ⟨g3, g4, g5, g6⟩ | g3 | ⟨g3, g4⟩ | ⟨g3, g4, g5⟩ | ⟨g3, g4, g5, g6⟩
  · obtain ⟨a, rfl, ha⟩ := idx_nat g3
    obtain ⟨b, rfl, hb⟩ := idx_nat g4
    obtain ⟨-, -, -, -, -, -, -, hq1, hq2⟩ := chart_seg hg1 hb
    obtain ⟨m, hm⟩ : ∃ m, shipMinutes c.segs[b] fl[a] = m := ⟨_, rfl⟩
    have hr := shipMinutes_range (g := c.segs[b]) (s := fl[a]) hq1 hq2
    rw [hm] at hr
    have hmo : minutesOn c (b : Int) fl[a] = m := by unfold minutesOn onSeg; rw [hg1, fleet_ship hg2 ha, g4, segAt_nat hb]; exact hm
    have HM := hide hm; clear hm
    have HV := hide (show passOk c fl ⟨a, b, p2, p3, p4⟩ = decide (p4 = p3 + m) by unfold passOk; rw [hg1, hg2, g3, g4, g5, g6, Int.toNat_natCast, getD_at ha, hmo]; simp)
    clear hmo
    have hp3 : 0 ≤ p3 ∧ p3 ≤ 2880 := by simp [inB] at g5; omega
    obtain ⟨hp30, hp31⟩ := hp3
    obtain ⟨hr0, hr1⟩ := hr
    have hp4 : p4 ≤ 2880 := by simpa using g6
    obtain ⟨b3, o3, rfl, hb3, hcell3⟩ := hf (by omega)
    obtain ⟨b2, o2, rfl, hb2, hcell2⟩ := h2 (by omega)
    have hrr := Below.refl w.heap.size w
    have e0 : w.cell? ⟨b3, o3 + a * 6, none⟩ = some (.string fl[a].name) := by
      rw [hrr.cell (p := ⟨b3, _, none⟩) hb3]; have := hcell3 a fl[a] (List.getElem?_eq_getElem ha) 0 _ rfl; simpa using this
    have e1 : w.cell? ⟨b3, o3 + a * 6 + 1, none⟩ = some (.int .i64 fl[a].length) := by
      rw [hrr.cell (p := ⟨b3, _, none⟩) hb3]; have := hcell3 a fl[a] (List.getElem?_eq_getElem ha) 1 _ rfl; simpa using this
    have e2 : w.cell? ⟨b3, o3 + a * 6 + 2, none⟩ = some (.int .i64 fl[a].draught) := by
      rw [hrr.cell (p := ⟨b3, _, none⟩) hb3]; have := hcell3 a fl[a] (List.getElem?_eq_getElem ha) 2 _ rfl; simpa using this
    have e3 : w.cell? ⟨b3, o3 + a * 6 + 3, none⟩ = some (.int .i64 fl[a].line) := by
      rw [hrr.cell (p := ⟨b3, _, none⟩) hb3]; have := hcell3 a fl[a] (List.getElem?_eq_getElem ha) 3 _ rfl; simpa using this
    have e4 : w.cell? ⟨b3, o3 + a * 6 + 4, none⟩ = some (.int .i64 fl[a].tugs) := by
      rw [hrr.cell (p := ⟨b3, _, none⟩) hb3]; have := hcell3 a fl[a] (List.getElem?_eq_getElem ha) 4 _ rfl; simpa using this
    have e5 : w.cell? ⟨b3, o3 + a * 6 + 5, none⟩ = some (.bool fl[a].slow) := by
      rw [hrr.cell (p := ⟨b3, _, none⟩) hb3]; have := hcell3 a fl[a] (List.getElem?_eq_getElem ha) 5 _ rfl; simpa using this
    have f0 : w.cell? ⟨b2, o2 + b * 5, none⟩ = some (.int .i64 c.segs[b].a) := by
      rw [hrr.cell (p := ⟨b2, _, none⟩) hb2]; have := hcell2 b c.segs[b] (List.getElem?_eq_getElem hb) 0 _ rfl; simpa using this
    have f1 : w.cell? ⟨b2, o2 + b * 5 + 1, none⟩ = some (.int .i64 c.segs[b].b) := by
      rw [hrr.cell (p := ⟨b2, _, none⟩) hb2]; have := hcell2 b c.segs[b] (List.getElem?_eq_getElem hb) 1 _ rfl; simpa using this
    have f2 : w.cell? ⟨b2, o2 + b * 5 + 2, none⟩ = some (.int .i64 c.segs[b].depth) := by
      rw [hrr.cell (p := ⟨b2, _, none⟩) hb2]; have := hcell2 b c.segs[b] (List.getElem?_eq_getElem hb) 2 _ rfl; simpa using this
    have f3 : w.cell? ⟨b2, o2 + b * 5 + 3, none⟩ = some (.int .i64 c.segs[b].minutes) := by
      rw [hrr.cell (p := ⟨b2, _, none⟩) hb2]; have := hcell2 b c.segs[b] (List.getElem?_eq_getElem hb) 3 _ rfl; simpa using this
    have f4 : w.cell? ⟨b2, o2 + b * 5 + 4, none⟩ = some (.bool c.segs[b].meet) := by
      rw [hrr.cell (p := ⟨b2, _, none⟩) hb2]; have := hcell2 b c.segs[b] (List.getElem?_eq_getElem hb) 4 _ rfl; simpa using this
    have hz2 : b2 < w.heap.size + 1 + 1 := by omega
    have hz3 : b3 < w.heap.size + 1 + 1 := by omega
    have ha' : (a : Int) < fl.length := by omega
    have hb' : (b : Int) < c.segs.length := by omega
    clear hcell2 hcell3 hf h2 hrr g6
    have HWM := hide (show IntKind.i64.wrap (p3 + m) = p3 + m from IntWalk.i64_in _ (by omega))
    go_enter Tryz.func108, Tryz.ntmps108
    go_wp2_with (first
      | (go_at_call 89; refine (isIndexB _ _ ((c.segs.length : Int) - 1) _ (by omega)).mono ?_; rintro e w1 ⟨rfl, hw⟩; obtain rfl := hw.symm)
      | (go_at_call 89; refine (isIndexB _ _ ((fl.length : Int) - 1) _ (by omega)).mono ?_; rintro e w1 ⟨rfl, hw⟩; obtain rfl := hw.symm)
      | (go_at_call 91; refine (isMinute_any _ _).mono ?_; rintro e w1 ⟨rfl, hw⟩; obtain rfl := hw.symm))
    refine wp_region_below (Below.refl (w.heap.size + 1 + 1) _) (by kernel_rfl) (by kernel_rfl) ?_
    repeat (first
      | go_big_quiet_skip
      | (go_big_quiet_want
         first
          | (refine quiet_value ?_; apply Exists.intro
             refine ⟨fun wq hq => ?_, ?_⟩
             · (obtain ⟨hc, hf⟩ := bcell hq; go_simp; first | done | rfl)
             go_big_quiet_on
             simp only [Act.put, List.setIfInBounds_toArray, List.set_cons_zero, List.set_cons_succ])
          | (refine quiet_call ?_; apply Exists.intro; apply Exists.intro; apply Exists.intro
             refine ⟨fun wq hq => ?_, fun wq hq => ?_, ?_⟩
             · (obtain ⟨hc, hf⟩ := bcell hq; go_simp; exact ⟨rfl, rfl⟩)
             · (first | with_reducible exact (calls_int (minutes_any c.segs[b] fl[a] _ hq1 hq2) HM.out).mono fun e w'' ⟨he, hw⟩ => ⟨he, hw ▸ hq⟩ | with_reducible exact (calls_int (minutes_any c.segs[b] fl[a] _ hq1 hq2) HM.out).mono fun e w'' ⟨he, hb'⟩ => ⟨he, bnext hq hb'⟩ |  exact (calls_int (minutes_any c.segs[b] fl[a] _ hq1 hq2) HM.out).mono fun e w'' ⟨he, hb'⟩ => ⟨he, bnext hq hb'⟩ |  exact (calls_int (minutes_any c.segs[b] fl[a] _ hq1 hq2) HM.out).mono fun e w'' ⟨he, hw⟩ => ⟨he, hw ▸ hq⟩)
             go_big_quiet_on
             simp only [Act.put, List.setIfInBounds_toArray, List.set_cons_zero, List.set_cons_succ])
          | (go_big_quiet_op; go_big_quiet_on)
         ))
    refine wpQuiet_nil (fun w1 hb' => ?_)
    obtain ⟨hc, hf⟩ := bcell hb'
    have hz := hb'.size; (try simp at hz)
    go_wp2
    go_ret
    exact ⟨by rw [HV.out, HWM.out]; first | done | rfl | simp, (by repeat (first | exact Below.refl _ _ | assumption | refine Below.setCell ?_ (by first | omega | (simp <;> omega)) _ | refine Below.alloc ?_ (by first | omega | (simp <;> omega)) _ | refine below_drewN ?_ _ | refine Below.drew ?_ | refine Below.trans ?_ (Below.mono (by assumption) (by first | omega | (simp <;> omega)))))⟩
  all_goals
    have HV := hide (show passOk c fl ⟨p0, p1, p2, p3, p4⟩ = false by unfold passOk; simp [*])
    try (have g6' : ¬ p4 ≤ 2880 := by simpa using g6)
    clear h2 hf
    go_enter Tryz.func108, Tryz.ntmps108
    go_wp2_with (first
      | (go_at_call 89; refine (isIndexB _ _ ((c.segs.length : Int) - 1) _ (by omega)).mono ?_; rintro e w1 ⟨rfl, hw⟩; obtain rfl := hw.symm)
      | (go_at_call 89; refine (isIndexB _ _ ((fl.length : Int) - 1) _ (by omega)).mono ?_; rintro e w1 ⟨rfl, hw⟩; obtain rfl := hw.symm)
      | (go_at_call 91; refine (isMinute_any _ _).mono ?_; rintro e w1 ⟨rfl, hw⟩; obtain rfl := hw.symm))
    go_ret
    exact ⟨by rw [HV.out]; first | done | rfl, (by repeat (first | exact Below.refl _ _ | assumption | refine Below.setCell ?_ (by first | omega | (simp <;> omega)) _ | refine Below.alloc ?_ (by first | omega | (simp <;> omega)) _ | refine below_drewN ?_ _ | refine Below.drew ?_ | refine Below.trans ?_ (Below.mono (by assumption) (by first | omega | (simp <;> omega)))))⟩
set_option maxRecDepth 100000 in
set_option maxHeartbeats 8000000 in
theorem impl_PassageOk_any (v1 v2 v3 : Value) (c : ChartD) (fl : List ShipD) (p : PassageD) (w : World) (h : RdChart w w.heap.size v1 v2 c) (hf : RdShip w v3 fl) (hok : ∀ x ∈ c.points, x.name.size ≤ maxLen) (hokf : ∀ x ∈ fl, x.ok) :
    Calls Tryz.prog 62 #[.agg #[v1, v2], v3, p.val] w fun e w' => e = .returned (.bool (passOk c fl p)) ∧ Below w.heap.size w w' := by
  have HR := hide h; have HF := hide hf
  obtain ⟨h1, h2⟩ := h
  obtain ⟨A1, c1, rfl, hc1, hm1, h1⟩ := h1
  obtain ⟨A2, c2, rfl, hc2, hm2, h2⟩ := h2
  obtain ⟨A3, c3, rfl, hc3, hm3, hf⟩ := hf
  unfold maxLen at hm1 hm2 hm3
  clear h1
  have hl2 : (c.segs.length : Int) ≤ 9223372036854775807 := by omega
  have hl3 : (fl.length : Int) ≤ 9223372036854775807 := by omega
  obtain ⟨p0, p1, p2, p3, p4⟩ := p
  clear h2 hf
  rcases ch2 (chartOk c) (fleetOk fl) with ⟨g1, g2⟩ | g1 | ⟨g1, g2⟩
  · have G1 := hide g1; have G2 := hide g2
    go_enter Tryz.func62, Tryz.ntmps62
    go_wp2_with (first
      | (go_at_call 87; refine (impl_ChartOk_any _ _ c _ ((HR.out.keep (B' := w.heap.size) (by repeat (first | exact Below.refl _ _ | assumption | refine Below.setCell ?_ (by first | omega | (simp <;> omega)) _ | refine Below.alloc ?_ (by first | omega | (simp <;> omega)) _ | refine below_drewN ?_ _ | refine Below.drew ?_ | refine Below.trans ?_ (Below.mono (by assumption) (by first | omega | (simp <;> omega))))) (Nat.le_refl _)).mono (by first | omega | (simp <;> omega))) hok).mono ?_; rintro e w1 ⟨rfl, hb'⟩; (first | have hb := bnext hb hb' | have hb := bnextA hb hb' | have hb := hb'); clear hb'; obtain ⟨hc, hf⟩ := bcell hb; have hz := hb.size; (try simp at hz))
      | (go_at_call 107; refine (impl_FleetOk_any _ fl _ ((HF.out.keep (B' := w.heap.size) (by repeat (first | exact Below.refl _ _ | assumption | refine Below.setCell ?_ (by first | omega | (simp <;> omega)) _ | refine Below.alloc ?_ (by first | omega | (simp <;> omega)) _ | refine below_drewN ?_ _ | refine Below.drew ?_ | refine Below.trans ?_ (Below.mono (by assumption) (by first | omega | (simp <;> omega))))) (Nat.le_refl _)).mono (by first | omega | (simp <;> omega))) hokf).mono ?_; rintro e w1 ⟨rfl, hb'⟩; (first | have hb := bnext hb hb' | have hb := bnextA hb hb' | have hb := hb'); clear hb'; obtain ⟨hc, hf⟩ := bcell hb; have hz := hb.size; (try simp at hz))
      | (go_at_call 108; refine (impl_passageOk_any _ _ _ c fl ⟨p0, p1, p2, p3, p4⟩ _ ((HR.out.keep (B' := w.heap.size) (by repeat (first | exact Below.refl _ _ | assumption | refine Below.setCell ?_ (by first | omega | (simp <;> omega)) _ | refine Below.alloc ?_ (by first | omega | (simp <;> omega)) _ | refine below_drewN ?_ _ | refine Below.drew ?_ | refine Below.trans ?_ (Below.mono (by assumption) (by first | omega | (simp <;> omega))))) (Nat.le_refl _)).mono (by first | omega | (simp <;> omega))) ((HF.out.keep (B' := w.heap.size) (by repeat (first | exact Below.refl _ _ | assumption | refine Below.setCell ?_ (by first | omega | (simp <;> omega)) _ | refine Below.alloc ?_ (by first | omega | (simp <;> omega)) _ | refine below_drewN ?_ _ | refine Below.drew ?_ | refine Below.trans ?_ (Below.mono (by assumption) (by first | omega | (simp <;> omega))))) (Nat.le_refl _)).mono (by first | omega | (simp <;> omega))) G1.out G2.out).mono ?_; rintro e w1 ⟨rfl, hb'⟩; (first | have hb := bnext hb hb' | have hb := bnextA hb hb' | have hb := hb'); clear hb'; obtain ⟨hc, hf⟩ := bcell hb; have hz := hb.size; (try simp at hz)))
    go_ret
    exact ⟨by first | done | rfl | simp, (by repeat (first | exact Below.refl _ _ | assumption | refine Below.setCell ?_ (by first | omega | (simp <;> omega)) _ | refine Below.alloc ?_ (by first | omega | (simp <;> omega)) _ | refine below_drewN ?_ _ | refine Below.drew ?_ | refine Below.trans ?_ (Below.mono (by assumption) (by first | omega | (simp <;> omega)))))⟩
  all_goals
    have HV := hide (show passOk c fl ⟨p0, p1, p2, p3, p4⟩ = false by unfold passOk; simp [*])
    go_enter Tryz.func62, Tryz.ntmps62
    go_wp2_with (first
      | (go_at_call 87; refine (impl_ChartOk_any _ _ c _ ((HR.out.keep (B' := w.heap.size) (by repeat (first | exact Below.refl _ _ | assumption | refine Below.setCell ?_ (by first | omega | (simp <;> omega)) _ | refine Below.alloc ?_ (by first | omega | (simp <;> omega)) _ | refine below_drewN ?_ _ | refine Below.drew ?_ | refine Below.trans ?_ (Below.mono (by assumption) (by first | omega | (simp <;> omega))))) (Nat.le_refl _)).mono (by first | omega | (simp <;> omega))) hok).mono ?_; rintro e w1 ⟨rfl, hb'⟩; (first | have hb := bnext hb hb' | have hb := bnextA hb hb' | have hb := hb'); clear hb'; obtain ⟨hc, hf⟩ := bcell hb; have hz := hb.size; (try simp at hz))
      | (go_at_call 107; refine (impl_FleetOk_any _ fl _ ((HF.out.keep (B' := w.heap.size) (by repeat (first | exact Below.refl _ _ | assumption | refine Below.setCell ?_ (by first | omega | (simp <;> omega)) _ | refine Below.alloc ?_ (by first | omega | (simp <;> omega)) _ | refine below_drewN ?_ _ | refine Below.drew ?_ | refine Below.trans ?_ (Below.mono (by assumption) (by first | omega | (simp <;> omega))))) (Nat.le_refl _)).mono (by first | omega | (simp <;> omega))) hokf).mono ?_; rintro e w1 ⟨rfl, hb'⟩; (first | have hb := bnext hb hb' | have hb := bnextA hb hb' | have hb := hb'); clear hb'; obtain ⟨hc, hf⟩ := bcell hb; have hz := hb.size; (try simp at hz)))
    go_ret
    exact ⟨by rw [HV.out]; first | done | rfl, (by repeat (first | exact Below.refl _ _ | assumption | refine Below.setCell ?_ (by first | omega | (simp <;> omega)) _ | refine Below.alloc ?_ (by first | omega | (simp <;> omega)) _ | refine below_drewN ?_ _ | refine Below.drew ?_ | refine Below.trans ?_ (Below.mono (by assumption) (by first | omega | (simp <;> omega)))))⟩
end Go.Proofs.YtpbcbdjjpkenjaaGreat
