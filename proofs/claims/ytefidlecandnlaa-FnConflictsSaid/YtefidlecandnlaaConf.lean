/- Conflicts of passages. No condition. -/
import Derived.Test.YtefidlecandnlaaChart
import Derived.Test.YtefidlecandnlaaChartL
import Derived.Test.YtefidlecandnlaaSPassage
namespace Go.Proofs.Ytefidlecandnlaa
open Go.RowKit
set_option linter.unusedVariables false

def nearB (a b g : Int) : Bool := decide (max a b - min a b < g)
def ovB (p q : PassageD) : Bool := decide (max p.start q.start < min p.fin q.fin)
def meetAt (c : ChartD) (k : Int) : Bool := (c.segs.getD k.toNat default).meet
def passB (p q : PassageD) : Bool := (decide (p.start < q.start) && decide (q.fin < p.fin)) || (decide (q.start < p.start) && decide (p.fin < q.fin))
def conflictV (c : ChartD) (r0 : Int) (r1 : Bool) (p q : PassageD) : Int :=
  if inB p.segment 0 ((c.segs.length : Int) - 1) = false then 0
  else if ¬ p.segment = q.segment then 0
  else if p.ship = q.ship then (if ovB p q = true then 1 else 0)
  else if ¬ p.toward = q.toward then (if ovB p q = true ∧ (r1 = true ∨ meetAt c p.segment = false) then 2 else 0)
  else if nearB p.start q.start r0 = true ∨ nearB p.fin q.fin r0 = true then 3
  else if passB p q = true then 4 else 0
def conflictOf (c : ChartD) (r0 : Int) (r1 : Bool) (p q : PassageD) : Int := if chartOk c = true ∧ inB r0 0 60 = true then conflictV c r0 r1 p q else 0
theorem wf_bounds {n : Int} (h : (Lit.int .i64 n).wf = true) : -9223372036854775808 ≤ n ∧ n ≤ 9223372036854775807 := by
  simp [Lit.wf, IntKind.min, IntKind.max, IntKind.signed, IntKind.bits] at h; omega
set_option maxHeartbeats 4000000 in
theorem near_any (a b g : Int) (w : World) (ha : (Lit.int .i64 a).wf = true) (hb : (Lit.int .i64 b).wf = true) (hg0 : 0 ≤ g) (hg1 : g ≤ 60) :
    Calls Try.prog 124 #[.int .i64 a, .int .i64 b, .int .i64 g] w fun e w' => e = .returned (.bool (nearB a b g)) ∧ Below w.heap.size w w' := by
  obtain ⟨a0, a1⟩ := wf_bounds ha
  obtain ⟨b0, b1⟩ := wf_bounds hb
  clear ha hb
  have key : ∀ x y : Int, -9223372036854775808 ≤ x → x ≤ y → y ≤ 9223372036854775807 → IntKind.u64.wrap (IntKind.u64.wrap y - IntKind.u64.wrap x) = y - x := by
    intro x y h1 h2 h3
    simp only [IntKind.wrap_u64]
    omega
  have k0 : IntKind.u64.wrap 0 = 0 := by decide
  have K := hide key; have K0 := hide k0
  clear key k0
  rcases Int.le_total a b with h | h
  all_goals
    go_enter Try.func124, Try.ntmps124
    go_wp2
    all_goals go_ret
    all_goals first
      | exact ⟨by show Ending.returned (.bool (decide (IntKind.u64.wrap (IntKind.u64.wrap b - IntKind.u64.wrap a) < g))) = _; rw [K.out a b (by omega) (by omega) (by omega)]; congr 2; unfold nearB; rw [decide_eq_decide]; omega, Below.refl _ _⟩
      | exact ⟨by show Ending.returned (.bool (decide (IntKind.u64.wrap (IntKind.u64.wrap a - IntKind.u64.wrap b) < g))) = _; rw [K.out b a (by omega) (by omega) (by omega)]; congr 2; unfold nearB; rw [decide_eq_decide]; omega, Below.refl _ _⟩
      | exact ⟨by show Ending.returned (.bool (decide (IntKind.u64.wrap 0 < g))) = _; rw [K0.out]; congr 2; unfold nearB; rw [decide_eq_decide]; omega, Below.refl _ _⟩
set_option maxHeartbeats 4000000 in
theorem l09Near_any (a b g : Int) (w : World) (ha : (Lit.int .i64 a).wf = true) (hb : (Lit.int .i64 b).wf = true) (hg0 : 0 ≤ g) (hg1 : g ≤ 60) :
    Calls Try.prog 82 #[.int .i64 a, .int .i64 b, .int .i64 g] w fun e w' => e = .returned (.bool (nearB a b g)) ∧ Below w.heap.size w w' := by
  obtain ⟨a0, a1⟩ := wf_bounds ha
  obtain ⟨b0, b1⟩ := wf_bounds hb
  clear ha hb
  rcases Int.lt_trichotomy a b with h | rfl | h
  · rcases Int.lt_or_le a 0 with h2 | h2
    · rcases Int.lt_or_le (a + 9223372036854775807) b with h3 | h3
      · go_enter Try.func82, Try.ntmps82
        go_wp2
        all_goals go_ret
        all_goals exact ⟨by show Ending.returned (.bool false) = _; congr 2; unfold nearB; symm; rw [decide_eq_false_iff_not]; omega, Below.refl _ _⟩
      · go_enter Try.func82, Try.ntmps82
        go_wp2
        all_goals go_ret
        all_goals exact ⟨by show Ending.returned (.bool (decide (b - a < g))) = _; congr 2; unfold nearB; rw [decide_eq_decide]; omega, Below.refl _ _⟩
    · go_enter Try.func82, Try.ntmps82
      go_wp2
      all_goals go_ret
      all_goals exact ⟨by show Ending.returned (.bool (decide (b - a < g))) = _; congr 2; unfold nearB; rw [decide_eq_decide]; omega, Below.refl _ _⟩
  · by_cases h2 : a < 0
    all_goals
      go_enter Try.func82, Try.ntmps82
      go_wp2
      all_goals go_ret
      all_goals exact ⟨by first | (show Ending.returned (.bool (decide ((0 : Int) < g))) = _; congr 2; unfold nearB; rw [decide_eq_decide]; omega) | (show Ending.returned (.bool (decide (a - a < g))) = _; congr 2; unfold nearB; rw [decide_eq_decide]; omega), Below.refl _ _⟩
  · rcases Int.lt_or_le b 0 with h2 | h2
    · rcases Int.lt_or_le (b + 9223372036854775807) a with h3 | h3
      · go_enter Try.func82, Try.ntmps82
        go_wp2
        all_goals go_ret
        all_goals exact ⟨by show Ending.returned (.bool false) = _; congr 2; unfold nearB; symm; rw [decide_eq_false_iff_not]; omega, Below.refl _ _⟩
      · go_enter Try.func82, Try.ntmps82
        go_wp2
        all_goals go_ret
        all_goals exact ⟨by show Ending.returned (.bool (decide (a - b < g))) = _; congr 2; unfold nearB; rw [decide_eq_decide]; omega, Below.refl _ _⟩
    · go_enter Try.func82, Try.ntmps82
      go_wp2
      all_goals go_ret
      all_goals exact ⟨by show Ending.returned (.bool (decide (a - b < g))) = _; congr 2; unfold nearB; rw [decide_eq_decide]; omega, Below.refl _ _⟩
set_option maxRecDepth 100000 in
set_option maxHeartbeats 16000000 in
theorem conflict_v (v1 v2 : Value) (c : ChartD) (r0 : Int) (r1 : Bool) (p q : PassageD) (w : World) (h : RdChart w w.heap.size v1 v2 c) (hc0 : chartOk c = true) (hg : inB r0 0 60 = true) (hp : p.ok) (hq : q.ok) :
    Calls Try.prog 83 #[.agg #[v1, v2], .agg #[.int .i64 r0, .bool r1], p.val, q.val] w fun e w' => e = .returned (.int .i64 (conflictV c r0 r1 p q)) ∧ Below w.heap.size w w' := by
  have HR := hide h
  obtain ⟨h1, h2⟩ := h
  obtain ⟨A1, c1, rfl, hc1, hm1, h1⟩ := h1
  obtain ⟨A2, c2, rfl, hc2, hm2, h2⟩ := h2
  unfold maxLen at hm1 hm2
  clear h1
  have hl2 : (c.segs.length : Int) ≤ 9223372036854775807 := by omega
  obtain ⟨x0, x1, x2, x3, x4⟩ := p
  obtain ⟨y0, y1, y2, y3, y4⟩ := q
  obtain ⟨wp0, wp1, wp3, wp4⟩ := hp
  obtain ⟨wq0, wq1, wq3, wq4⟩ := hq
  simp only at wp0 wp1 wp3 wp4 wq0 wq1 wq3 wq4
  have hr0 : 0 ≤ r0 := by simp [inB] at hg; omega
  have hr1 : r0 ≤ 60 := by simp [inB] at hg; omega
  have HC0 := hide hc0
  clear hg hc0
  rcases ch1 (inB x1 0 ((c.segs.length : Int) - 1)) with g | g
  · obtain ⟨a, rfl, ha⟩ : ∃ a : Nat, x1 = a ∧ a < c.segs.length := by simp [inB] at g; exact ⟨x1.toNat, by omega, by omega⟩
    have HM := hide (show meetAt c (a : Int) = c.segs[a].meet by unfold meetAt; rw [Int.toNat_natCast, getD_at ha])
    obtain ⟨b2, o2, rfl, hb2, hcell2⟩ := h2 (by omega)
    have hrr := Below.refl w.heap.size w
    have e0 : w.cell? ⟨b2, o2 + a * 5, none⟩ = some (.int .i64 c.segs[a].a) := by
      rw [hrr.cell (p := ⟨b2, _, none⟩) hb2]; have := hcell2 a c.segs[a] (List.getElem?_eq_getElem ha) 0 _ rfl; simpa using this
    have e1 : w.cell? ⟨b2, o2 + a * 5 + 1, none⟩ = some (.int .i64 c.segs[a].b) := by
      rw [hrr.cell (p := ⟨b2, _, none⟩) hb2]; have := hcell2 a c.segs[a] (List.getElem?_eq_getElem ha) 1 _ rfl; simpa using this
    have e2 : w.cell? ⟨b2, o2 + a * 5 + 2, none⟩ = some (.int .i64 c.segs[a].depth) := by
      rw [hrr.cell (p := ⟨b2, _, none⟩) hb2]; have := hcell2 a c.segs[a] (List.getElem?_eq_getElem ha) 2 _ rfl; simpa using this
    have e3 : w.cell? ⟨b2, o2 + a * 5 + 3, none⟩ = some (.int .i64 c.segs[a].minutes) := by
      rw [hrr.cell (p := ⟨b2, _, none⟩) hb2]; have := hcell2 a c.segs[a] (List.getElem?_eq_getElem ha) 3 _ rfl; simpa using this
    have e4 : w.cell? ⟨b2, o2 + a * 5 + 4, none⟩ = some (.bool c.segs[a].meet) := by
      rw [hrr.cell (p := ⟨b2, _, none⟩) hb2]; have := hcell2 a c.segs[a] (List.getElem?_eq_getElem ha) 4 _ rfl; simpa using this
    have hz2 : b2 < w.heap.size + 1 + 1 + 1 + 1 := by omega
    have hz3 : b2 < w.heap.size + 1 + 1 + 1 := by omega
    have hz4 : b2 < w.heap.size + 1 + 1 := by omega
    have hz5 : b2 < w.heap.size + 1 := by omega
    have ha' : (a : Int) < c.segs.length := by omega
    clear hcell2 h2 hrr
    obtain ⟨o, ho⟩ : ∃ o, decide (max x3 y3 < min x4 y4) = o := ⟨_, rfl⟩
    have HO := hide ho
    have HV := hide (show conflictV c r0 r1 ⟨x0, (a : Int), x2, x3, x4⟩ ⟨y0, y1, y2, y3, y4⟩ = (if ¬ (a : Int) = y1 then 0 else if x0 = y0 then (if o = true then 1 else 0) else if ¬ x2 = y2 then (if o = true ∧ (r1 = true ∨ c.segs[a].meet = false) then 2 else 0) else if nearB x3 y3 r0 = true ∨ nearB x4 y4 r0 = true then 3 else if (x3 < y3 ∧ y4 < x4) ∨ (y3 < x3 ∧ x4 < y4) then 4 else 0) by
      unfold conflictV; simp only [g]; rw [HM.out]; simp [ovB, passB, ← ho])
    by_cases hy : (a : Int) = y1
    · subst hy
      by_cases hx : x0 = y0
      · subst hx
        cases o
        all_goals
          go_enter Try.func83, Try.ntmps83
          go_wp2_with (first
      | (go_at_call 124; refine (near_any _ _ _ _ (by assumption) (by assumption) hr0 hr1).mono ?_; rintro e w1 ⟨rfl, hb'⟩; (first | have hb := bnext hb hb' | have hb := bnextA hb hb' | have hb := hb'); clear hb'; obtain ⟨hc, hf⟩ := bcell hb; have hz := hb.size; (try simp at hz))
      | (go_at_call 61; refine (impl_Overlaps_any _ _ _ _ _ _ _ _ _ _ _).mono ?_; rintro e w1 ⟨rfl, hb'⟩; (first | have hb := bnext hb hb' | have hb := bnextA hb hb' | have hb := hb'); clear hb'; obtain ⟨hc, hf⟩ := bcell hb; have hz := hb.size; (try simp at hz))
      | (go_at_call 72; refine (isIndexB _ _ ((c.segs.length : Int) - 1) _ (by omega)).mono ?_; rintro e w1 ⟨rfl, hw⟩; obtain rfl := hw.symm))
          all_goals first | go_ret | exact (show False by omega).elim
          all_goals (refine ⟨?_, (by repeat (first | exact Below.refl _ _ | assumption | refine Below.setCell ?_ (by first | omega | (simp <;> omega)) _ | refine Below.alloc ?_ (by first | omega | (simp <;> omega)) _ | refine below_drewN ?_ _ | refine Below.drew ?_ | refine Below.trans ?_ (Below.mono (by assumption) (by first | omega | (simp <;> omega)))))⟩; rw [HV.out]; refine ret_int ?_; simp)
      · have hxb : (x0 == y0) = false := by simpa using hx
        have HX := hide hx; clear hx
        cases x2 <;> cases y2 <;> cases o
        all_goals
          go_enter Try.func83, Try.ntmps83
          go_wp2_with (first
      | (go_at_call 124; refine (near_any _ _ _ _ (by assumption) (by assumption) hr0 hr1).mono ?_; rintro e w1 ⟨rfl, hb'⟩; (first | have hb := bnext hb hb' | have hb := bnextA hb hb' | have hb := hb'); clear hb'; obtain ⟨hc, hf⟩ := bcell hb; have hz := hb.size; (try simp at hz))
      | (go_at_call 61; refine (impl_Overlaps_any _ _ _ _ _ _ _ _ _ _ _).mono ?_; rintro e w1 ⟨rfl, hb'⟩; (first | have hb := bnext hb hb' | have hb := bnextA hb hb' | have hb := hb'); clear hb'; obtain ⟨hc, hf⟩ := bcell hb; have hz := hb.size; (try simp at hz))
      | (go_at_call 72; refine (isIndexB _ _ ((c.segs.length : Int) - 1) _ (by omega)).mono ?_; rintro e w1 ⟨rfl, hw⟩; obtain rfl := hw.symm))
          all_goals first | go_ret | exact (show False by omega).elim
          all_goals (refine ⟨?_, (by repeat (first | exact Below.refl _ _ | assumption | refine Below.setCell ?_ (by first | omega | (simp <;> omega)) _ | refine Below.alloc ?_ (by first | omega | (simp <;> omega)) _ | refine below_drewN ?_ _ | refine Below.drew ?_ | refine Below.trans ?_ (Below.mono (by assumption) (by first | omega | (simp <;> omega)))))⟩; rw [HV.out]; refine ret_int ?_; have hx := HX.out; clear HV HM HR HO; first | (simp [*]; done) | (simp [*]; omega) | (simp_all; done) | (simp_all; omega))
    · have hyb : ((a : Int) != y1) = true := by simpa using hy
      have HY := hide hy; clear hy
      go_enter Try.func83, Try.ntmps83
      go_wp2_with (first
      | (go_at_call 124; refine (near_any _ _ _ _ (by assumption) (by assumption) hr0 hr1).mono ?_; rintro e w1 ⟨rfl, hb'⟩; (first | have hb := bnext hb hb' | have hb := bnextA hb hb' | have hb := hb'); clear hb'; obtain ⟨hc, hf⟩ := bcell hb; have hz := hb.size; (try simp at hz))
      | (go_at_call 61; refine (impl_Overlaps_any _ _ _ _ _ _ _ _ _ _ _).mono ?_; rintro e w1 ⟨rfl, hb'⟩; (first | have hb := bnext hb hb' | have hb := bnextA hb hb' | have hb := hb'); clear hb'; obtain ⟨hc, hf⟩ := bcell hb; have hz := hb.size; (try simp at hz))
      | (go_at_call 72; refine (isIndexB _ _ ((c.segs.length : Int) - 1) _ (by omega)).mono ?_; rintro e w1 ⟨rfl, hw⟩; obtain rfl := hw.symm))
      all_goals first | go_ret | exact (show False by omega).elim
      all_goals (refine ⟨?_, (by repeat (first | exact Below.refl _ _ | assumption | refine Below.setCell ?_ (by first | omega | (simp <;> omega)) _ | refine Below.alloc ?_ (by first | omega | (simp <;> omega)) _ | refine below_drewN ?_ _ | refine Below.drew ?_ | refine Below.trans ?_ (Below.mono (by assumption) (by first | omega | (simp <;> omega)))))⟩; rw [HV.out]; refine ret_int ?_; simp [HY.out])
  · have HV := hide (show conflictV c r0 r1 ⟨x0, x1, x2, x3, x4⟩ ⟨y0, y1, y2, y3, y4⟩ = 0 by unfold conflictV; simp [g])
    clear h2
    by_cases hy : x1 = y1
    · subst hy
      go_enter Try.func83, Try.ntmps83
      go_wp2_with (first
      | (go_at_call 124; refine (near_any _ _ _ _ (by assumption) (by assumption) hr0 hr1).mono ?_; rintro e w1 ⟨rfl, hb'⟩; (first | have hb := bnext hb hb' | have hb := bnextA hb hb' | have hb := hb'); clear hb'; obtain ⟨hc, hf⟩ := bcell hb; have hz := hb.size; (try simp at hz))
      | (go_at_call 61; refine (impl_Overlaps_any _ _ _ _ _ _ _ _ _ _ _).mono ?_; rintro e w1 ⟨rfl, hb'⟩; (first | have hb := bnext hb hb' | have hb := bnextA hb hb' | have hb := hb'); clear hb'; obtain ⟨hc, hf⟩ := bcell hb; have hz := hb.size; (try simp at hz))
      | (go_at_call 72; refine (isIndexB _ _ ((c.segs.length : Int) - 1) _ (by omega)).mono ?_; rintro e w1 ⟨rfl, hw⟩; obtain rfl := hw.symm))
      all_goals go_ret
      all_goals exact ⟨by rw [HV.out]; first | done | rfl, (by repeat (first | exact Below.refl _ _ | assumption | refine Below.setCell ?_ (by first | omega | (simp <;> omega)) _ | refine Below.alloc ?_ (by first | omega | (simp <;> omega)) _ | refine below_drewN ?_ _ | refine Below.drew ?_ | refine Below.trans ?_ (Below.mono (by assumption) (by first | omega | (simp <;> omega)))))⟩
    · have hyb : (x1 != y1) = true := by simpa using hy
      go_enter Try.func83, Try.ntmps83
      go_wp2_with (first
      | (go_at_call 124; refine (near_any _ _ _ _ (by assumption) (by assumption) hr0 hr1).mono ?_; rintro e w1 ⟨rfl, hb'⟩; (first | have hb := bnext hb hb' | have hb := bnextA hb hb' | have hb := hb'); clear hb'; obtain ⟨hc, hf⟩ := bcell hb; have hz := hb.size; (try simp at hz))
      | (go_at_call 61; refine (impl_Overlaps_any _ _ _ _ _ _ _ _ _ _ _).mono ?_; rintro e w1 ⟨rfl, hb'⟩; (first | have hb := bnext hb hb' | have hb := bnextA hb hb' | have hb := hb'); clear hb'; obtain ⟨hc, hf⟩ := bcell hb; have hz := hb.size; (try simp at hz))
      | (go_at_call 72; refine (isIndexB _ _ ((c.segs.length : Int) - 1) _ (by omega)).mono ?_; rintro e w1 ⟨rfl, hw⟩; obtain rfl := hw.symm))
      all_goals go_ret
      all_goals exact ⟨by rw [HV.out]; first | done | rfl, (by repeat (first | exact Below.refl _ _ | assumption | refine Below.setCell ?_ (by first | omega | (simp <;> omega)) _ | refine Below.alloc ?_ (by first | omega | (simp <;> omega)) _ | refine below_drewN ?_ _ | refine Below.drew ?_ | refine Below.trans ?_ (Below.mono (by assumption) (by first | omega | (simp <;> omega)))))⟩
end Go.Proofs.Ytefidlecandnlaa
