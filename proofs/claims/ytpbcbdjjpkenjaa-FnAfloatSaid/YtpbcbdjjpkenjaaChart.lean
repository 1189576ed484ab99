/- Charts: points found by name, whether a chart is valid; conversion, comparison. No condition. -/
import Derived.Test.YtpbcbdjjpkenjaaKeep
import Derived.Test.YtpbcbdjjpkenjaaName
import Derived.Test.YtpbcbdjjpkenjaaSeq
import Derived.Test.YtpbcbdjjpkenjaaSPoint
import Derived.Test.YtpbcbdjjpkenjaaSSegment
import Derived.BigGuardPart
namespace Go.Proofs.Ytpbcbdjjpkenjaa
open Go.RowKit
set_option linter.unusedVariables false

structure ChartD where
  points : List PointD
  segs : List SegmentD
def ptName (name : ByteArray) (xs : List PointD) (j : Nat) : Bool := decide ((xs.getD j default).name = name)
def pointNamed (xs : List PointD) (name : ByteArray) : Int := firstUpTo (ptName name xs) xs.length
def ptRow (xs : List PointD) (i : Nat) : Bool := isName (xs.getD i default).name && decide (pointNamed xs (xs.getD i default).name = i)
def joins (s : SegmentD) (a b : Int) : Bool := (decide (s.a = a) && decide (s.b = b)) || (decide (s.a = b) && decide (s.b = a))
def segFit (n : Int) (s : SegmentD) : Bool := inB s.a 0 n && inB s.b 0 n && !decide (s.a = s.b) && inB s.depth 0 3000 && inB s.minutes 1 240
def notJoin (ss : List SegmentD) (s : SegmentD) (j : Nat) : Bool := !joins (ss.getD j default) s.a s.b
def segRow (n : Int) (ss : List SegmentD) (i : Nat) : Bool := segFit n (ss.getD i default) && allUpTo (notJoin ss (ss.getD i default)) i
def chartOk (c : ChartD) : Bool := decide (c.points.length ≤ 8) && decide (c.segs.length ≤ 10) && allUpTo (ptRow c.points) c.points.length && allUpTo (segRow ((c.points.length : Int) - 1) c.segs) c.segs.length
def RdChart (w : World) (B : Nat) (v1 v2 : Value) (c : ChartD) : Prop := RdB w B 2 PointD.enc v1 c.points ∧ RdB w B 5 SegmentD.enc v2 c.segs
theorem RdChart.keep {w w' : World} {B B' : Nat} {v1 v2 : Value} {c : ChartD} (h : RdChart w B v1 v2 c) (hb : Below B' w w') (hB : B ≤ B') : RdChart w' B v1 v2 c := ⟨h.1.keep hb hB, h.2.keep hb hB⟩
theorem RdChart.mono {w : World} {B B' : Nat} {v1 v2 : Value} {c : ChartD} (h : RdChart w B v1 v2 c) (hB : B ≤ B') : RdChart w B' v1 v2 c := ⟨h.1.mono hB, h.2.mono hB⟩
theorem chart_seg {c : ChartD} (h : chartOk c = true) {k : Nat} (hk : k < c.segs.length) : 0 ≤ c.segs[k].a ∧ c.segs[k].a < c.points.length ∧ 0 ≤ c.segs[k].b ∧ c.segs[k].b < c.points.length ∧ c.segs[k].a ≠ c.segs[k].b ∧ 0 ≤ c.segs[k].depth ∧ c.segs[k].depth ≤ 3000 ∧ 1 ≤ c.segs[k].minutes ∧ c.segs[k].minutes ≤ 240 := by
  unfold chartOk at h
  simp only [Bool.and_eq_true] at h
  have := allUpTo_iff.1 h.2 k hk
  unfold segRow at this
  rw [getD_at hk] at this
  simp only [Bool.and_eq_true] at this
  have := this.1
  simp [segFit, inB] at this
  omega
theorem chart_len {c : ChartD} (h : chartOk c = true) : c.points.length ≤ 8 ∧ c.segs.length ≤ 10 := by
  unfold chartOk at h; simp only [Bool.and_eq_true, decide_eq_true_eq] at h; exact h.1.1
set_option maxHeartbeats 4000000 in
theorem spec_PointNamed_any (v1 v2 : Value) (xs : List PointD) (name : ByteArray) (w : World) (h1 : RdPoint w v1 xs) :
    Calls Try.prog 131 #[.agg #[v1, v2], .string name] w fun e w' => e = .returned (.int .i64 (pointNamed xs name)) ∧ Below w.heap.size w w' := by
  obtain ⟨A1, c1, rfl, hc1, hm1, h1⟩ := h1
  unfold maxLen at hm1
  go_enter Try.func131, Try.ntmps131
  go_wp2
  go_loopw [10] (fun i wr => ∃ k : Nat, k ≤ xs.length ∧ i = .int .i64 k ∧ Hid (∀ j, j < k → ptName name xs j = false) ∧ Below w.heap.size w wr) (fun i _ => xs.length - (intOf i).toNat)
  case atStart => exact ⟨0, Nat.zero_le _, rfl, hide (fun j hj => by omega), (by repeat (first | exact Below.refl _ _ | assumption | refine Below.setCell ?_ (by first | omega | (simp <;> omega)) _ | refine Below.alloc ?_ (by first | omega | (simp <;> omega)) _ | refine below_drewN ?_ _ | refine Below.drew ?_ | refine Below.trans ?_ (Below.mono (by assumption) (by first | omega | (simp <;> omega)))))⟩
  case round =>
    obtain ⟨k, hk, rfl, HN, hb⟩ := hrel
    have hbs := hb.size
    by_cases hlt : k < xs.length
    · obtain ⟨b1, o1, rfl, hb1, hcell1⟩ := h1 (by omega)
      have e0 : wr.cell? ⟨b1, o1 + k * 2, none⟩ = some (.string xs[k].name) := by
        rw [hb.cell (p := ⟨b1, _, none⟩) hb1]; have := hcell1 k xs[k] (List.getElem?_eq_getElem hlt) 0 _ rfl; simpa using this
      have e1 : wr.cell? ⟨b1, o1 + k * 2 + 1, none⟩ = some (.bool xs[k].wait) := by
        rw [hb.cell (p := ⟨b1, _, none⟩) hb1]; have := hcell1 k xs[k] (List.getElem?_eq_getElem hlt) 1 _ rfl; simpa using this
      clear hcell1 h1
      by_cases he : xs[k].name = name
      · have he' := ba_eq he
        have HE := hide (show ptName name xs k = true by unfold ptName; rw [getD_at hlt]; simpa using he)
        clear he
        go_wp2
        go_ret
        exact ⟨ret_int (by rw [pointNamed, firstUpTo_hit HN.out HE.out hlt]), (by repeat (first | exact Below.refl _ _ | assumption | refine Below.setCell ?_ (by first | omega | (simp <;> omega)) _ | refine Below.alloc ?_ (by first | omega | (simp <;> omega)) _ | refine below_drewN ?_ _ | refine Below.drew ?_ | refine Below.trans ?_ (Below.mono (by assumption) (by first | omega | (simp <;> omega)))))⟩
      · have he' := ba_ne he
        have HE := hide (show ptName name xs k = false by unfold ptName; rw [getD_at hlt]; simpa using he)
        clear he
        go_wp2
        go_roundw
        case rel => exact ⟨k + 1, by omega, by go_num, hide (none_succ HN.out HE.out), (by repeat (first | exact Below.refl _ _ | assumption | refine Below.setCell ?_ (by first | omega | (simp <;> omega)) _ | refine Below.alloc ?_ (by first | omega | (simp <;> omega)) _ | refine below_drewN ?_ _ | refine Below.drew ?_ | refine Below.trans ?_ (Below.mono (by assumption) (by first | omega | (simp <;> omega)))))⟩
        case measure => simp [intOf]; omega
    · obtain rfl : k = xs.length := by omega
      go_wp2
      go_ret
      exact ⟨ret_int (by rw [pointNamed, firstUpTo_none HN.out]), hb⟩
set_option maxHeartbeats 4000000 in
theorem impl_PointNamed_any (v1 v2 : Value) (xs : List PointD) (name : ByteArray) (w : World) (h1 : RdPoint w v1 xs) :
    Calls Try.prog 93 #[.agg #[v1, v2], .string name] w fun e w' => e = .returned (.int .i64 (pointNamed xs name)) ∧ Below w.heap.size w w' := by
  obtain ⟨A1, c1, rfl, hc1, hm1, h1⟩ := h1
  unfold maxLen at hm1
  go_enter Try.func93, Try.ntmps93
  go_wp2
  go_loopw [10] (fun i wr => ∃ k : Nat, k ≤ xs.length ∧ i = .int .i64 k ∧ Hid (∀ j, j < k → ptName name xs j = false) ∧ Below w.heap.size w wr) (fun i _ => xs.length - (intOf i).toNat)
  case atStart => exact ⟨0, Nat.zero_le _, rfl, hide (fun j hj => by omega), (by repeat (first | exact Below.refl _ _ | assumption | refine Below.setCell ?_ (by first | omega | (simp <;> omega)) _ | refine Below.alloc ?_ (by first | omega | (simp <;> omega)) _ | refine below_drewN ?_ _ | refine Below.drew ?_ | refine Below.trans ?_ (Below.mono (by assumption) (by first | omega | (simp <;> omega)))))⟩
  case round =>
    obtain ⟨k, hk, rfl, HN, hb⟩ := hrel
    have hbs := hb.size
    by_cases hlt : k < xs.length
    · obtain ⟨b1, o1, rfl, hb1, hcell1⟩ := h1 (by omega)
      have e0 : wr.cell? ⟨b1, o1 + k * 2, none⟩ = some (.string xs[k].name) := by
        rw [hb.cell (p := ⟨b1, _, none⟩) hb1]; have := hcell1 k xs[k] (List.getElem?_eq_getElem hlt) 0 _ rfl; simpa using this
      have e1 : wr.cell? ⟨b1, o1 + k * 2 + 1, none⟩ = some (.bool xs[k].wait) := by
        rw [hb.cell (p := ⟨b1, _, none⟩) hb1]; have := hcell1 k xs[k] (List.getElem?_eq_getElem hlt) 1 _ rfl; simpa using this
      clear hcell1 h1
      by_cases he : xs[k].name = name
      · have he' := ba_eq he
        have HE := hide (show ptName name xs k = true by unfold ptName; rw [getD_at hlt]; simpa using he)
        clear he
        go_wp2
        go_ret
        exact ⟨ret_int (by rw [pointNamed, firstUpTo_hit HN.out HE.out hlt]), (by repeat (first | exact Below.refl _ _ | assumption | refine Below.setCell ?_ (by first | omega | (simp <;> omega)) _ | refine Below.alloc ?_ (by first | omega | (simp <;> omega)) _ | refine below_drewN ?_ _ | refine Below.drew ?_ | refine Below.trans ?_ (Below.mono (by assumption) (by first | omega | (simp <;> omega)))))⟩
      · have he' := ba_ne he
        have HE := hide (show ptName name xs k = false by unfold ptName; rw [getD_at hlt]; simpa using he)
        clear he
        go_wp2
        go_roundw
        case rel => exact ⟨k + 1, by omega, by go_num, hide (none_succ HN.out HE.out), (by repeat (first | exact Below.refl _ _ | assumption | refine Below.setCell ?_ (by first | omega | (simp <;> omega)) _ | refine Below.alloc ?_ (by first | omega | (simp <;> omega)) _ | refine below_drewN ?_ _ | refine Below.drew ?_ | refine Below.trans ?_ (Below.mono (by assumption) (by first | omega | (simp <;> omega)))))⟩
        case measure => simp [intOf]; omega
    · obtain rfl : k = xs.length := by omega
      go_wp2
      go_ret
      exact ⟨ret_int (by rw [pointNamed, firstUpTo_none HN.out]), hb⟩
set_option maxHeartbeats 4000000 in
theorem l05Joins_any (s : SegmentD) (a b : Int) (w : World) :
    Calls Try.prog 132 #[s.val, .int .i64 a, .int .i64 b] w fun e w' => e = .returned (.bool (joins s a b)) ∧ Below w.heap.size w w' := by
  obtain ⟨s0, s1, s2, s3, s4⟩ := s
  go_enter Try.func132, Try.ntmps132
  go_wp2
  all_goals go_ret
  all_goals exact ⟨by simp_all [joins] <;> (rw [Bool.eq_iff_iff]; simp), (by repeat (first | exact Below.refl _ _ | assumption | refine Below.setCell ?_ (by first | omega | (simp <;> omega)) _ | refine Below.alloc ?_ (by first | omega | (simp <;> omega)) _ | refine below_drewN ?_ _ | refine Below.drew ?_ | refine Below.trans ?_ (Below.mono (by assumption) (by first | omega | (simp <;> omega)))))⟩
set_option maxHeartbeats 4000000 in
theorem joins__any (s : SegmentD) (a b : Int) (w : World) :
    Calls Try.prog 95 #[s.val, .int .i64 a, .int .i64 b] w fun e w' => e = .returned (.bool (joins s a b)) ∧ Below w.heap.size w w' := by
  obtain ⟨s0, s1, s2, s3, s4⟩ := s
  go_enter Try.func95, Try.ntmps95
  go_wp2
  all_goals go_ret
  all_goals exact ⟨by simp_all [joins] <;> (rw [Bool.eq_iff_iff]; simp), (by repeat (first | exact Below.refl _ _ | assumption | refine Below.setCell ?_ (by first | omega | (simp <;> omega)) _ | refine Below.alloc ?_ (by first | omega | (simp <;> omega)) _ | refine below_drewN ?_ _ | refine Below.drew ?_ | refine Below.trans ?_ (Below.mono (by assumption) (by first | omega | (simp <;> omega)))))⟩
set_option maxRecDepth 100000 in
set_option maxHeartbeats 16000000 in
theorem spec_ChartOk_any (v1 v2 : Value) (c : ChartD) (w : World) (h : RdChart w w.heap.size v1 v2 c) (hok : ∀ x ∈ c.points, x.name.size ≤ maxLen) :
    Calls Try.prog 108 #[.agg #[v1, v2]] w fun e w' => e = .returned (.bool (chartOk c)) ∧ Below w.heap.size w w' := by
  have HR := hide h
  obtain ⟨h1, h2⟩ := h
  obtain ⟨A1, c1, rfl, hc1, hm1, h1⟩ := h1
  obtain ⟨A2, c2, rfl, hc2, hm2, h2⟩ := h2
  unfold maxLen at hm1 hm2
  rcases ch2 (decide (c.points.length ≤ 8)) (decide (c.segs.length ≤ 10)) with ⟨g1, g2⟩ | g1 | ⟨g1, g2⟩
  · have l8 : c.points.length ≤ 8 := by simpa using g1
    have l10 : c.segs.length ≤ 10 := by simpa using g2
    have H8 := hide l8; have H10 := hide l10
    clear g1 g2
    go_enter Try.func108, Try.ntmps108
    go_wp2
    try any_goals (exact absurd (show (8 : Int) < (c.points.length : Int) by assumption) (by omega))
    try any_goals (exact absurd (show (10 : Int) < (c.segs.length : Int) by assumption) (by omega))
    go_loopw [22] (fun i wr => ∃ k : Nat, k ≤ c.points.length ∧ i = .int .i64 k ∧ Hid (allUpTo (ptRow c.points) k = true) ∧ wr.cell? ⟨w.heap.size, 0, none⟩ = some (.slice A1 c.points.length c1) ∧ wr.cell? ⟨w.heap.size, 1, none⟩ = some (.slice A2 c.segs.length c2) ∧ w.heap.size < wr.heap.size ∧ Below w.heap.size w wr) (fun i _ => c.points.length - (intOf i).toNat)
    case atStart => exact ⟨0, Nat.zero_le _, rfl, hide rfl, by simp, by simp, by simp, (by repeat (first | exact Below.refl _ _ | assumption | refine Below.setCell ?_ (by first | omega | (simp <;> omega)) _ | refine Below.alloc ?_ (by first | omega | (simp <;> omega)) _ | refine below_drewN ?_ _ | refine Below.drew ?_ | refine Below.trans ?_ (Below.mono (by assumption) (by first | omega | (simp <;> omega)))))⟩
    case round =>
      obtain ⟨k, hk, rfl, HN, y0, y1, hl0, hb0⟩ := hrel
      obtain ⟨wo, rfl⟩ : ∃ wo : World, wo = wr := ⟨_, rfl⟩
      have hbs := hb0.size
      by_cases hlt : k < c.points.length
      · obtain ⟨b1, o1, rfl, hb1, hcell1⟩ := h1 (by omega)
        have hz1 : b1 < wo.heap.size := by omega
        have e0 : wo.cell? ⟨b1, o1 + k * 2, none⟩ = some (.string c.points[k].name) := by
          rw [hb0.cell (p := ⟨b1, _, none⟩) hb1]; have := hcell1 k c.points[k] (List.getElem?_eq_getElem hlt) 0 _ rfl; simpa using this
        have e1 : wo.cell? ⟨b1, o1 + k * 2 + 1, none⟩ = some (.bool c.points[k].wait) := by
          rw [hb0.cell (p := ⟨b1, _, none⟩) hb1]; have := hcell1 k c.points[k] (List.getElem?_eq_getElem hlt) 1 _ rfl; simpa using this
        have hsz := hok c.points[k] (List.getElem_mem hlt)
        have HE := hide (show ptRow c.points k = (isName c.points[k].name && decide (pointNamed c.points c.points[k].name = k)) by unfold ptRow; rw [getD_at hlt])
        clear hcell1 h1 hok h2
        go_wp2_with (first
          | (go_at_call 130; refine (spec_IsName_any _ _ hsz).mono ?_; rintro e w1 ⟨rfl, hb'⟩; (first | have hb := bnext hb hb' | have hb := bnextA hb hb' | have hb := hb'); clear hb'; obtain ⟨hc, hf⟩ := bcell hb; have hz := hb.size; (try simp at hz))
          | (go_at_call 131; refine (spec_PointNamed_any _ _ c.points _ _ ((HR.out.1.keep (B' := w.heap.size) (by repeat (first | exact Below.refl _ _ | assumption | refine Below.setCell ?_ (by first | omega | (simp <;> omega)) _ | refine Below.alloc ?_ (by first | omega | (simp <;> omega)) _ | refine below_drewN ?_ _ | refine Below.drew ?_ | refine Below.trans ?_ (Below.mono (by assumption) (by first | omega | (simp <;> omega))))) (Nat.le_refl _)).mono (by first | omega | (simp <;> omega)))).mono ?_; rintro e w1 ⟨rfl, hb'⟩; (first | have hb := bnext hb hb' | have hb := bnextA hb hb' | have hb := hb'); clear hb'; obtain ⟨hc, hf⟩ := bcell hb; have hz := hb.size; (try simp at hz)))
        all_goals first
          | (have hbad : ptRow c.points k = false := by (rw [HE.out]; simp_all [-hc, -hf]; done)
             have HB := hide hbad; clear hbad
             go_ret
             exact ⟨by simp [chartOk, allUpTo_bad hlt HB.out], (by repeat (first | exact Below.refl _ _ | assumption | refine Below.setCell ?_ (by first | omega | (simp <;> omega)) _ | refine Below.alloc ?_ (by first | omega | (simp <;> omega)) _ | refine below_drewN ?_ _ | refine Below.drew ?_ | refine Below.trans ?_ (Below.mono (by assumption) (by first | omega | (simp <;> omega)))))⟩)
          | (have hgood : ptRow c.points k = true := by (rw [HE.out]; simp_all [-hc, -hf]; done)
             have HG := hide hgood; clear hgood
             go_roundw
             case rel => exact ⟨k + 1, by omega, by go_num, hide (allUpTo_succ HN.out HG.out), cellKeep (B := wo.heap.size) (w1 := wo) (by repeat (first | exact Below.refl _ _ | assumption | refine Below.setCell ?_ (by first | omega | (simp <;> omega)) _ | refine Below.alloc ?_ (by first | omega | (simp <;> omega)) _ | refine below_drewN ?_ _ | refine Below.drew ?_ | refine Below.trans ?_ (Below.mono (by assumption) (by first | omega | (simp <;> omega))))) y0 hl0, cellKeep (B := wo.heap.size) (w1 := wo) (by repeat (first | exact Below.refl _ _ | assumption | refine Below.setCell ?_ (by first | omega | (simp <;> omega)) _ | refine Below.alloc ?_ (by first | omega | (simp <;> omega)) _ | refine below_drewN ?_ _ | refine Below.drew ?_ | refine Below.trans ?_ (Below.mono (by assumption) (by first | omega | (simp <;> omega))))) y1 hl0, by first | omega | (simp <;> omega), (by repeat (first | exact Below.refl _ _ | assumption | refine Below.setCell ?_ (by first | omega | (simp <;> omega)) _ | refine Below.alloc ?_ (by first | omega | (simp <;> omega)) _ | refine below_drewN ?_ _ | refine Below.drew ?_ | refine Below.trans ?_ (Below.mono (by assumption) (by first | omega | (simp <;> omega)))))⟩
             case measure => simp [intOf]; omega)
      · obtain rfl : k = c.points.length := by omega
        go_wp2
        go_loopw [43] (fun i wr => ∃ k : Nat, k ≤ c.segs.length ∧ i = .int .i64 k ∧ Hid (allUpTo (segRow ((c.points.length : Int) - 1) c.segs) k = true) ∧ wr.cell? ⟨w.heap.size, 0, none⟩ = some (.slice A1 c.points.length c1) ∧ wr.cell? ⟨w.heap.size, 1, none⟩ = some (.slice A2 c.segs.length c2) ∧ w.heap.size < wr.heap.size ∧ Below w.heap.size w wr) (fun i _ => c.segs.length - (intOf i).toNat)
        case atStart => exact ⟨0, Nat.zero_le _, rfl, hide rfl, y0, y1, hl0, hb0⟩
        case round =>
          clear y0 y1 hl0 hb0 hbs
          obtain ⟨k, hk, rfl, HM, y0, y1, hl0, hb0⟩ := hrel
          obtain ⟨wo', rfl⟩ : ∃ wo' : World, wo' = wr := ⟨_, rfl⟩
          have hbs := hb0.size
          by_cases hlt : k < c.segs.length
          · obtain ⟨b2, o2, rfl, hb2, hcell2⟩ := h2 (by omega)
            have hz2 : b2 < wo'.heap.size := by omega
            have e0 : wo'.cell? ⟨b2, o2 + k * 5, none⟩ = some (.int .i64 c.segs[k].a) := by
              rw [hb0.cell (p := ⟨b2, _, none⟩) hb2]; have := hcell2 k c.segs[k] (List.getElem?_eq_getElem hlt) 0 _ rfl; simpa using this
            have e1 : wo'.cell? ⟨b2, o2 + k * 5 + 1, none⟩ = some (.int .i64 c.segs[k].b) := by
              rw [hb0.cell (p := ⟨b2, _, none⟩) hb2]; have := hcell2 k c.segs[k] (List.getElem?_eq_getElem hlt) 1 _ rfl; simpa using this
            have e2 : wo'.cell? ⟨b2, o2 + k * 5 + 2, none⟩ = some (.int .i64 c.segs[k].depth) := by
              rw [hb0.cell (p := ⟨b2, _, none⟩) hb2]; have := hcell2 k c.segs[k] (List.getElem?_eq_getElem hlt) 2 _ rfl; simpa using this
            have e3 : wo'.cell? ⟨b2, o2 + k * 5 + 3, none⟩ = some (.int .i64 c.segs[k].minutes) := by
              rw [hb0.cell (p := ⟨b2, _, none⟩) hb2]; have := hcell2 k c.segs[k] (List.getElem?_eq_getElem hlt) 3 _ rfl; simpa using this
            have e4 : wo'.cell? ⟨b2, o2 + k * 5 + 4, none⟩ = some (.bool c.segs[k].meet) := by
              rw [hb0.cell (p := ⟨b2, _, none⟩) hb2]; have := hcell2 k c.segs[k] (List.getElem?_eq_getElem hlt) 4 _ rfl; simpa using this
            have HC := hide hcell2
            have HE := hide (show segRow ((c.points.length : Int) - 1) c.segs k = (segFit ((c.points.length : Int) - 1) c.segs[k] && allUpTo (notJoin c.segs c.segs[k]) k) by unfold segRow; rw [getD_at hlt])
            clear hcell2 h1 hok h2
            rcases ch5 (inB c.segs[k].a 0 ((c.points.length : Int) - 1)) (inB c.segs[k].b 0 ((c.points.length : Int) - 1)) (!(c.segs[k].a == c.segs[k].b)) (inB c.segs[k].depth 0 3000) (inB c.segs[k].minutes 1 240) with ⟨g1, g2, g3, g4, g5⟩ | g1 | ⟨g1, g2⟩ | ⟨g1, g2, g3⟩ | ⟨g1, g2, g3, g4⟩ | ⟨g1, g2, g3, g4, g5⟩
            · have HG := hide (show segFit ((c.points.length : Int) - 1) c.segs[k] = true by simp at g3; simp [segFit, *])
              have g3' : (c.segs[k].a == c.segs[k].b) = false := by simpa using g3
              clear g3
              go_wp2_with (first | (go_at_call 68; refine (l01In_any _ _ _ _).mono ?_; rintro e w1 ⟨rfl, hw⟩; obtain rfl := hw.symm))
              clear g1 g2 g3' g4 g5
              go_loopw [90] (fun i wr => ∃ j : Nat, j ≤ k ∧ i = .int .i64 j ∧ Hid (allUpTo (notJoin c.segs c.segs[k]) j = true) ∧ wr.cell? ⟨wo'.heap.size, 0, none⟩ = some (.int .i64 c.segs[k].a) ∧ wr.cell? ⟨wo'.heap.size, 1, none⟩ = some (.int .i64 c.segs[k].b) ∧ wo'.heap.size < wr.heap.size ∧ Below wo'.heap.size wo' wr) (fun i _ => k - (intOf i).toNat)
              case atStart => exact ⟨0, Nat.zero_le _, rfl, hide rfl, by simp, by simp, by simp, (by repeat (first | exact Below.refl _ _ | assumption | refine Below.setCell ?_ (by first | omega | (simp <;> omega)) _ | refine Below.alloc ?_ (by first | omega | (simp <;> omega)) _ | refine below_drewN ?_ _ | refine Below.drew ?_ | refine Below.trans ?_ (Below.mono (by assumption) (by first | omega | (simp <;> omega)))))⟩
              case round =>
                obtain ⟨j, hj, rfl, HJ, z0, z1, hl1, hbj⟩ := hrel
                have hbk := bnext hb0 hbj (Nat.le_refl _)
                have hbks := hbk.size
                by_cases hjk : j < k
                · have hjl : j < c.segs.length := by omega
                  have hcell := HC.out
                  have f0 : wr.cell? ⟨b2, o2 + j * 5, none⟩ = some (.int .i64 c.segs[j].a) := by
                    rw [hbk.cell (p := ⟨b2, _, none⟩) hb2]; have := hcell j c.segs[j] (List.getElem?_eq_getElem hjl) 0 _ rfl; simpa using this
                  have f1 : wr.cell? ⟨b2, o2 + j * 5 + 1, none⟩ = some (.int .i64 c.segs[j].b) := by
                    rw [hbk.cell (p := ⟨b2, _, none⟩) hb2]; have := hcell j c.segs[j] (List.getElem?_eq_getElem hjl) 1 _ rfl; simpa using this
                  have f2 : wr.cell? ⟨b2, o2 + j * 5 + 2, none⟩ = some (.int .i64 c.segs[j].depth) := by
                    rw [hbk.cell (p := ⟨b2, _, none⟩) hb2]; have := hcell j c.segs[j] (List.getElem?_eq_getElem hjl) 2 _ rfl; simpa using this
                  have f3 : wr.cell? ⟨b2, o2 + j * 5 + 3, none⟩ = some (.int .i64 c.segs[j].minutes) := by
                    rw [hbk.cell (p := ⟨b2, _, none⟩) hb2]; have := hcell j c.segs[j] (List.getElem?_eq_getElem hjl) 3 _ rfl; simpa using this
                  have f4 : wr.cell? ⟨b2, o2 + j * 5 + 4, none⟩ = some (.bool c.segs[j].meet) := by
                    rw [hbk.cell (p := ⟨b2, _, none⟩) hb2]; have := hcell j c.segs[j] (List.getElem?_eq_getElem hjl) 4 _ rfl; simpa using this
                  have hz3 : b2 < wr.heap.size := by omega
                  have HEJ := hide (show notJoin c.segs c.segs[k] j = !joins c.segs[j] c.segs[k].a c.segs[k].b by unfold notJoin; rw [getD_at hjl])
                  clear hcell e0 e1 e2 e3 e4 y0 y1
                  go_wp2_with (go_at_call 132; refine (l05Joins_any c.segs[j] _ _ _).mono ?_; rintro e w1 ⟨rfl, hb'⟩; (first | have hb := bnext hb hb' | have hb := bnextA hb hb' | have hb := hb'); clear hb'; obtain ⟨hc, hf⟩ := bcell hb; have hz := hb.size; (try simp at hz))
                  all_goals first
                    | (have hbad : notJoin c.segs c.segs[k] j = false := by (rw [HEJ.out]; simp_all [-hc, -hf]; done)
                       have HB := hide (show segRow ((c.points.length : Int) - 1) c.segs k = false by rw [HE.out, allUpTo_bad hjk hbad]; simp); clear hbad
                       go_ret
                       exact ⟨by simp [chartOk, allUpTo_bad hlt HB.out], (by repeat (first | exact Below.refl _ _ | assumption | refine Below.setCell ?_ (by first | omega | (simp <;> omega)) _ | refine Below.alloc ?_ (by first | omega | (simp <;> omega)) _ | refine below_drewN ?_ _ | refine Below.drew ?_ | refine Below.trans ?_ (Below.mono (by assumption) (by first | omega | (simp <;> omega)))))⟩)
                    | (have hgood : notJoin c.segs c.segs[k] j = true := by (rw [HEJ.out]; simp_all [-hc, -hf]; done)
                       have HGJ := hide hgood; clear hgood
                       go_roundw
                       case rel => exact ⟨j + 1, by omega, by go_num, hide (allUpTo_succ HJ.out HGJ.out), cellKeep (B := wr.heap.size) (w1 := wr) (by repeat (first | exact Below.refl _ _ | assumption | refine Below.setCell ?_ (by first | omega | (simp <;> omega)) _ | refine Below.alloc ?_ (by first | omega | (simp <;> omega)) _ | refine below_drewN ?_ _ | refine Below.drew ?_ | refine Below.trans ?_ (Below.mono (by assumption) (by first | omega | (simp <;> omega))))) z0 hl1, cellKeep (B := wr.heap.size) (w1 := wr) (by repeat (first | exact Below.refl _ _ | assumption | refine Below.setCell ?_ (by first | omega | (simp <;> omega)) _ | refine Below.alloc ?_ (by first | omega | (simp <;> omega)) _ | refine below_drewN ?_ _ | refine Below.drew ?_ | refine Below.trans ?_ (Below.mono (by assumption) (by first | omega | (simp <;> omega))))) z1 hl1, by first | omega | (simp <;> omega), (by repeat (first | exact Below.refl _ _ | assumption | refine Below.setCell ?_ (by first | omega | (simp <;> omega)) _ | refine Below.alloc ?_ (by first | omega | (simp <;> omega)) _ | refine below_drewN ?_ _ | refine Below.drew ?_ | refine Below.trans ?_ (Below.mono (by assumption) (by first | omega | (simp <;> omega)))))⟩
                       case measure => simp [intOf]; omega)
                · obtain rfl : j = k := by omega
                  have HT := hide (show segRow ((c.points.length : Int) - 1) c.segs j = true by rw [HE.out, HG.out, HJ.out]; rfl)
                  go_wp2
                  go_roundw
                  case rel => exact ⟨j + 1, by omega, by go_num, hide (allUpTo_succ HM.out HT.out), cellKeep hbj y0 hl0, cellKeep hbj y1 hl0, by omega, hbk⟩
                  case measure => simp [intOf]; omega
            all_goals
              have HB := hide (show segRow ((c.points.length : Int) - 1) c.segs k = false by rw [HE.out]; first | (simp [segFit, *]; done) | (simp at g3; simp [segFit, *]; done))
              try (have g3' : (c.segs[k].a == c.segs[k].b) = false := by simpa using g3)
              try (have g3' : (c.segs[k].a == c.segs[k].b) = true := by simpa using g3)
              try clear g3
              go_wp2_with (first | (go_at_call 68; refine (l01In_any _ _ _ _).mono ?_; rintro e w1 ⟨rfl, hw⟩; obtain rfl := hw.symm))
              go_ret
              exact ⟨by simp [chartOk, allUpTo_bad hlt HB.out], (by repeat (first | exact Below.refl _ _ | assumption | refine Below.setCell ?_ (by first | omega | (simp <;> omega)) _ | refine Below.alloc ?_ (by first | omega | (simp <;> omega)) _ | refine below_drewN ?_ _ | refine Below.drew ?_ | refine Below.trans ?_ (Below.mono (by assumption) (by first | omega | (simp <;> omega)))))⟩
          · obtain rfl : k = c.segs.length := by omega
            go_wp2
            go_ret
            exact ⟨by simp [chartOk, H8.out, H10.out, HN.out, HM.out], hb0⟩
  · have HF := hide (show chartOk c = false by unfold chartOk; rw [g1]; simp)
    have q1 : 8 < c.points.length := by simpa using g1
    clear h1 h2 g1
    go_enter Try.func108, Try.ntmps108
    go_wp2
    all_goals first
      | (exact absurd (show (c.points.length : Int) ≤ 8 by assumption) (by omega))
      | (go_ret; exact ⟨by rw [HF.out]; first | done | rfl, (by repeat (first | exact Below.refl _ _ | assumption | refine Below.setCell ?_ (by first | omega | (simp <;> omega)) _ | refine Below.alloc ?_ (by first | omega | (simp <;> omega)) _ | refine below_drewN ?_ _ | refine Below.drew ?_ | refine Below.trans ?_ (Below.mono (by assumption) (by first | omega | (simp <;> omega)))))⟩)
  · have HF := hide (show chartOk c = false by unfold chartOk; rw [g1, g2]; simp)
    have q1 : c.points.length ≤ 8 := by simpa using g1
    have q2 : 10 < c.segs.length := by simpa using g2
    clear h1 h2 g1 g2
    go_enter Try.func108, Try.ntmps108
    go_wp2
    all_goals first
      | (exact absurd (show (c.points.length : Int) ≤ 8 by assumption) (by omega))
      | (go_ret; exact ⟨by rw [HF.out]; first | done | rfl, (by repeat (first | exact Below.refl _ _ | assumption | refine Below.setCell ?_ (by first | omega | (simp <;> omega)) _ | refine Below.alloc ?_ (by first | omega | (simp <;> omega)) _ | refine below_drewN ?_ _ | refine Below.drew ?_ | refine Below.trans ?_ (Below.mono (by assumption) (by first | omega | (simp <;> omega)))))⟩)
set_option maxRecDepth 100000 in
set_option maxHeartbeats 16000000 in
theorem impl_ChartOk_any (v1 v2 : Value) (c : ChartD) (w : World) (h : RdChart w w.heap.size v1 v2 c) (hok : ∀ x ∈ c.points, x.name.size ≤ maxLen) :
    Calls Try.prog 47 #[.agg #[v1, v2]] w fun e w' => e = .returned (.bool (chartOk c)) ∧ Below w.heap.size w w' := by
  have HR := hide h
  obtain ⟨h1, h2⟩ := h
  obtain ⟨A1, c1, rfl, hc1, hm1, h1⟩ := h1
  obtain ⟨A2, c2, rfl, hc2, hm2, h2⟩ := h2
  unfold maxLen at hm1 hm2
  rcases ch2 (decide (c.points.length ≤ 8)) (decide (c.segs.length ≤ 10)) with ⟨g1, g2⟩ | g1 | ⟨g1, g2⟩
  · have l8 : c.points.length ≤ 8 := by simpa using g1
    have l10 : c.segs.length ≤ 10 := by simpa using g2
    have H8 := hide l8; have H10 := hide l10
    clear g1 g2
    go_enter Try.func47, Try.ntmps47
    go_wp2
    try any_goals (exact absurd (show (8 : Int) < (c.points.length : Int) by assumption) (by omega))
    try any_goals (exact absurd (show (10 : Int) < (c.segs.length : Int) by assumption) (by omega))
    go_loopw [22] (fun i wr => ∃ k : Nat, k ≤ c.points.length ∧ i = .int .i64 k ∧ Hid (allUpTo (ptRow c.points) k = true) ∧ wr.cell? ⟨w.heap.size, 0, none⟩ = some (.slice A1 c.points.length c1) ∧ wr.cell? ⟨w.heap.size, 1, none⟩ = some (.slice A2 c.segs.length c2) ∧ w.heap.size < wr.heap.size ∧ Below w.heap.size w wr) (fun i _ => c.points.length - (intOf i).toNat)
    case atStart => exact ⟨0, Nat.zero_le _, rfl, hide rfl, by simp, by simp, by simp, (by repeat (first | exact Below.refl _ _ | assumption | refine Below.setCell ?_ (by first | omega | (simp <;> omega)) _ | refine Below.alloc ?_ (by first | omega | (simp <;> omega)) _ | refine below_drewN ?_ _ | refine Below.drew ?_ | refine Below.trans ?_ (Below.mono (by assumption) (by first | omega | (simp <;> omega)))))⟩
    case round =>
      obtain ⟨k, hk, rfl, HN, y0, y1, hl0, hb0⟩ := hrel
      obtain ⟨wo, rfl⟩ : ∃ wo : World, wo = wr := ⟨_, rfl⟩
      have hbs := hb0.size
      by_cases hlt : k < c.points.length
      · obtain ⟨b1, o1, rfl, hb1, hcell1⟩ := h1 (by omega)
        have hz1 : b1 < wo.heap.size := by omega
        have e0 : wo.cell? ⟨b1, o1 + k * 2, none⟩ = some (.string c.points[k].name) := by
          rw [hb0.cell (p := ⟨b1, _, none⟩) hb1]; have := hcell1 k c.points[k] (List.getElem?_eq_getElem hlt) 0 _ rfl; simpa using this
        have e1 : wo.cell? ⟨b1, o1 + k * 2 + 1, none⟩ = some (.bool c.points[k].wait) := by
          rw [hb0.cell (p := ⟨b1, _, none⟩) hb1]; have := hcell1 k c.points[k] (List.getElem?_eq_getElem hlt) 1 _ rfl; simpa using this
        have hsz := hok c.points[k] (List.getElem_mem hlt)
        have HE := hide (show ptRow c.points k = (isName c.points[k].name && decide (pointNamed c.points c.points[k].name = k)) by unfold ptRow; rw [getD_at hlt])
        clear hcell1 h1 hok h2
        go_wp2_with (first
          | (go_at_call 92; refine (impl_IsName_any _ _ hsz).mono ?_; rintro e w1 ⟨rfl, hb'⟩; (first | have hb := bnext hb hb' | have hb := bnextA hb hb' | have hb := hb'); clear hb'; obtain ⟨hc, hf⟩ := bcell hb; have hz := hb.size; (try simp at hz))
          | (go_at_call 93; refine (impl_PointNamed_any _ _ c.points _ _ ((HR.out.1.keep (B' := w.heap.size) (by repeat (first | exact Below.refl _ _ | assumption | refine Below.setCell ?_ (by first | omega | (simp <;> omega)) _ | refine Below.alloc ?_ (by first | omega | (simp <;> omega)) _ | refine below_drewN ?_ _ | refine Below.drew ?_ | refine Below.trans ?_ (Below.mono (by assumption) (by first | omega | (simp <;> omega))))) (Nat.le_refl _)).mono (by first | omega | (simp <;> omega)))).mono ?_; rintro e w1 ⟨rfl, hb'⟩; (first | have hb := bnext hb hb' | have hb := bnextA hb hb' | have hb := hb'); clear hb'; obtain ⟨hc, hf⟩ := bcell hb; have hz := hb.size; (try simp at hz)))
        all_goals first
          | (have hbad : ptRow c.points k = false := by (rw [HE.out]; simp_all [-hc, -hf]; done)
             have HB := hide hbad; clear hbad
             go_ret
             exact ⟨by simp [chartOk, allUpTo_bad hlt HB.out], (by repeat (first | exact Below.refl _ _ | assumption | refine Below.setCell ?_ (by first | omega | (simp <;> omega)) _ | refine Below.alloc ?_ (by first | omega | (simp <;> omega)) _ | refine below_drewN ?_ _ | refine Below.drew ?_ | refine Below.trans ?_ (Below.mono (by assumption) (by first | omega | (simp <;> omega)))))⟩)
          | (have hgood : ptRow c.points k = true := by (rw [HE.out]; simp_all [-hc, -hf]; done)
             have HG := hide hgood; clear hgood
             go_roundw
             case rel => exact ⟨k + 1, by omega, by go_num, hide (allUpTo_succ HN.out HG.out), cellKeep (B := wo.heap.size) (w1 := wo) (by repeat (first | exact Below.refl _ _ | assumption | refine Below.setCell ?_ (by first | omega | (simp <;> omega)) _ | refine Below.alloc ?_ (by first | omega | (simp <;> omega)) _ | refine below_drewN ?_ _ | refine Below.drew ?_ | refine Below.trans ?_ (Below.mono (by assumption) (by first | omega | (simp <;> omega))))) y0 hl0, cellKeep (B := wo.heap.size) (w1 := wo) (by repeat (first | exact Below.refl _ _ | assumption | refine Below.setCell ?_ (by first | omega | (simp <;> omega)) _ | refine Below.alloc ?_ (by first | omega | (simp <;> omega)) _ | refine below_drewN ?_ _ | refine Below.drew ?_ | refine Below.trans ?_ (Below.mono (by assumption) (by first | omega | (simp <;> omega))))) y1 hl0, by first | omega | (simp <;> omega), (by repeat (first | exact Below.refl _ _ | assumption | refine Below.setCell ?_ (by first | omega | (simp <;> omega)) _ | refine Below.alloc ?_ (by first | omega | (simp <;> omega)) _ | refine below_drewN ?_ _ | refine Below.drew ?_ | refine Below.trans ?_ (Below.mono (by assumption) (by first | omega | (simp <;> omega)))))⟩
             case measure => simp [intOf]; omega)
      · obtain rfl : k = c.points.length := by omega
        go_wp2
        go_loopw [43] (fun i wr => ∃ k : Nat, k ≤ c.segs.length ∧ i = .int .i64 k ∧ Hid (allUpTo (segRow ((c.points.length : Int) - 1) c.segs) k = true) ∧ wr.cell? ⟨w.heap.size, 0, none⟩ = some (.slice A1 c.points.length c1) ∧ wr.cell? ⟨w.heap.size, 1, none⟩ = some (.slice A2 c.segs.length c2) ∧ w.heap.size < wr.heap.size ∧ Below w.heap.size w wr) (fun i _ => c.segs.length - (intOf i).toNat)
        case atStart => exact ⟨0, Nat.zero_le _, rfl, hide rfl, y0, y1, hl0, hb0⟩
        case round =>
          clear y0 y1 hl0 hb0 hbs
          obtain ⟨k, hk, rfl, HM, y0, y1, hl0, hb0⟩ := hrel
          obtain ⟨wo', rfl⟩ : ∃ wo' : World, wo' = wr := ⟨_, rfl⟩
          have hbs := hb0.size
          by_cases hlt : k < c.segs.length
          · obtain ⟨b2, o2, rfl, hb2, hcell2⟩ := h2 (by omega)
            have hz2 : b2 < wo'.heap.size := by omega
            have e0 : wo'.cell? ⟨b2, o2 + k * 5, none⟩ = some (.int .i64 c.segs[k].a) := by
              rw [hb0.cell (p := ⟨b2, _, none⟩) hb2]; have := hcell2 k c.segs[k] (List.getElem?_eq_getElem hlt) 0 _ rfl; simpa using this
            have e1 : wo'.cell? ⟨b2, o2 + k * 5 + 1, none⟩ = some (.int .i64 c.segs[k].b) := by
              rw [hb0.cell (p := ⟨b2, _, none⟩) hb2]; have := hcell2 k c.segs[k] (List.getElem?_eq_getElem hlt) 1 _ rfl; simpa using this
            have e2 : wo'.cell? ⟨b2, o2 + k * 5 + 2, none⟩ = some (.int .i64 c.segs[k].depth) := by
              rw [hb0.cell (p := ⟨b2, _, none⟩) hb2]; have := hcell2 k c.segs[k] (List.getElem?_eq_getElem hlt) 2 _ rfl; simpa using this
            have e3 : wo'.cell? ⟨b2, o2 + k * 5 + 3, none⟩ = some (.int .i64 c.segs[k].minutes) := by
              rw [hb0.cell (p := ⟨b2, _, none⟩) hb2]; have := hcell2 k c.segs[k] (List.getElem?_eq_getElem hlt) 3 _ rfl; simpa using this
            have e4 : wo'.cell? ⟨b2, o2 + k * 5 + 4, none⟩ = some (.bool c.segs[k].meet) := by
              rw [hb0.cell (p := ⟨b2, _, none⟩) hb2]; have := hcell2 k c.segs[k] (List.getElem?_eq_getElem hlt) 4 _ rfl; simpa using this
            have HC := hide hcell2
            have HE := hide (show segRow ((c.points.length : Int) - 1) c.segs k = (segFit ((c.points.length : Int) - 1) c.segs[k] && allUpTo (notJoin c.segs c.segs[k]) k) by unfold segRow; rw [getD_at hlt])
            clear hcell2 h1 hok h2
            rcases ch5 (inB c.segs[k].a 0 ((c.points.length : Int) - 1)) (inB c.segs[k].b 0 ((c.points.length : Int) - 1)) (!(c.segs[k].a == c.segs[k].b)) (inB c.segs[k].depth 0 3000) (inB c.segs[k].minutes 1 240) with ⟨g1, g2, g3, g4, g5⟩ | g1 | ⟨g1, g2⟩ | ⟨g1, g2, g3⟩ | ⟨g1, g2, g3, g4⟩ | ⟨g1, g2, g3, g4, g5⟩
            · have HG := hide (show segFit ((c.points.length : Int) - 1) c.segs[k] = true by simp at g3; simp [segFit, *])
              have g3' : (c.segs[k].a == c.segs[k].b) = false := by simpa using g3
              clear g3
              go_wp2_with (first | (go_at_call 49; refine (isIndexB _ _ ((c.points.length : Int) - 1) _ (by omega)).mono ?_; rintro e w1 ⟨rfl, hw⟩; obtain rfl := hw.symm) | (go_at_call 94; refine (within_any _ _ _ _).mono ?_; rintro e w1 ⟨rfl, hw⟩; obtain rfl := hw.symm))
              clear g1 g2 g3' g4 g5
              go_loopw [88] (fun i wr => ∃ j : Nat, j ≤ k ∧ i = .int .i64 j ∧ Hid (allUpTo (notJoin c.segs c.segs[k]) j = true) ∧ wr.cell? ⟨wo'.heap.size, 0, none⟩ = some (.int .i64 c.segs[k].a) ∧ wr.cell? ⟨wo'.heap.size, 1, none⟩ = some (.int .i64 c.segs[k].b) ∧ wo'.heap.size < wr.heap.size ∧ Below wo'.heap.size wo' wr) (fun i _ => k - (intOf i).toNat)
              case atStart => exact ⟨0, Nat.zero_le _, rfl, hide rfl, by simp, by simp, by simp, (by repeat (first | exact Below.refl _ _ | assumption | refine Below.setCell ?_ (by first | omega | (simp <;> omega)) _ | refine Below.alloc ?_ (by first | omega | (simp <;> omega)) _ | refine below_drewN ?_ _ | refine Below.drew ?_ | refine Below.trans ?_ (Below.mono (by assumption) (by first | omega | (simp <;> omega)))))⟩
              case round =>
                obtain ⟨j, hj, rfl, HJ, z0, z1, hl1, hbj⟩ := hrel
                have hbk := bnext hb0 hbj (Nat.le_refl _)
                have hbks := hbk.size
                by_cases hjk : j < k
                · have hjl : j < c.segs.length := by omega
                  have hcell := HC.out
                  have f0 : wr.cell? ⟨b2, o2 + j * 5, none⟩ = some (.int .i64 c.segs[j].a) := by
                    rw [hbk.cell (p := ⟨b2, _, none⟩) hb2]; have := hcell j c.segs[j] (List.getElem?_eq_getElem hjl) 0 _ rfl; simpa using this
                  have f1 : wr.cell? ⟨b2, o2 + j * 5 + 1, none⟩ = some (.int .i64 c.segs[j].b) := by
                    rw [hbk.cell (p := ⟨b2, _, none⟩) hb2]; have := hcell j c.segs[j] (List.getElem?_eq_getElem hjl) 1 _ rfl; simpa using this
                  have f2 : wr.cell? ⟨b2, o2 + j * 5 + 2, none⟩ = some (.int .i64 c.segs[j].depth) := by
                    rw [hbk.cell (p := ⟨b2, _, none⟩) hb2]; have := hcell j c.segs[j] (List.getElem?_eq_getElem hjl) 2 _ rfl; simpa using this
                  have f3 : wr.cell? ⟨b2, o2 + j * 5 + 3, none⟩ = some (.int .i64 c.segs[j].minutes) := by
                    rw [hbk.cell (p := ⟨b2, _, none⟩) hb2]; have := hcell j c.segs[j] (List.getElem?_eq_getElem hjl) 3 _ rfl; simpa using this
                  have f4 : wr.cell? ⟨b2, o2 + j * 5 + 4, none⟩ = some (.bool c.segs[j].meet) := by
                    rw [hbk.cell (p := ⟨b2, _, none⟩) hb2]; have := hcell j c.segs[j] (List.getElem?_eq_getElem hjl) 4 _ rfl; simpa using this
                  have hz3 : b2 < wr.heap.size := by omega
                  have HEJ := hide (show notJoin c.segs c.segs[k] j = !joins c.segs[j] c.segs[k].a c.segs[k].b by unfold notJoin; rw [getD_at hjl])
                  clear hcell e0 e1 e2 e3 e4 y0 y1
                  go_wp2_with (go_at_call 95; refine (joins__any c.segs[j] _ _ _).mono ?_; rintro e w1 ⟨rfl, hb'⟩; (first | have hb := bnext hb hb' | have hb := bnextA hb hb' | have hb := hb'); clear hb'; obtain ⟨hc, hf⟩ := bcell hb; have hz := hb.size; (try simp at hz))
                  all_goals first
                    | (have hbad : notJoin c.segs c.segs[k] j = false := by (rw [HEJ.out]; simp_all [-hc, -hf]; done)
                       have HB := hide (show segRow ((c.points.length : Int) - 1) c.segs k = false by rw [HE.out, allUpTo_bad hjk hbad]; simp); clear hbad
                       go_ret
                       exact ⟨by simp [chartOk, allUpTo_bad hlt HB.out], (by repeat (first | exact Below.refl _ _ | assumption | refine Below.setCell ?_ (by first | omega | (simp <;> omega)) _ | refine Below.alloc ?_ (by first | omega | (simp <;> omega)) _ | refine below_drewN ?_ _ | refine Below.drew ?_ | refine Below.trans ?_ (Below.mono (by assumption) (by first | omega | (simp <;> omega)))))⟩)
                    | (have hgood : notJoin c.segs c.segs[k] j = true := by (rw [HEJ.out]; simp_all [-hc, -hf]; done)
                       have HGJ := hide hgood; clear hgood
                       go_roundw
                       case rel => exact ⟨j + 1, by omega, by go_num, hide (allUpTo_succ HJ.out HGJ.out), cellKeep (B := wr.heap.size) (w1 := wr) (by repeat (first | exact Below.refl _ _ | assumption | refine Below.setCell ?_ (by first | omega | (simp <;> omega)) _ | refine Below.alloc ?_ (by first | omega | (simp <;> omega)) _ | refine below_drewN ?_ _ | refine Below.drew ?_ | refine Below.trans ?_ (Below.mono (by assumption) (by first | omega | (simp <;> omega))))) z0 hl1, cellKeep (B := wr.heap.size) (w1 := wr) (by repeat (first | exact Below.refl _ _ | assumption | refine Below.setCell ?_ (by first | omega | (simp <;> omega)) _ | refine Below.alloc ?_ (by first | omega | (simp <;> omega)) _ | refine below_drewN ?_ _ | refine Below.drew ?_ | refine Below.trans ?_ (Below.mono (by assumption) (by first | omega | (simp <;> omega))))) z1 hl1, by first | omega | (simp <;> omega), (by repeat (first | exact Below.refl _ _ | assumption | refine Below.setCell ?_ (by first | omega | (simp <;> omega)) _ | refine Below.alloc ?_ (by first | omega | (simp <;> omega)) _ | refine below_drewN ?_ _ | refine Below.drew ?_ | refine Below.trans ?_ (Below.mono (by assumption) (by first | omega | (simp <;> omega)))))⟩
                       case measure => simp [intOf]; omega)
                · obtain rfl : j = k := by omega
                  have HT := hide (show segRow ((c.points.length : Int) - 1) c.segs j = true by rw [HE.out, HG.out, HJ.out]; rfl)
                  go_wp2
                  go_roundw
                  case rel => exact ⟨j + 1, by omega, by go_num, hide (allUpTo_succ HM.out HT.out), cellKeep hbj y0 hl0, cellKeep hbj y1 hl0, by omega, hbk⟩
                  case measure => simp [intOf]; omega
            all_goals
              have HB := hide (show segRow ((c.points.length : Int) - 1) c.segs k = false by rw [HE.out]; first | (simp [segFit, *]; done) | (simp at g3; simp [segFit, *]; done))
              try (have g3' : (c.segs[k].a == c.segs[k].b) = false := by simpa using g3)
              try (have g3' : (c.segs[k].a == c.segs[k].b) = true := by simpa using g3)
              try clear g3
              go_wp2_with (first | (go_at_call 49; refine (isIndexB _ _ ((c.points.length : Int) - 1) _ (by omega)).mono ?_; rintro e w1 ⟨rfl, hw⟩; obtain rfl := hw.symm) | (go_at_call 94; refine (within_any _ _ _ _).mono ?_; rintro e w1 ⟨rfl, hw⟩; obtain rfl := hw.symm))
              go_ret
              exact ⟨by simp [chartOk, allUpTo_bad hlt HB.out], (by repeat (first | exact Below.refl _ _ | assumption | refine Below.setCell ?_ (by first | omega | (simp <;> omega)) _ | refine Below.alloc ?_ (by first | omega | (simp <;> omega)) _ | refine below_drewN ?_ _ | refine Below.drew ?_ | refine Below.trans ?_ (Below.mono (by assumption) (by first | omega | (simp <;> omega)))))⟩
          · obtain rfl : k = c.segs.length := by omega
            go_wp2
            go_ret
            exact ⟨by simp [chartOk, H8.out, H10.out, HN.out, HM.out], hb0⟩
  · have HF := hide (show chartOk c = false by unfold chartOk; rw [g1]; simp)
    have q1 : 8 < c.points.length := by simpa using g1
    clear h1 h2 g1
    go_enter Try.func47, Try.ntmps47
    go_wp2
    all_goals first
      | (exact absurd (show (c.points.length : Int) ≤ 8 by assumption) (by omega))
      | (go_ret; exact ⟨by rw [HF.out]; first | done | rfl, (by repeat (first | exact Below.refl _ _ | assumption | refine Below.setCell ?_ (by first | omega | (simp <;> omega)) _ | refine Below.alloc ?_ (by first | omega | (simp <;> omega)) _ | refine below_drewN ?_ _ | refine Below.drew ?_ | refine Below.trans ?_ (Below.mono (by assumption) (by first | omega | (simp <;> omega)))))⟩)
  · have HF := hide (show chartOk c = false by unfold chartOk; rw [g1, g2]; simp)
    have q1 : c.points.length ≤ 8 := by simpa using g1
    have q2 : 10 < c.segs.length := by simpa using g2
    clear h1 h2 g1 g2
    go_enter Try.func47, Try.ntmps47
    go_wp2
    all_goals first
      | (exact absurd (show (c.points.length : Int) ≤ 8 by assumption) (by omega))
      | (go_ret; exact ⟨by rw [HF.out]; first | done | rfl, (by repeat (first | exact Below.refl _ _ | assumption | refine Below.setCell ?_ (by first | omega | (simp <;> omega)) _ | refine Below.alloc ?_ (by first | omega | (simp <;> omega)) _ | refine below_drewN ?_ _ | refine Below.drew ?_ | refine Below.trans ?_ (Below.mono (by assumption) (by first | omega | (simp <;> omega)))))⟩)
end Go.Proofs.Ytpbcbdjjpkenjaa
