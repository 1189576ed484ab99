/- Minutes of routes, arrivals. No condition. -/
import Derived.Test.YtefidlecandnlaaAfloat
import Derived.Test.YtefidlecandnlaaInts
namespace Go.Proofs.Ytefidlecandnlaa
open Go.RowKit
set_option linter.unusedVariables false

def segIn (c : ChartD) (r : List Int) (i : Nat) : Bool := inB (r.getD i default) 0 ((c.segs.length : Int) - 1)
def minSum (c : ChartD) (r : List Int) : Nat → Int
  | 0 => 0
  | k + 1 => minSum c r k + (segAt c (r.getD k default)).minutes
def routeMin (c : ChartD) (r : List Int) : Int := if chartOk c = true ∧ allUpTo (segIn c r) r.length = true then minSum c r r.length else -1
theorem minSum_range {c : ChartD} (hc : chartOk c = true) {r : List Int} : ∀ {k : Nat}, allUpTo (segIn c r) k = true → 0 ≤ minSum c r k ∧ minSum c r k ≤ 240 * k
  | 0, _ => by simp [minSum]
  | k + 1, h => by
    have h1 := allUpTo_iff.1 h k (by omega)
    have h2 := minSum_range hc (r := r) (k := k) (allUpTo_iff.2 fun j hj => allUpTo_iff.1 h j (by omega))
    unfold segIn at h1
    obtain ⟨a, ha, ha2⟩ := idx_nat h1
    obtain ⟨-, -, -, -, -, -, -, q1, q2⟩ := chart_seg hc ha2
    rw [minSum, ha, segAt_nat ha2]; omega
theorem routeMin_neg {c : ChartD} {r : List Int} (h : (chartOk c && allUpTo (segIn c r) r.length) = false) : routeMin c r = -1 := by
  unfold routeMin; rw [if_neg]; intro e; simp [e.1, e.2] at h
theorem routeMin_pos {c : ChartD} {r : List Int} (h1 : chartOk c = true) (h2 : allUpTo (segIn c r) r.length = true) : routeMin c r = minSum c r r.length := by
  unfold routeMin; rw [if_pos ⟨h1, h2⟩]
theorem routeMin_iff {c : ChartD} {r : List Int} (h : 0 ≤ routeMin c r) : chartOk c = true ∧ allUpTo (segIn c r) r.length = true := by
  unfold routeMin at h; split at h
  · assumption
  · omega
def arrivalOk (c : ChartD) (s : ShipD) (r st : List Int) : Bool := decide (0 ≤ routeMin c r) && shipOk s && decide (r.length = st.length) && !decide (r.length = 0)
def arrivalOf (c : ChartD) (s : ShipD) (r st : List Int) : Int :=
  if arrivalOk c s r st = true then (if inB (st.getD (st.length - 1) default) 0 2880 = true then st.getD (st.length - 1) default + shipMinutes (segAt c (r.getD (r.length - 1) default)) s else -1) else -1
set_option maxRecDepth 100000 in
set_option maxHeartbeats 8000000 in
theorem spec_RouteMinutes_any (v1 v2 v3 : Value) (c : ChartD) (r : List Int) (w : World) (h : RdChart w w.heap.size v1 v2 c) (h3 : RdI w v3 r) (hn : r.length ≤ 1048576) (hok : ∀ x ∈ c.points, x.name.size ≤ maxLen) :
    Calls Try.prog 84 #[.agg #[v1, v2], v3] w fun e w' => e = .returned (.int .i64 (routeMin c r)) ∧ Below w.heap.size w w' := by
  have HR := hide h
  obtain ⟨h1, h2⟩ := h
  obtain ⟨A1, c1, rfl, hc1, hm1, h1⟩ := h1
  obtain ⟨A2, c2, rfl, hc2, hm2, h2⟩ := h2
  obtain ⟨A3, c3, rfl, hc3, hm3, h3⟩ := h3
  unfold maxLen at hm1 hm2 hm3
  clear h1
  have hl2 : (c.segs.length : Int) ≤ 9223372036854775807 := by omega
  have hl3 : (r.length : Int) ≤ 9223372036854775807 := by omega
  rcases ch1 (chartOk c) with g1 | g1
  · have G1 := hide g1
    go_enter Try.func84, Try.ntmps84
    go_wp2_with (go_at_call 64; refine (spec_ChartOk_any _ _ c _ ((HR.out.keep (B' := w.heap.size) (by repeat (first | exact Below.refl _ _ | assumption | refine Below.setCell ?_ (by first | omega | (simp <;> omega)) _ | refine Below.alloc ?_ (by first | omega | (simp <;> omega)) _ | refine below_drewN ?_ _ | refine Below.drew ?_ | refine Below.trans ?_ (Below.mono (by assumption) (by first | omega | (simp <;> omega))))) (Nat.le_refl _)).mono (by first | omega | (simp <;> omega))) hok).mono ?_; rintro e w1 ⟨rfl, hb'⟩; (first | have hb := bnext hb hb' | have hb := bnextA hb hb' | have hb := hb'); clear hb'; obtain ⟨hc, hf⟩ := bcell hb; have hz := hb.size; (try simp at hz))
    go_loopw [5, 13] (fun s i wr => ∃ k : Nat, k ≤ r.length ∧ i = .int .i64 k ∧ s = .int .i64 (minSum c r k) ∧ Hid (allUpTo (segIn c r) k = true) ∧ wr.cell? ⟨w.heap.size, 0, none⟩ = some (.slice A1 c.points.length c1) ∧ wr.cell? ⟨w.heap.size, 1, none⟩ = some (.slice A2 c.segs.length c2) ∧ w.heap.size < wr.heap.size ∧ Below w.heap.size w wr) (fun _ i _ => r.length - (intOf i).toNat)
    case atStart => exact ⟨0, Nat.zero_le _, rfl, rfl, hide rfl, by first | simp [go_sem] | simp [hc, go_sem], by first | simp [go_sem] | simp [hc, go_sem], by first | omega | simp, (by repeat (first | exact Below.refl _ _ | assumption | refine Below.setCell ?_ (by first | omega | (simp <;> omega)) _ | refine Below.alloc ?_ (by first | omega | (simp <;> omega)) _ | refine below_drewN ?_ _ | refine Below.drew ?_ | refine Below.trans ?_ (Below.mono (by assumption) (by first | omega | (simp <;> omega)))))⟩
    case round =>
      (try clear hc hf hz hb)
      obtain ⟨k, hk, rfl, rfl, HN, y0, y1, hl0, hb0⟩ := hrel
      obtain ⟨wo, rfl⟩ : ∃ wo : World, wo = wr := ⟨_, rfl⟩
      have hbs := hb0.size
      by_cases hlt : k < r.length
      · obtain ⟨b3, o3, rfl, hb3, hcell3⟩ := h3 (by omega)
        have e0 : wo.cell? ⟨b3, o3 + k, none⟩ = some (.int .i64 (r[k])) := by
          rw [hb0.cell (p := ⟨b3, _, none⟩) hb3]; have := hcell3 k r[k] (List.getElem?_eq_getElem hlt) 0 _ rfl; simpa using this
        have HX := hide (show segIn c r k = inB r[k] 0 ((c.segs.length : Int) - 1) by unfold segIn; rw [getD_at hlt])
        have HS := hide (show minSum c r (k + 1) = minSum c r k + (segAt c r[k]).minutes by rw [minSum, getD_at hlt])
        clear h3 hcell3
        obtain ⟨m0, m1⟩ := minSum_range G1.out (r := r) HN.out
        have hz3 : b3 < wo.heap.size := by omega
        rcases ch1 (inB r[k] 0 ((c.segs.length : Int) - 1)) with g2 | g2
        · obtain ⟨a, ha, ha2⟩ := idx_nat g2
          obtain ⟨-, -, -, -, -, -, -, q1, q2⟩ := chart_seg G1.out ha2
          obtain ⟨b2, o2, rfl, hb2, hcell2⟩ := h2 (by omega)
          have f0 : wo.cell? ⟨b2, o2 + a * 5, none⟩ = some (.int .i64 c.segs[a].a) := by
            rw [hb0.cell (p := ⟨b2, _, none⟩) hb2]; have := hcell2 a c.segs[a] (List.getElem?_eq_getElem ha2) 0 _ rfl; simpa using this
          have f1 : wo.cell? ⟨b2, o2 + a * 5 + 1, none⟩ = some (.int .i64 c.segs[a].b) := by
            rw [hb0.cell (p := ⟨b2, _, none⟩) hb2]; have := hcell2 a c.segs[a] (List.getElem?_eq_getElem ha2) 1 _ rfl; simpa using this
          have f2 : wo.cell? ⟨b2, o2 + a * 5 + 2, none⟩ = some (.int .i64 c.segs[a].depth) := by
            rw [hb0.cell (p := ⟨b2, _, none⟩) hb2]; have := hcell2 a c.segs[a] (List.getElem?_eq_getElem ha2) 2 _ rfl; simpa using this
          have f3 : wo.cell? ⟨b2, o2 + a * 5 + 3, none⟩ = some (.int .i64 c.segs[a].minutes) := by
            rw [hb0.cell (p := ⟨b2, _, none⟩) hb2]; have := hcell2 a c.segs[a] (List.getElem?_eq_getElem ha2) 3 _ rfl; simpa using this
          have f4 : wo.cell? ⟨b2, o2 + a * 5 + 4, none⟩ = some (.bool c.segs[a].meet) := by
            rw [hb0.cell (p := ⟨b2, _, none⟩) hb2]; have := hcell2 a c.segs[a] (List.getElem?_eq_getElem ha2) 4 _ rfl; simpa using this
          have hz2 : b2 < wo.heap.size := by omega
          have ha3 : (a : Int) < c.segs.length := by omega
          have HG := hide (show segIn c r k = true by rw [HX.out]; exact g2)
          rw [ha] at g2 e0
          have HA := hide (show minSum c r (k + 1) = minSum c r k + c.segs[a].minutes by rw [HS.out, ha, segAt_nat ha2])
          clear hcell2 h2 ha
          generalize minSum c r k = acc at *
          go_wp2_with (go_at_call 66; refine (l01In_any _ _ _ _).mono ?_; rintro e w1 ⟨rfl, hw⟩; obtain rfl := hw.symm)
          go_roundw
          case rel => exact ⟨k + 1, by omega, by go_num, by rw [HA.out], hide (allUpTo_succ HN.out HG.out), y0, y1, hl0, hb0⟩
          case measure => simp [intOf]; omega
        · have HF := hide (routeMin_neg (c := c) (r := r) (by rw [allUpTo_bad hlt (by rw [HX.out]; exact g2)]; simp))
          clear h2
          go_wp2_with (go_at_call 66; refine (l01In_any _ _ _ _).mono ?_; rintro e w1 ⟨rfl, hw⟩; obtain rfl := hw.symm)
          go_ret
          exact ⟨ret_int (by rw [HF.out]; first | done | rfl), hb0⟩
      · obtain rfl : k = r.length := by omega
        have HF := hide (routeMin_pos G1.out HN.out)
        go_wp2
        go_ret
        exact ⟨ret_int (by rw [HF.out]; first | done | rfl), hb0⟩
  · have HF := hide (routeMin_neg (c := c) (r := r) (by rw [g1]; rfl))
    clear h2 h3
    go_enter Try.func84, Try.ntmps84
    go_wp2_with (go_at_call 64; refine (spec_ChartOk_any _ _ c _ ((HR.out.keep (B' := w.heap.size) (by repeat (first | exact Below.refl _ _ | assumption | refine Below.setCell ?_ (by first | omega | (simp <;> omega)) _ | refine Below.alloc ?_ (by first | omega | (simp <;> omega)) _ | refine below_drewN ?_ _ | refine Below.drew ?_ | refine Below.trans ?_ (Below.mono (by assumption) (by first | omega | (simp <;> omega))))) (Nat.le_refl _)).mono (by first | omega | (simp <;> omega))) hok).mono ?_; rintro e w1 ⟨rfl, hb'⟩; (first | have hb := bnext hb hb' | have hb := bnextA hb hb' | have hb := hb'); clear hb'; obtain ⟨hc, hf⟩ := bcell hb; have hz := hb.size; (try simp at hz))
    go_ret
    exact ⟨ret_int (by rw [HF.out]; first | done | rfl), (by repeat (first | exact Below.refl _ _ | assumption | refine Below.setCell ?_ (by first | omega | (simp <;> omega)) _ | refine Below.alloc ?_ (by first | omega | (simp <;> omega)) _ | refine below_drewN ?_ _ | refine Below.drew ?_ | refine Below.trans ?_ (Below.mono (by assumption) (by first | omega | (simp <;> omega)))))⟩
set_option maxRecDepth 100000 in
set_option maxHeartbeats 8000000 in
theorem impl_RouteMinutes_any (v1 v2 v3 : Value) (c : ChartD) (r : List Int) (w : World) (h : RdChart w w.heap.size v1 v2 c) (h3 : RdI w v3 r) (hn : r.length ≤ 1048576) (hok : ∀ x ∈ c.points, x.name.size ≤ maxLen) :
    Calls Try.prog 85 #[.agg #[v1, v2], v3] w fun e w' => e = .returned (.int .i64 (routeMin c r)) ∧ Below w.heap.size w w' := by
  have HR := hide h
  obtain ⟨h1, h2⟩ := h
  obtain ⟨A1, c1, rfl, hc1, hm1, h1⟩ := h1
  obtain ⟨A2, c2, rfl, hc2, hm2, h2⟩ := h2
  obtain ⟨A3, c3, rfl, hc3, hm3, h3⟩ := h3
  unfold maxLen at hm1 hm2 hm3
  clear h1
  have hl2 : (c.segs.length : Int) ≤ 9223372036854775807 := by omega
  have hl3 : (r.length : Int) ≤ 9223372036854775807 := by omega
  rcases ch1 (chartOk c) with g1 | g1
  · have G1 := hide g1
    go_enter Try.func85, Try.ntmps85
    go_wp2_with (go_at_call 70; refine (impl_ChartOk_any _ _ c _ ((HR.out.keep (B' := w.heap.size) (by repeat (first | exact Below.refl _ _ | assumption | refine Below.setCell ?_ (by first | omega | (simp <;> omega)) _ | refine Below.alloc ?_ (by first | omega | (simp <;> omega)) _ | refine below_drewN ?_ _ | refine Below.drew ?_ | refine Below.trans ?_ (Below.mono (by assumption) (by first | omega | (simp <;> omega))))) (Nat.le_refl _)).mono (by first | omega | (simp <;> omega))) hok).mono ?_; rintro e w1 ⟨rfl, hb'⟩; (first | have hb := bnext hb hb' | have hb := bnextA hb hb' | have hb := hb'); clear hb'; obtain ⟨hc, hf⟩ := bcell hb; have hz := hb.size; (try simp at hz))
    go_loopw [5, 13] (fun s i wr => ∃ k : Nat, k ≤ r.length ∧ i = .int .i64 k ∧ s = .int .i64 (minSum c r k) ∧ Hid (allUpTo (segIn c r) k = true) ∧ wr.cell? ⟨w.heap.size, 0, none⟩ = some (.slice A1 c.points.length c1) ∧ wr.cell? ⟨w.heap.size, 1, none⟩ = some (.slice A2 c.segs.length c2) ∧ w.heap.size < wr.heap.size ∧ Below w.heap.size w wr) (fun _ i _ => r.length - (intOf i).toNat)
    case atStart => exact ⟨0, Nat.zero_le _, rfl, rfl, hide rfl, by first | simp [go_sem] | simp [hc, go_sem], by first | simp [go_sem] | simp [hc, go_sem], by first | omega | simp, (by repeat (first | exact Below.refl _ _ | assumption | refine Below.setCell ?_ (by first | omega | (simp <;> omega)) _ | refine Below.alloc ?_ (by first | omega | (simp <;> omega)) _ | refine below_drewN ?_ _ | refine Below.drew ?_ | refine Below.trans ?_ (Below.mono (by assumption) (by first | omega | (simp <;> omega)))))⟩
    case round =>
      (try clear hc hf hz hb)
      obtain ⟨k, hk, rfl, rfl, HN, y0, y1, hl0, hb0⟩ := hrel
      obtain ⟨wo, rfl⟩ : ∃ wo : World, wo = wr := ⟨_, rfl⟩
      have hbs := hb0.size
      by_cases hlt : k < r.length
      · obtain ⟨b3, o3, rfl, hb3, hcell3⟩ := h3 (by omega)
        have e0 : wo.cell? ⟨b3, o3 + k, none⟩ = some (.int .i64 (r[k])) := by
          rw [hb0.cell (p := ⟨b3, _, none⟩) hb3]; have := hcell3 k r[k] (List.getElem?_eq_getElem hlt) 0 _ rfl; simpa using this
        have HX := hide (show segIn c r k = inB r[k] 0 ((c.segs.length : Int) - 1) by unfold segIn; rw [getD_at hlt])
        have HS := hide (show minSum c r (k + 1) = minSum c r k + (segAt c r[k]).minutes by rw [minSum, getD_at hlt])
        clear h3 hcell3
        obtain ⟨m0, m1⟩ := minSum_range G1.out (r := r) HN.out
        have hz3 : b3 < wo.heap.size := by omega
        rcases ch1 (inB r[k] 0 ((c.segs.length : Int) - 1)) with g2 | g2
        · obtain ⟨a, ha, ha2⟩ := idx_nat g2
          obtain ⟨-, -, -, -, -, -, -, q1, q2⟩ := chart_seg G1.out ha2
          obtain ⟨b2, o2, rfl, hb2, hcell2⟩ := h2 (by omega)
          have f0 : wo.cell? ⟨b2, o2 + a * 5, none⟩ = some (.int .i64 c.segs[a].a) := by
            rw [hb0.cell (p := ⟨b2, _, none⟩) hb2]; have := hcell2 a c.segs[a] (List.getElem?_eq_getElem ha2) 0 _ rfl; simpa using this
          have f1 : wo.cell? ⟨b2, o2 + a * 5 + 1, none⟩ = some (.int .i64 c.segs[a].b) := by
            rw [hb0.cell (p := ⟨b2, _, none⟩) hb2]; have := hcell2 a c.segs[a] (List.getElem?_eq_getElem ha2) 1 _ rfl; simpa using this
          have f2 : wo.cell? ⟨b2, o2 + a * 5 + 2, none⟩ = some (.int .i64 c.segs[a].depth) := by
            rw [hb0.cell (p := ⟨b2, _, none⟩) hb2]; have := hcell2 a c.segs[a] (List.getElem?_eq_getElem ha2) 2 _ rfl; simpa using this
          have f3 : wo.cell? ⟨b2, o2 + a * 5 + 3, none⟩ = some (.int .i64 c.segs[a].minutes) := by
            rw [hb0.cell (p := ⟨b2, _, none⟩) hb2]; have := hcell2 a c.segs[a] (List.getElem?_eq_getElem ha2) 3 _ rfl; simpa using this
          have f4 : wo.cell? ⟨b2, o2 + a * 5 + 4, none⟩ = some (.bool c.segs[a].meet) := by
            rw [hb0.cell (p := ⟨b2, _, none⟩) hb2]; have := hcell2 a c.segs[a] (List.getElem?_eq_getElem ha2) 4 _ rfl; simpa using this
          have hz2 : b2 < wo.heap.size := by omega
          have ha3 : (a : Int) < c.segs.length := by omega
          have HG := hide (show segIn c r k = true by rw [HX.out]; exact g2)
          rw [ha] at g2 e0
          have HA := hide (show minSum c r (k + 1) = minSum c r k + c.segs[a].minutes by rw [HS.out, ha, segAt_nat ha2])
          clear hcell2 h2 ha
          generalize minSum c r k = acc at *
          go_wp2_with (go_at_call 72; refine (isIndexB _ _ ((c.segs.length : Int) - 1) _ (by omega)).mono ?_; rintro e w1 ⟨rfl, hw⟩; obtain rfl := hw.symm)
          go_roundw
          case rel => exact ⟨k + 1, by omega, by go_num, by rw [HA.out], hide (allUpTo_succ HN.out HG.out), y0, y1, hl0, hb0⟩
          case measure => simp [intOf]; omega
        · have HF := hide (routeMin_neg (c := c) (r := r) (by rw [allUpTo_bad hlt (by rw [HX.out]; exact g2)]; simp))
          clear h2
          go_wp2_with (go_at_call 72; refine (isIndexB _ _ ((c.segs.length : Int) - 1) _ (by omega)).mono ?_; rintro e w1 ⟨rfl, hw⟩; obtain rfl := hw.symm)
          go_ret
          exact ⟨ret_int (by rw [HF.out]; first | done | rfl), hb0⟩
      · obtain rfl : k = r.length := by omega
        have HF := hide (routeMin_pos G1.out HN.out)
        go_wp2
        go_ret
        exact ⟨ret_int (by rw [HF.out]; first | done | rfl), hb0⟩
  · have HF := hide (routeMin_neg (c := c) (r := r) (by rw [g1]; rfl))
    clear h2 h3
    go_enter Try.func85, Try.ntmps85
    go_wp2_with (go_at_call 70; refine (impl_ChartOk_any _ _ c _ ((HR.out.keep (B' := w.heap.size) (by repeat (first | exact Below.refl _ _ | assumption | refine Below.setCell ?_ (by first | omega | (simp <;> omega)) _ | refine Below.alloc ?_ (by first | omega | (simp <;> omega)) _ | refine below_drewN ?_ _ | refine Below.drew ?_ | refine Below.trans ?_ (Below.mono (by assumption) (by first | omega | (simp <;> omega))))) (Nat.le_refl _)).mono (by first | omega | (simp <;> omega))) hok).mono ?_; rintro e w1 ⟨rfl, hb'⟩; (first | have hb := bnext hb hb' | have hb := bnextA hb hb' | have hb := hb'); clear hb'; obtain ⟨hc, hf⟩ := bcell hb; have hz := hb.size; (try simp at hz))
    go_ret
    exact ⟨ret_int (by rw [HF.out]; first | done | rfl), (by repeat (first | exact Below.refl _ _ | assumption | refine Below.setCell ?_ (by first | omega | (simp <;> omega)) _ | refine Below.alloc ?_ (by first | omega | (simp <;> omega)) _ | refine below_drewN ?_ _ | refine Below.drew ?_ | refine Below.trans ?_ (Below.mono (by assumption) (by first | omega | (simp <;> omega)))))⟩
set_option maxRecDepth 100000 in
set_option maxHeartbeats 8000000 in
theorem spec_ArrivalOf_any (v1 v2 v3 v4 : Value) (c : ChartD) (s : ShipD) (r st : List Int) (w : World) (h : RdChart w w.heap.size v1 v2 c) (h3 : RdI w v3 r) (h4 : RdI w v4 st) (hn : r.length ≤ 1048576) (hok : ∀ x ∈ c.points, x.name.size ≤ maxLen) (hs : s.name.size ≤ maxLen) :
    Calls Try.prog 30 #[.agg #[v1, v2], s.val, v3, v4] w fun e w' => e = .returned (.int .i64 (arrivalOf c s r st)) ∧ Below w.heap.size w w' := by
  have H3 := hide h3
  have HR := hide h
  obtain ⟨h1, h2⟩ := h
  obtain ⟨A1, c1, rfl, hc1, hm1, h1⟩ := h1
  obtain ⟨A2, c2, rfl, hc2, hm2, h2⟩ := h2
  obtain ⟨A3, c3, rfl, hc3, hm3, h3⟩ := h3
  unfold maxLen at hm1 hm2 hm3
  clear h1
  have hl2 : (c.segs.length : Int) ≤ 9223372036854775807 := by omega
  have hl3 : (r.length : Int) ≤ 9223372036854775807 := by omega
  obtain ⟨A4, c4, rfl, hc4, hm4, h4⟩ := h4
  unfold maxLen at hm4
  have hl4 : (st.length : Int) ≤ 9223372036854775807 := by omega
  obtain ⟨x0, x1, x2, x3, x4, x5⟩ := s
  rcases ch4 (decide (0 ≤ routeMin c r)) (shipOk ⟨x0, x1, x2, x3, x4, x5⟩) (decide ((r.length : Int) = st.length)) (!decide ((r.length : Int) = 0)) with ⟨g1, g2, g3, g4⟩ | g1 | ⟨g1, g2⟩ | ⟨g1, g2, g3⟩ | ⟨g1, g2, g3, g4⟩
  · have n1 : 0 ≤ routeMin c r := by simpa using g1
    have n3 : (r.length : Int) = st.length := by simpa using g3
    have n4 : ¬ (r.length : Int) = 0 := by simpa using g4
    obtain ⟨m, hm⟩ : ∃ m, r.length = m + 1 := ⟨r.length - 1, by omega⟩
    have hr1 : m < r.length := by omega
    have hs1 : m < st.length := by omega
    have HO := hide (show arrivalOk c ⟨x0, x1, x2, x3, x4, x5⟩ r st = true by unfold arrivalOk; rw [decide_eq_true n1, g2, decide_eq_true (show r.length = st.length by omega), decide_eq_false (show ¬ r.length = 0 by omega)]; rfl)
    obtain ⟨k1, k2⟩ := routeMin_iff n1
    have k3 := allUpTo_iff.1 k2 m hr1
    unfold segIn at k3
    rw [getD_at hr1] at k3
    obtain ⟨b, hb0, hb1⟩ := idx_nat k3
    obtain ⟨-, -, -, -, -, -, -, hq1, hq2⟩ := chart_seg k1 hb1
    have hsm := shipMinutes_range (g := c.segs[b]) (s := ⟨x0, x1, x2, x3, x4, x5⟩) hq1 hq2
    obtain ⟨hsm0, hsm1⟩ := hsm
    have HV := hide (show arrivalOf c ⟨x0, x1, x2, x3, x4, x5⟩ r st = if inB st[m] 0 2880 = true then st[m] + shipMinutes c.segs[b] ⟨x0, x1, x2, x3, x4, x5⟩ else -1 by
      unfold arrivalOf; rw [if_pos HO.out, show st.length - 1 = m by omega, show r.length - 1 = m by omega, getD_at hr1, getD_at hs1, hb0, segAt_nat hb1])
    obtain ⟨b2, o2, rfl, hb2, hcell2⟩ := h2 (by omega)
    obtain ⟨b3, o3, rfl, hb3, hcell3⟩ := h3 (by omega)
    obtain ⟨b4, o4, rfl, hb4, hcell4⟩ := h4 (by omega)
    have hrr := Below.refl w.heap.size w
    have e0 : w.cell? ⟨b2, o2 + b * 5, none⟩ = some (.int .i64 c.segs[b].a) := by
      rw [hrr.cell (p := ⟨b2, _, none⟩) hb2]; have := hcell2 b c.segs[b] (List.getElem?_eq_getElem hb1) 0 _ rfl; simpa using this
    have e1 : w.cell? ⟨b2, o2 + b * 5 + 1, none⟩ = some (.int .i64 c.segs[b].b) := by
      rw [hrr.cell (p := ⟨b2, _, none⟩) hb2]; have := hcell2 b c.segs[b] (List.getElem?_eq_getElem hb1) 1 _ rfl; simpa using this
    have e2 : w.cell? ⟨b2, o2 + b * 5 + 2, none⟩ = some (.int .i64 c.segs[b].depth) := by
      rw [hrr.cell (p := ⟨b2, _, none⟩) hb2]; have := hcell2 b c.segs[b] (List.getElem?_eq_getElem hb1) 2 _ rfl; simpa using this
    have e3 : w.cell? ⟨b2, o2 + b * 5 + 3, none⟩ = some (.int .i64 c.segs[b].minutes) := by
      rw [hrr.cell (p := ⟨b2, _, none⟩) hb2]; have := hcell2 b c.segs[b] (List.getElem?_eq_getElem hb1) 3 _ rfl; simpa using this
    have e4 : w.cell? ⟨b2, o2 + b * 5 + 4, none⟩ = some (.bool c.segs[b].meet) := by
      rw [hrr.cell (p := ⟨b2, _, none⟩) hb2]; have := hcell2 b c.segs[b] (List.getElem?_eq_getElem hb1) 4 _ rfl; simpa using this
    have f0 : w.cell? ⟨b3, o3 + m, none⟩ = some (.int .i64 (r[m])) := by
      rw [hrr.cell (p := ⟨b3, _, none⟩) hb3]; have := hcell3 m r[m] (List.getElem?_eq_getElem hr1) 0 _ rfl; simpa using this
    have g0 : w.cell? ⟨b4, o4 + m, none⟩ = some (.int .i64 (st[m])) := by
      rw [hrr.cell (p := ⟨b4, _, none⟩) hb4]; have := hcell4 m st[m] (List.getElem?_eq_getElem hs1) 0 _ rfl; simpa using this
    have hz2 : b2 < w.heap.size + 1 + 1 := by omega
    have hz3 : b3 < w.heap.size + 1 + 1 := by omega
    have hz4 : b4 < w.heap.size + 1 + 1 := by omega
    have hb5 : (b : Int) < c.segs.length := by omega
    rw [hb0] at f0
    have hL1 : (r.length : Int) - 1 = (m : Int) := by omega
    have hL2 : (st.length : Int) - 1 = (m : Int) := by omega
    have hL3 : IntKind.i64.wrap ((r.length : Int) - 1) = (m : Int) := by rw [hL1]; exact IntWalk.i64_in _ (by omega)
    have hL4 : IntKind.i64.wrap ((st.length : Int) - 1) = (m : Int) := by rw [hL2]; exact IntWalk.i64_in _ (by omega)
    have hL5 : (m : Int) < r.length := by omega
    have hL6 : (m : Int) < st.length := by omega
    clear hcell2 hcell3 hcell4 h2 h3 h4 hrr k1 k2 k3 hb0 g1 g3 g4
    have hb7 : ((r.length : Int) == 0) = false := by rw [beq_eq_false_iff_ne]; omega
    have hb8 : ((r.length : Int) != (st.length : Int)) = false := by simp; omega
    have N3 := hide n3; have N4 := hide n4; clear n3 n4
    have hb9 : IntKind.i64.wrap (m : Int) = m := IntWalk.i64_in _ (by omega)
    have HM := hide hm; clear hm
    have hg1' : (routeMin c r) ≥ 0 := n1
    generalize st[m] = stm at *
    rcases ch1 (inB stm 0 2880) with g5 | g5
    · have hst : 0 ≤ stm ∧ stm ≤ 2880 := by simp [inB] at g5; omega
      obtain ⟨hst0, hst1⟩ := hst
      go_enter Try.func30, Try.ntmps30
      go_wp2_with (first
      | (go_at_call 84; refine (spec_RouteMinutes_any _ _ _ c r _ ((HR.out.keep (B' := w.heap.size) (by repeat (first | exact Below.refl _ _ | assumption | refine Below.setCell ?_ (by first | omega | (simp <;> omega)) _ | refine Below.alloc ?_ (by first | omega | (simp <;> omega)) _ | refine below_drewN ?_ _ | refine Below.drew ?_ | refine Below.trans ?_ (Below.mono (by assumption) (by first | omega | (simp <;> omega))))) (Nat.le_refl _)).mono (by first | omega | (simp <;> omega))) ((H3.out.keep (B' := w.heap.size) (by repeat (first | exact Below.refl _ _ | assumption | refine Below.setCell ?_ (by first | omega | (simp <;> omega)) _ | refine Below.alloc ?_ (by first | omega | (simp <;> omega)) _ | refine below_drewN ?_ _ | refine Below.drew ?_ | refine Below.trans ?_ (Below.mono (by assumption) (by first | omega | (simp <;> omega))))) (Nat.le_refl _)).mono (by first | omega | (simp <;> omega))) hn hok).mono ?_; rintro e w1 ⟨rfl, hb'⟩; (first | have hb := bnext hb hb' | have hb := bnextA hb hb' | have hb := hb'); clear hb'; obtain ⟨hc, hf⟩ := bcell hb; have hz := hb.size; (try simp at hz))
      | (go_at_call 65; refine (spec_ShipOk_any _ _ _ _ _ _ _ hs).mono ?_; rintro e w1 ⟨rfl, hb'⟩; (first | have hb := bnext hb hb' | have hb := bnextA hb hb' | have hb := hb'); clear hb'; obtain ⟨hc, hf⟩ := bcell hb; have hz := hb.size; (try simp at hz))
      | (go_at_call 66; refine (l01In_any _ _ _ _).mono ?_; rintro e w1 ⟨rfl, hw⟩; obtain rfl := hw.symm))
      (try any_goals exact (show False by omega).elim)
      refine wp_region_below hb (by kernel_rfl) (by kernel_rfl) ?_
      repeat (first
        | go_big_quiet_skip
        | (go_big_quiet_want
           first
            | (refine quiet_value ?_; apply Exists.intro
               refine ⟨fun wq hq => ?_, ?_⟩
               · (obtain ⟨hc, hf⟩ := bcell hq; go_simp; first | done | rfl)
               go_big_quiet_on
               simp only [Act.put, List.setIfInBounds_toArray, List.set_cons_zero, List.set_cons_succ])
            | (refine quiet_call ?_; apply Exists.intro; apply Exists.intro; apply Exists.intro
               refine ⟨fun wq hq => ?_, fun wq hq => ?_, ?_⟩
               · (obtain ⟨hc, hf⟩ := bcell hq; go_simp; exact ⟨rfl, rfl⟩)
               · (first | with_reducible exact (l06Minutes_any c.segs[b] ⟨x0, x1, x2, x3, x4, x5⟩ _ hq1 hq2).mono fun e w'' ⟨he, hw⟩ => ⟨he, hw ▸ hq⟩ | with_reducible exact (l06Minutes_any c.segs[b] ⟨x0, x1, x2, x3, x4, x5⟩ _ hq1 hq2).mono fun e w'' ⟨he, hb'⟩ => ⟨he, bnext hq hb'⟩ |  exact (l06Minutes_any c.segs[b] ⟨x0, x1, x2, x3, x4, x5⟩ _ hq1 hq2).mono fun e w'' ⟨he, hb'⟩ => ⟨he, bnext hq hb'⟩ |  exact (l06Minutes_any c.segs[b] ⟨x0, x1, x2, x3, x4, x5⟩ _ hq1 hq2).mono fun e w'' ⟨he, hw⟩ => ⟨he, hw ▸ hq⟩)
               go_big_quiet_on
               simp only [Act.put, List.setIfInBounds_toArray, List.set_cons_zero, List.set_cons_succ])
            | (go_big_quiet_op; go_big_quiet_on)
           ))
      refine wpQuiet_nil (fun w1 hb' => ?_)
      obtain ⟨hc, hf⟩ := bcell hb'
      have hz := hb'.size; (try simp at hz)
      go_wp2
      go_ret
      exact ⟨ret_int (by rw [HV.out, if_pos g5]; first | done | rfl | exact IntWalk.i64_in _ (by omega)), (by repeat (first | exact Below.refl _ _ | assumption | refine Below.setCell ?_ (by first | omega | (simp <;> omega)) _ | refine Below.alloc ?_ (by first | omega | (simp <;> omega)) _ | refine below_drewN ?_ _ | refine Below.drew ?_ | refine Below.trans ?_ (Below.mono (by assumption) (by first | omega | (simp <;> omega)))))⟩
    · go_enter Try.func30, Try.ntmps30
      go_wp2_with (first
      | (go_at_call 84; refine (spec_RouteMinutes_any _ _ _ c r _ ((HR.out.keep (B' := w.heap.size) (by repeat (first | exact Below.refl _ _ | assumption | refine Below.setCell ?_ (by first | omega | (simp <;> omega)) _ | refine Below.alloc ?_ (by first | omega | (simp <;> omega)) _ | refine below_drewN ?_ _ | refine Below.drew ?_ | refine Below.trans ?_ (Below.mono (by assumption) (by first | omega | (simp <;> omega))))) (Nat.le_refl _)).mono (by first | omega | (simp <;> omega))) ((H3.out.keep (B' := w.heap.size) (by repeat (first | exact Below.refl _ _ | assumption | refine Below.setCell ?_ (by first | omega | (simp <;> omega)) _ | refine Below.alloc ?_ (by first | omega | (simp <;> omega)) _ | refine below_drewN ?_ _ | refine Below.drew ?_ | refine Below.trans ?_ (Below.mono (by assumption) (by first | omega | (simp <;> omega))))) (Nat.le_refl _)).mono (by first | omega | (simp <;> omega))) hn hok).mono ?_; rintro e w1 ⟨rfl, hb'⟩; (first | have hb := bnext hb hb' | have hb := bnextA hb hb' | have hb := hb'); clear hb'; obtain ⟨hc, hf⟩ := bcell hb; have hz := hb.size; (try simp at hz))
      | (go_at_call 65; refine (spec_ShipOk_any _ _ _ _ _ _ _ hs).mono ?_; rintro e w1 ⟨rfl, hb'⟩; (first | have hb := bnext hb hb' | have hb := bnextA hb hb' | have hb := hb'); clear hb'; obtain ⟨hc, hf⟩ := bcell hb; have hz := hb.size; (try simp at hz))
      | (go_at_call 66; refine (l01In_any _ _ _ _).mono ?_; rintro e w1 ⟨rfl, hw⟩; obtain rfl := hw.symm))
      (try any_goals exact (show False by omega).elim)
      go_ret
      exact ⟨ret_int (by rw [HV.out, if_neg (by simp [g5])]; first | done | rfl), (by repeat (first | exact Below.refl _ _ | assumption | refine Below.setCell ?_ (by first | omega | (simp <;> omega)) _ | refine Below.alloc ?_ (by first | omega | (simp <;> omega)) _ | refine below_drewN ?_ _ | refine Below.drew ?_ | refine Below.trans ?_ (Below.mono (by assumption) (by first | omega | (simp <;> omega)))))⟩
  all_goals
    have HV := hide (show arrivalOf c ⟨x0, x1, x2, x3, x4, x5⟩ r st = -1 by
      unfold arrivalOf; rw [if_neg]; rw [Bool.not_eq_true]; unfold arrivalOk; try rw [show (decide (r.length = st.length)) = decide ((r.length : Int) = st.length) by rw [Bool.eq_iff_iff, decide_eq_true_iff, decide_eq_true_iff]; omega]; try rw [show (decide (r.length = 0)) = decide ((r.length : Int) = 0) by rw [Bool.eq_iff_iff, decide_eq_true_iff, decide_eq_true_iff]; omega]; simp only [*, Bool.and_false, Bool.false_and, Bool.and_true, Bool.true_and])
    clear h2 h3 h4
    (try have n1 : routeMin c r < 0 := by simpa using g1)
    (try have n1 : 0 ≤ routeMin c r := by simpa using g1)
    (try have n3 : (r.length : Int) = st.length := by simpa using g3)
    (try have n3 : ¬ (r.length : Int) = st.length := by simpa using g3)
    (try have n4 : (r.length : Int) = 0 := by simpa using g4)
    (try have b3 : ((r.length : Int) != (st.length : Int)) = true := by simp; omega)
    (try have b3 : ((r.length : Int) != (st.length : Int)) = false := by simp; omega)
    (try have b4 : ((r.length : Int) == 0) = true := by simp; omega)
    (try clear g1)
    go_enter Try.func30, Try.ntmps30
    go_wp2_with (first
      | (go_at_call 84; refine (spec_RouteMinutes_any _ _ _ c r _ ((HR.out.keep (B' := w.heap.size) (by repeat (first | exact Below.refl _ _ | assumption | refine Below.setCell ?_ (by first | omega | (simp <;> omega)) _ | refine Below.alloc ?_ (by first | omega | (simp <;> omega)) _ | refine below_drewN ?_ _ | refine Below.drew ?_ | refine Below.trans ?_ (Below.mono (by assumption) (by first | omega | (simp <;> omega))))) (Nat.le_refl _)).mono (by first | omega | (simp <;> omega))) ((H3.out.keep (B' := w.heap.size) (by repeat (first | exact Below.refl _ _ | assumption | refine Below.setCell ?_ (by first | omega | (simp <;> omega)) _ | refine Below.alloc ?_ (by first | omega | (simp <;> omega)) _ | refine below_drewN ?_ _ | refine Below.drew ?_ | refine Below.trans ?_ (Below.mono (by assumption) (by first | omega | (simp <;> omega))))) (Nat.le_refl _)).mono (by first | omega | (simp <;> omega))) hn hok).mono ?_; rintro e w1 ⟨rfl, hb'⟩; (first | have hb := bnext hb hb' | have hb := bnextA hb hb' | have hb := hb'); clear hb'; obtain ⟨hc, hf⟩ := bcell hb; have hz := hb.size; (try simp at hz))
      | (go_at_call 65; refine (spec_ShipOk_any _ _ _ _ _ _ _ hs).mono ?_; rintro e w1 ⟨rfl, hb'⟩; (first | have hb := bnext hb hb' | have hb := bnextA hb hb' | have hb := hb'); clear hb'; obtain ⟨hc, hf⟩ := bcell hb; have hz := hb.size; (try simp at hz))
      | (go_at_call 66; refine (l01In_any _ _ _ _).mono ?_; rintro e w1 ⟨rfl, hw⟩; obtain rfl := hw.symm))
    all_goals first | exact (show False by omega).elim | go_ret
    all_goals exact ⟨ret_int (by rw [HV.out]; first | done | rfl), (by repeat (first | exact Below.refl _ _ | assumption | refine Below.setCell ?_ (by first | omega | (simp <;> omega)) _ | refine Below.alloc ?_ (by first | omega | (simp <;> omega)) _ | refine below_drewN ?_ _ | refine Below.drew ?_ | refine Below.trans ?_ (Below.mono (by assumption) (by first | omega | (simp <;> omega)))))⟩
set_option maxRecDepth 100000 in
set_option maxHeartbeats 8000000 in
theorem impl_ArrivalOf_any (v1 v2 v3 v4 : Value) (c : ChartD) (s : ShipD) (r st : List Int) (w : World) (h : RdChart w w.heap.size v1 v2 c) (h3 : RdI w v3 r) (h4 : RdI w v4 st) (hn : r.length ≤ 1048576) (hok : ∀ x ∈ c.points, x.name.size ≤ maxLen) (hs : s.name.size ≤ maxLen) :
    Calls Try.prog 32 #[.agg #[v1, v2], s.val, v3, v4] w fun e w' => e = .returned (.int .i64 (arrivalOf c s r st)) ∧ Below w.heap.size w w' := by
  have H3 := hide h3
  have HR := hide h
  obtain ⟨h1, h2⟩ := h
  obtain ⟨A1, c1, rfl, hc1, hm1, h1⟩ := h1
  obtain ⟨A2, c2, rfl, hc2, hm2, h2⟩ := h2
  obtain ⟨A3, c3, rfl, hc3, hm3, h3⟩ := h3
  unfold maxLen at hm1 hm2 hm3
  clear h1
  have hl2 : (c.segs.length : Int) ≤ 9223372036854775807 := by omega
  have hl3 : (r.length : Int) ≤ 9223372036854775807 := by omega
  obtain ⟨A4, c4, rfl, hc4, hm4, h4⟩ := h4
  unfold maxLen at hm4
  have hl4 : (st.length : Int) ≤ 9223372036854775807 := by omega
  obtain ⟨x0, x1, x2, x3, x4, x5⟩ := s
  rcases ch4 (decide (0 ≤ routeMin c r)) (shipOk ⟨x0, x1, x2, x3, x4, x5⟩) (decide ((r.length : Int) = st.length)) (!decide ((r.length : Int) = 0)) with ⟨g1, g2, g3, g4⟩ | g1 | ⟨g1, g2⟩ | ⟨g1, g2, g3⟩ | ⟨g1, g2, g3, g4⟩
  · have n1 : 0 ≤ routeMin c r := by simpa using g1
    have n3 : (r.length : Int) = st.length := by simpa using g3
    have n4 : ¬ (r.length : Int) = 0 := by simpa using g4
    obtain ⟨m, hm⟩ : ∃ m, r.length = m + 1 := ⟨r.length - 1, by omega⟩
    have hr1 : m < r.length := by omega
    have hs1 : m < st.length := by omega
    have HO := hide (show arrivalOk c ⟨x0, x1, x2, x3, x4, x5⟩ r st = true by unfold arrivalOk; rw [decide_eq_true n1, g2, decide_eq_true (show r.length = st.length by omega), decide_eq_false (show ¬ r.length = 0 by omega)]; rfl)
    obtain ⟨k1, k2⟩ := routeMin_iff n1
    have k3 := allUpTo_iff.1 k2 m hr1
    unfold segIn at k3
    rw [getD_at hr1] at k3
    obtain ⟨b, hb0, hb1⟩ := idx_nat k3
    obtain ⟨-, -, -, -, -, -, -, hq1, hq2⟩ := chart_seg k1 hb1
    have hsm := shipMinutes_range (g := c.segs[b]) (s := ⟨x0, x1, x2, x3, x4, x5⟩) hq1 hq2
    obtain ⟨hsm0, hsm1⟩ := hsm
    have HV := hide (show arrivalOf c ⟨x0, x1, x2, x3, x4, x5⟩ r st = if inB st[m] 0 2880 = true then st[m] + shipMinutes c.segs[b] ⟨x0, x1, x2, x3, x4, x5⟩ else -1 by
      unfold arrivalOf; rw [if_pos HO.out, show st.length - 1 = m by omega, show r.length - 1 = m by omega, getD_at hr1, getD_at hs1, hb0, segAt_nat hb1])
    obtain ⟨b2, o2, rfl, hb2, hcell2⟩ := h2 (by omega)
    obtain ⟨b3, o3, rfl, hb3, hcell3⟩ := h3 (by omega)
    obtain ⟨b4, o4, rfl, hb4, hcell4⟩ := h4 (by omega)
    have hrr := Below.refl w.heap.size w
    have e0 : w.cell? ⟨b2, o2 + b * 5, none⟩ = some (.int .i64 c.segs[b].a) := by
      rw [hrr.cell (p := ⟨b2, _, none⟩) hb2]; have := hcell2 b c.segs[b] (List.getElem?_eq_getElem hb1) 0 _ rfl; simpa using this
    have e1 : w.cell? ⟨b2, o2 + b * 5 + 1, none⟩ = some (.int .i64 c.segs[b].b) := by
      rw [hrr.cell (p := ⟨b2, _, none⟩) hb2]; have := hcell2 b c.segs[b] (List.getElem?_eq_getElem hb1) 1 _ rfl; simpa using this
    have e2 : w.cell? ⟨b2, o2 + b * 5 + 2, none⟩ = some (.int .i64 c.segs[b].depth) := by
      rw [hrr.cell (p := ⟨b2, _, none⟩) hb2]; have := hcell2 b c.segs[b] (List.getElem?_eq_getElem hb1) 2 _ rfl; simpa using this
    have e3 : w.cell? ⟨b2, o2 + b * 5 + 3, none⟩ = some (.int .i64 c.segs[b].minutes) := by
      rw [hrr.cell (p := ⟨b2, _, none⟩) hb2]; have := hcell2 b c.segs[b] (List.getElem?_eq_getElem hb1) 3 _ rfl; simpa using this
    have e4 : w.cell? ⟨b2, o2 + b * 5 + 4, none⟩ = some (.bool c.segs[b].meet) := by
      rw [hrr.cell (p := ⟨b2, _, none⟩) hb2]; have := hcell2 b c.segs[b] (List.getElem?_eq_getElem hb1) 4 _ rfl; simpa using this
    have f0 : w.cell? ⟨b3, o3 + m, none⟩ = some (.int .i64 (r[m])) := by
      rw [hrr.cell (p := ⟨b3, _, none⟩) hb3]; have := hcell3 m r[m] (List.getElem?_eq_getElem hr1) 0 _ rfl; simpa using this
    have g0 : w.cell? ⟨b4, o4 + m, none⟩ = some (.int .i64 (st[m])) := by
      rw [hrr.cell (p := ⟨b4, _, none⟩) hb4]; have := hcell4 m st[m] (List.getElem?_eq_getElem hs1) 0 _ rfl; simpa using this
    have hz2 : b2 < w.heap.size + 1 + 1 := by omega
    have hz3 : b3 < w.heap.size + 1 + 1 := by omega
    have hz4 : b4 < w.heap.size + 1 + 1 := by omega
    have hb5 : (b : Int) < c.segs.length := by omega
    rw [hb0] at f0
    have hL1 : (r.length : Int) - 1 = (m : Int) := by omega
    have hL2 : (st.length : Int) - 1 = (m : Int) := by omega
    have hL3 : IntKind.i64.wrap ((r.length : Int) - 1) = (m : Int) := by rw [hL1]; exact IntWalk.i64_in _ (by omega)
    have hL4 : IntKind.i64.wrap ((st.length : Int) - 1) = (m : Int) := by rw [hL2]; exact IntWalk.i64_in _ (by omega)
    have hL5 : (m : Int) < r.length := by omega
    have hL6 : (m : Int) < st.length := by omega
    clear hcell2 hcell3 hcell4 h2 h3 h4 hrr k1 k2 k3 hb0 g1 g3 g4
    have hb7 : ((r.length : Int) == 0) = false := by rw [beq_eq_false_iff_ne]; omega
    have hb8 : ((r.length : Int) != (st.length : Int)) = false := by simp; omega
    have N3 := hide n3; have N4 := hide n4; clear n3 n4
    have hb9 : IntKind.i64.wrap (m : Int) = m := IntWalk.i64_in _ (by omega)
    have HM := hide hm; clear hm
    have hg1' : (routeMin c r) ≥ 0 := n1
    generalize st[m] = stm at *
    rcases ch1 (inB stm 0 2880) with g5 | g5
    · have hst : 0 ≤ stm ∧ stm ≤ 2880 := by simp [inB] at g5; omega
      obtain ⟨hst0, hst1⟩ := hst
      go_enter Try.func32, Try.ntmps32
      go_wp2_with (first
      | (go_at_call 85; refine (impl_RouteMinutes_any _ _ _ c r _ ((HR.out.keep (B' := w.heap.size) (by repeat (first | exact Below.refl _ _ | assumption | refine Below.setCell ?_ (by first | omega | (simp <;> omega)) _ | refine Below.alloc ?_ (by first | omega | (simp <;> omega)) _ | refine below_drewN ?_ _ | refine Below.drew ?_ | refine Below.trans ?_ (Below.mono (by assumption) (by first | omega | (simp <;> omega))))) (Nat.le_refl _)).mono (by first | omega | (simp <;> omega))) ((H3.out.keep (B' := w.heap.size) (by repeat (first | exact Below.refl _ _ | assumption | refine Below.setCell ?_ (by first | omega | (simp <;> omega)) _ | refine Below.alloc ?_ (by first | omega | (simp <;> omega)) _ | refine below_drewN ?_ _ | refine Below.drew ?_ | refine Below.trans ?_ (Below.mono (by assumption) (by first | omega | (simp <;> omega))))) (Nat.le_refl _)).mono (by first | omega | (simp <;> omega))) hn hok).mono ?_; rintro e w1 ⟨rfl, hb'⟩; (first | have hb := bnext hb hb' | have hb := bnextA hb hb' | have hb := hb'); clear hb'; obtain ⟨hc, hf⟩ := bcell hb; have hz := hb.size; (try simp at hz))
      | (go_at_call 71; refine (impl_ShipOk_any _ _ _ _ _ _ _ hs).mono ?_; rintro e w1 ⟨rfl, hb'⟩; (first | have hb := bnext hb hb' | have hb := bnextA hb hb' | have hb := hb'); clear hb'; obtain ⟨hc, hf⟩ := bcell hb; have hz := hb.size; (try simp at hz))
      | (go_at_call 86; refine (isMinute_any _ _).mono ?_; rintro e w1 ⟨rfl, hw⟩; obtain rfl := hw.symm) | (go_at_call 73; refine (minutes_any c.segs[b] ⟨x0, x1, x2, x3, x4, x5⟩ _ hq1 hq2).mono ?_; rintro e w1 ⟨rfl, hb'⟩; (first | have hb := bnext hb hb' | have hb := bnextA hb hb' | have hb := hb'); clear hb'; obtain ⟨hc, hf⟩ := bcell hb; have hz := hb.size; (try simp at hz)))
      (try any_goals exact (show False by omega).elim)
      refine wp_region_below hb (by kernel_rfl) (by kernel_rfl) ?_
      repeat (first
        | go_big_quiet_skip
        | (go_big_quiet_want
           first
            | (refine quiet_value ?_; apply Exists.intro
               refine ⟨fun wq hq => ?_, ?_⟩
               · (obtain ⟨hc, hf⟩ := bcell hq; go_simp; first | done | rfl)
               go_big_quiet_on
               simp only [Act.put, List.setIfInBounds_toArray, List.set_cons_zero, List.set_cons_succ])
            | (refine quiet_call ?_; apply Exists.intro; apply Exists.intro; apply Exists.intro
               refine ⟨fun wq hq => ?_, fun wq hq => ?_, ?_⟩
               · (obtain ⟨hc, hf⟩ := bcell hq; go_simp; exact ⟨rfl, rfl⟩)
               · (first | with_reducible exact (minutes_any c.segs[b] ⟨x0, x1, x2, x3, x4, x5⟩ _ hq1 hq2).mono fun e w'' ⟨he, hw⟩ => ⟨he, hw ▸ hq⟩ | with_reducible exact (minutes_any c.segs[b] ⟨x0, x1, x2, x3, x4, x5⟩ _ hq1 hq2).mono fun e w'' ⟨he, hb'⟩ => ⟨he, bnext hq hb'⟩ |  exact (minutes_any c.segs[b] ⟨x0, x1, x2, x3, x4, x5⟩ _ hq1 hq2).mono fun e w'' ⟨he, hb'⟩ => ⟨he, bnext hq hb'⟩ |  exact (minutes_any c.segs[b] ⟨x0, x1, x2, x3, x4, x5⟩ _ hq1 hq2).mono fun e w'' ⟨he, hw⟩ => ⟨he, hw ▸ hq⟩)
               go_big_quiet_on
               simp only [Act.put, List.setIfInBounds_toArray, List.set_cons_zero, List.set_cons_succ])
            | (go_big_quiet_op; go_big_quiet_on)
           ))
      refine wpQuiet_nil (fun w1 hb' => ?_)
      obtain ⟨hc, hf⟩ := bcell hb'
      have hz := hb'.size; (try simp at hz)
      go_wp2
      go_ret
      exact ⟨ret_int (by rw [HV.out, if_pos g5]; first | done | rfl | exact IntWalk.i64_in _ (by omega)), (by repeat (first | exact Below.refl _ _ | assumption | refine Below.setCell ?_ (by first | omega | (simp <;> omega)) _ | refine Below.alloc ?_ (by first | omega | (simp <;> omega)) _ | refine below_drewN ?_ _ | refine Below.drew ?_ | refine Below.trans ?_ (Below.mono (by assumption) (by first | omega | (simp <;> omega)))))⟩
    · go_enter Try.func32, Try.ntmps32
      go_wp2_with (first
      | (go_at_call 85; refine (impl_RouteMinutes_any _ _ _ c r _ ((HR.out.keep (B' := w.heap.size) (by repeat (first | exact Below.refl _ _ | assumption | refine Below.setCell ?_ (by first | omega | (simp <;> omega)) _ | refine Below.alloc ?_ (by first | omega | (simp <;> omega)) _ | refine below_drewN ?_ _ | refine Below.drew ?_ | refine Below.trans ?_ (Below.mono (by assumption) (by first | omega | (simp <;> omega))))) (Nat.le_refl _)).mono (by first | omega | (simp <;> omega))) ((H3.out.keep (B' := w.heap.size) (by repeat (first | exact Below.refl _ _ | assumption | refine Below.setCell ?_ (by first | omega | (simp <;> omega)) _ | refine Below.alloc ?_ (by first | omega | (simp <;> omega)) _ | refine below_drewN ?_ _ | refine Below.drew ?_ | refine Below.trans ?_ (Below.mono (by assumption) (by first | omega | (simp <;> omega))))) (Nat.le_refl _)).mono (by first | omega | (simp <;> omega))) hn hok).mono ?_; rintro e w1 ⟨rfl, hb'⟩; (first | have hb := bnext hb hb' | have hb := bnextA hb hb' | have hb := hb'); clear hb'; obtain ⟨hc, hf⟩ := bcell hb; have hz := hb.size; (try simp at hz))
      | (go_at_call 71; refine (impl_ShipOk_any _ _ _ _ _ _ _ hs).mono ?_; rintro e w1 ⟨rfl, hb'⟩; (first | have hb := bnext hb hb' | have hb := bnextA hb hb' | have hb := hb'); clear hb'; obtain ⟨hc, hf⟩ := bcell hb; have hz := hb.size; (try simp at hz))
      | (go_at_call 86; refine (isMinute_any _ _).mono ?_; rintro e w1 ⟨rfl, hw⟩; obtain rfl := hw.symm) | (go_at_call 73; refine (minutes_any c.segs[b] ⟨x0, x1, x2, x3, x4, x5⟩ _ hq1 hq2).mono ?_; rintro e w1 ⟨rfl, hb'⟩; (first | have hb := bnext hb hb' | have hb := bnextA hb hb' | have hb := hb'); clear hb'; obtain ⟨hc, hf⟩ := bcell hb; have hz := hb.size; (try simp at hz)))
      (try any_goals exact (show False by omega).elim)
      go_ret
      exact ⟨ret_int (by rw [HV.out, if_neg (by simp [g5])]; first | done | rfl), (by repeat (first | exact Below.refl _ _ | assumption | refine Below.setCell ?_ (by first | omega | (simp <;> omega)) _ | refine Below.alloc ?_ (by first | omega | (simp <;> omega)) _ | refine below_drewN ?_ _ | refine Below.drew ?_ | refine Below.trans ?_ (Below.mono (by assumption) (by first | omega | (simp <;> omega)))))⟩
  all_goals
    have HV := hide (show arrivalOf c ⟨x0, x1, x2, x3, x4, x5⟩ r st = -1 by
      unfold arrivalOf; rw [if_neg]; rw [Bool.not_eq_true]; unfold arrivalOk; try rw [show (decide (r.length = st.length)) = decide ((r.length : Int) = st.length) by rw [Bool.eq_iff_iff, decide_eq_true_iff, decide_eq_true_iff]; omega]; try rw [show (decide (r.length = 0)) = decide ((r.length : Int) = 0) by rw [Bool.eq_iff_iff, decide_eq_true_iff, decide_eq_true_iff]; omega]; simp only [*, Bool.and_false, Bool.false_and, Bool.and_true, Bool.true_and])
    clear h2 h3 h4
    (try have n1 : routeMin c r < 0 := by simpa using g1)
    (try have n1 : 0 ≤ routeMin c r := by simpa using g1)
    (try have n3 : (r.length : Int) = st.length := by simpa using g3)
    (try have n3 : ¬ (r.length : Int) = st.length := by simpa using g3)
    (try have n4 : (r.length : Int) = 0 := by simpa using g4)
    (try have b3 : ((r.length : Int) != (st.length : Int)) = true := by simp; omega)
    (try have b3 : ((r.length : Int) != (st.length : Int)) = false := by simp; omega)
    (try have b4 : ((r.length : Int) == 0) = true := by simp; omega)
    (try clear g1)
    go_enter Try.func32, Try.ntmps32
    go_wp2_with (first
      | (go_at_call 85; refine (impl_RouteMinutes_any _ _ _ c r _ ((HR.out.keep (B' := w.heap.size) (by repeat (first | exact Below.refl _ _ | assumption | refine Below.setCell ?_ (by first | omega | (simp <;> omega)) _ | refine Below.alloc ?_ (by first | omega | (simp <;> omega)) _ | refine below_drewN ?_ _ | refine Below.drew ?_ | refine Below.trans ?_ (Below.mono (by assumption) (by first | omega | (simp <;> omega))))) (Nat.le_refl _)).mono (by first | omega | (simp <;> omega))) ((H3.out.keep (B' := w.heap.size) (by repeat (first | exact Below.refl _ _ | assumption | refine Below.setCell ?_ (by first | omega | (simp <;> omega)) _ | refine Below.alloc ?_ (by first | omega | (simp <;> omega)) _ | refine below_drewN ?_ _ | refine Below.drew ?_ | refine Below.trans ?_ (Below.mono (by assumption) (by first | omega | (simp <;> omega))))) (Nat.le_refl _)).mono (by first | omega | (simp <;> omega))) hn hok).mono ?_; rintro e w1 ⟨rfl, hb'⟩; (first | have hb := bnext hb hb' | have hb := bnextA hb hb' | have hb := hb'); clear hb'; obtain ⟨hc, hf⟩ := bcell hb; have hz := hb.size; (try simp at hz))
      | (go_at_call 71; refine (impl_ShipOk_any _ _ _ _ _ _ _ hs).mono ?_; rintro e w1 ⟨rfl, hb'⟩; (first | have hb := bnext hb hb' | have hb := bnextA hb hb' | have hb := hb'); clear hb'; obtain ⟨hc, hf⟩ := bcell hb; have hz := hb.size; (try simp at hz))
      | (go_at_call 86; refine (isMinute_any _ _).mono ?_; rintro e w1 ⟨rfl, hw⟩; obtain rfl := hw.symm) | (go_at_call 73; refine (minutes_any c.segs[b] ⟨x0, x1, x2, x3, x4, x5⟩ _ hq1 hq2).mono ?_; rintro e w1 ⟨rfl, hb'⟩; (first | have hb := bnext hb hb' | have hb := bnextA hb hb' | have hb := hb'); clear hb'; obtain ⟨hc, hf⟩ := bcell hb; have hz := hb.size; (try simp at hz)))
    all_goals first | exact (show False by omega).elim | go_ret
    all_goals exact ⟨ret_int (by rw [HV.out]; first | done | rfl), (by repeat (first | exact Below.refl _ _ | assumption | refine Below.setCell ?_ (by first | omega | (simp <;> omega)) _ | refine Below.alloc ?_ (by first | omega | (simp <;> omega)) _ | refine below_drewN ?_ _ | refine Below.drew ?_ | refine Below.trans ?_ (Below.mono (by assumption) (by first | omega | (simp <;> omega)))))⟩
end Go.Proofs.Ytefidlecandnlaa
