/- Sailing a route: the reference's text. Sailing a route from a minute: the reference's text. SailRoute and FirstSail: the reference's text. No condition. -/
import Derived.Test.YtpbcbdjjpkenjaaGreatSailL
import Derived.Test.YtpbcbdjjpkenjaaGreatAppIn
import Derived.Deep.RegionHeld3
import Derived.Deep.DeepCutAuto
namespace Go.Proofs.YtpbcbdjjpkenjaaGreat
open Go.RowKit
set_option linter.unusedVariables false
/-- the starts of a route's first i segments -/
def StartsIs (f : ForeD) (c : ChartD) (s : ShipD) (r : List Int) (k : Nat) (rs : List WinR) : Prop := rs.length = k ∧ ∀ i (h : i < rs.length), rs[i].xs = rWins f c s r i
theorem StartsIs.snoc {f : ForeD} {c : ChartD} {s : ShipD} {r : List Int} {k : Nat} {rs : List WinR} (h : StartsIs f c s r k rs) {v : Value} {x : Int} (hk : k < r.length) (hx : r[k] = x) : StartsIs f c s r (k + 1) (rs ++ [⟨v, startsOf false f c x s⟩]) := by
  refine ⟨by simp [h.1], fun i hi => ?_⟩
  rcases Nat.lt_or_ge i rs.length with h2 | h2
  · rw [List.getElem_append_left h2]; exact h.2 i h2
  · obtain rfl : i = rs.length := by simp at hi; omega
    simp only [List.getElem_append_right (Nat.le_refl _), Nat.sub_self, List.getElem_cons_zero]
    have e := h.1
    unfold rWins
    rw [e, getD_at hk, hx]
def StartsRes (f : ForeD) (c : ChartD) (s : ShipD) (r : List Int) (w : World) (e : Ending) (w' : World) : Prop := ∃ v rs, e = .returned v ∧ OwnWW w' w.heap.size v rs ∧ StartsIs f c s r r.length rs ∧ Below w.heap.size w w'
set_option maxRecDepth 100000 in
set_option maxHeartbeats 16000000 in
theorem l08Starts_any (v1 v2 v3 v4 v5 : Value) (f : ForeD) (c : ChartD) (s : ShipD) (r : List Int) (w : World) (h : RdFore w w.heap.size v1 v2 f) (hch : RdChart w w.heap.size v3 v4 c) (hr : RdI w v5 r) (hn : r.length ≤ 1048576) (hokp : ∀ x ∈ c.points, x.name.size ≤ maxLen) (hs : s.name.size ≤ maxLen) :
    Calls Tryz.prog 70 #[.agg #[.int .i64 f.m0, v1, v2], .agg #[v3, v4], s.val, v5] w (StartsRes f c s r w) := by
  have HFR := hide h; have HCR := hide hch; have HRR := hide hr; have HOKP := hide hokp; have HN := hide hn
  obtain ⟨m0, ps, ss⟩ := f
  obtain ⟨x0, x1, x2, x3, x4, x5⟩ := s
  obtain ⟨h1, h2⟩ := h
  obtain ⟨h3, h4⟩ := hch
  simp only at h1 h2 hs HFR ⊢
  have HS := hide hs
  obtain ⟨A1, c1, rfl, -, -, -⟩ := h1
  obtain ⟨A2, c2, rfl, -, -, -⟩ := h2
  obtain ⟨A3, c3, rfl, -, -, -⟩ := h3
  obtain ⟨A4, c4, rfl, -, -, -⟩ := h4
  obtain ⟨A5, c5, rfl, hc5, hm5, h5⟩ := hr
  unfold maxLen at hm5
  have H5 := hide h5
  clear hokp hs h5
  obtain ⟨i0, hi, hz0, hz1, hz2⟩ := info_parts winr_info
  go_enter Tryz.func70, Tryz.ntmps70
  go_wp2_with fail
  obtain ⟨W0, hW0⟩ : ∃ W, (((w.alloc (.cells #[.int .i64 m0, .slice A1 ps.length c1, .slice A2 ss.length c2] 44)).alloc (.cells #[.slice A3 c.points.length c3, .slice A4 c.segs.length c4] 49)).alloc (.cells #[.string x0, .int .i64 x1, .int .i64 x2, .int .i64 x3, .int .i64 x4, .bool x5] 51)).alloc (.cells #[] 37) = W := ⟨_, rfl⟩
  have z0 : W0.cell? ⟨w.heap.size, 0, none⟩ = some (.int .i64 m0) := by rw [← hW0]; simp [go_sem]
  have z1 : W0.cell? ⟨w.heap.size, 1, none⟩ = some (.slice A1 ps.length c1) := by rw [← hW0]; simp [go_sem]
  have z2 : W0.cell? ⟨w.heap.size, 2, none⟩ = some (.slice A2 ss.length c2) := by rw [← hW0]; simp [go_sem]
  have z3 : W0.cell? ⟨w.heap.size + 1, 0, none⟩ = some (.slice A3 c.points.length c3) := by rw [← hW0]; simp [go_sem]
  have z4 : W0.cell? ⟨w.heap.size + 1, 1, none⟩ = some (.slice A4 c.segs.length c4) := by rw [← hW0]; simp [go_sem]
  have z5 : W0.cell? ⟨w.heap.size + 2, 0, none⟩ = some (.string x0) := by rw [← hW0]; simp [go_sem]
  have z6 : W0.cell? ⟨w.heap.size + 2, 1, none⟩ = some (.int .i64 x1) := by rw [← hW0]; simp [go_sem]
  have z7 : W0.cell? ⟨w.heap.size + 2, 2, none⟩ = some (.int .i64 x2) := by rw [← hW0]; simp [go_sem]
  have z8 : W0.cell? ⟨w.heap.size + 2, 3, none⟩ = some (.int .i64 x3) := by rw [← hW0]; simp [go_sem]
  have z9 : W0.cell? ⟨w.heap.size + 2, 4, none⟩ = some (.int .i64 x4) := by rw [← hW0]; simp [go_sem]
  have z10 : W0.cell? ⟨w.heap.size + 2, 5, none⟩ = some (.bool x5) := by rw [← hW0]; simp [go_sem]
  have hl0 : W0.heap.size = w.heap.size + 4 := by rw [← hW0]; simp
  have hb0 : Below w.heap.size w W0 := by rw [← hW0]; exact (by repeat (first | exact Below.refl _ _ | assumption | refine Below.setCell ?_ (by first | omega | (simp <;> omega)) _ | refine Below.alloc ?_ (by first | omega | (simp <;> omega)) _ | refine below_drewN ?_ _ | refine Below.drew ?_ | refine Below.trans ?_ (Below.mono (by assumption) (by first | omega | (simp <;> omega)))))
  have hou : Own W0 (w.heap.size + 3) 37 1 WinR.enc (.slice (some ⟨w.heap.size + 3, 0, none⟩) 0 0) ([] : List WinR) := by
    have := own_built0 (enc := WinR.enc) (((w.alloc (.cells #[.int .i64 m0, .slice A1 ps.length c1, .slice A2 ss.length c2] 44)).alloc (.cells #[.slice A3 c.points.length c3, .slice A4 c.segs.length c4] 49)).alloc (.cells #[.string x0, .int .i64 x1, .int .i64 x2, .int .i64 x3, .int .i64 x4, .bool x5] 51)) 37 1
    rw [hW0] at this
    simpa using this
  rw [hW0]
  clear hW0
  have HO0 := hide (show OwnWW W0 (w.heap.size + 3) (.slice (some ⟨w.heap.size + 3, 0, none⟩) 0 0) [] from ⟨hou, fun r hr => by cases hr⟩)
  have HST0 := hide (show StartsIs ⟨m0, ps, ss⟩ c ⟨x0, x1, x2, x3, x4, x5⟩ r 0 [] from ⟨rfl, fun i h => by simp at h⟩)
  have HLE := hide hl0
  have hl0' : w.heap.size + 3 < W0.heap.size := by omega
  clear hou hl0
  go_loopw [9, 15] (fun o iv wr => ∃ (k : Nat) (rs : List WinR), iv = .int .i64 k ∧ k ≤ r.length ∧ Hid (OwnWW wr (w.heap.size + 3) o rs) ∧ Hid (StartsIs ⟨m0, ps, ss⟩ c ⟨x0, x1, x2, x3, x4, x5⟩ r k rs) ∧ Hid (Below (w.heap.size + 3) W0 wr)) (fun _ iv _ => r.length - (intOf iv).toNat)
  case atStart => exact ⟨0, [], rfl, Nat.zero_le _, HO0, HST0, hide (Below.refl _ _)⟩
  case round =>
    clear HO0 HST0
    obtain ⟨k, rs, rfl, hk, HO, HST, HB⟩ := hrel
    obtain ⟨wo, rfl⟩ : ∃ wo : World, wo = wr := ⟨_, rfl⟩
    have hsz := HB.out.size
    have hbw : Below w.heap.size w wo := hb0.trans (HB.out.mono (by omega))
    have HBW := hide hbw
    clear hbw
    obtain ⟨A7, c7, rfl, hc7, hm7, -⟩ := Own.rd WinR.enc_len HO.out.1
    unfold maxLen at hm7
    by_cases hlt : k < r.length
    · have hlt' : (k : Int) < r.length := by omega
      obtain ⟨b5, o5, rfl, hb5, hcell⟩ := H5.out (by omega)
      have hce : w.cell? ⟨b5, o5 + k, none⟩ = some (.int .i64 r[k]) := by have := hcell k r[k] (List.getElem?_eq_getElem hlt) 0 _ rfl; simpa using this
      have hceo := cellKeep HBW.out hce hb5
      have hb5' : b5 < wo.heap.size := by omega
      obtain ⟨x, hx⟩ : ∃ x, r[k] = x := ⟨_, rfl⟩
      rw [hx] at hceo
      have HX := hide hx
      clear hcell hce hx
      have y0 := cellKeep HB.out z0 (by omega)
      have y1 := cellKeep HB.out z1 (by omega)
      have y2 := cellKeep HB.out z2 (by omega)
      have y3 := cellKeep HB.out z3 (by omega)
      have y4 := cellKeep HB.out z4 (by omega)
      have y5 := cellKeep HB.out z5 (by omega)
      have y6 := cellKeep HB.out z6 (by omega)
      have y7 := cellKeep HB.out z7 (by omega)
      have y8 := cellKeep HB.out z8 (by omega)
      have y9 := cellKeep HB.out z9 (by omega)
      have y10 := cellKeep HB.out z10 (by omega)
      have hrl := HST.out.1
      have HRL := hide hrl
      have hrk : rs.length ≤ 1048576 := by have := HN.out; omega
      have hw3 : w.heap.size + 3 ≤ wo.heap.size := by omega
      clear hrl
      have hk1 : IntKind.i64.wrap ((k : Int) + 1) = (k : Int) + 1 := IntWalk.i64_in _ (by omega)
      go_wp2_with fail
      refine (spec_SureStarts_any _ _ _ _ ⟨m0, ps, ss⟩ c x ⟨x0, x1, x2, x3, x4, x5⟩ _ ((HFR.out.keep HBW.out (Nat.le_refl _)).mono HBW.out.size) ((HCR.out.keep HBW.out (Nat.le_refl _)).mono HBW.out.size) HOKP.out HS.out).mono ?_
      rintro e w1 ⟨v9, rfl, ho9, hb1⟩
      obtain ⟨A9, c9, rfl, -, -, -⟩ := Own.rd WindowD.enc_len ho9
      have HO9 := hide (ho9.mono (base' := w.heap.size + 3) (by omega))
      have HOO := hide (HO.out.below hb1)
      have HB1 := hide (HB.out.trans (hb1.mono hw3)); have HBW1 := hide (HBW.out.trans (hb1.mono (by omega)))
      have hs1 := hb1.size
      clear ho9 hb1 y0 y1 y2 y3 y4 y5 y6 y7 y8 y9 y10
      go_wp2_with (at_builtin; refine wpList_append_in _ WinR.enc_len (by rfl) _ _ 110 (by rfl) (w.heap.size + 3) 37 i0 _ 24 Tryz.underlying110 hi hz0 hz1 hz2 rfl (by decide) _ rs (by rfl) (HOO.out.1.below ((Below.refl _ _).alloc (Nat.le_refl _) _)) _ _ [(⟨_, startsOf false ⟨m0, ps, ss⟩ c x ⟨x0, x1, x2, x3, x4, x5⟩⟩ : WinR)] (by rfl) (rd_new (enc := WinR.enc) _ (⟨_, startsOf false ⟨m0, ps, ss⟩ c x ⟨x0, x1, x2, x3, x4, x5⟩⟩ : WinR) _) (fun y hy => winr_one y (by simp at hy; subst hy; exact ⟨_, _, _, rfl⟩)) (by unfold maxLen; simp; omega) (by simp; omega) (by simp; omega) ?_; intro r9 w9 hown9 hgrow9 hblk9)
      have ha : Below w1.heap.size w1 (w1.alloc (.cells #[.slice A9 (startsOf false ⟨m0, ps, ss⟩ c x ⟨x0, x1, x2, x3, x4, x5⟩).length c9] 37)) := (Below.refl _ _).alloc (Nat.le_refl _) _
      have hb9 : Below (w.heap.size + 3) w1 w9 := (ha.mono (by omega)).trans (Own.belowGrown (B := w.heap.size + 3) (HOO.out.1.below ha) hgrow9 (Nat.le_refl _) (by simp <;> omega))
      go_roundw
      case rel => exact ⟨k + 1, rs ++ [⟨_, startsOf false ⟨m0, ps, ss⟩ c x ⟨x0, x1, x2, x3, x4, x5⟩⟩], by first | rfl | go_num, by omega, hide ((HOO.out.below ha).snoc (HO9.out.below ha) hown9 hgrow9), hide (HST.out.snoc hlt HX.out), hide (HB1.out.trans hb9)⟩
      case measure => simp [intOf] <;> omega
    · have hlt' : ¬ (k : Int) < r.length := by omega
      have hke : k = r.length := by omega
      subst hke
      go_wp2
      go_ret
      exact ⟨_, rs, rfl, HO.out.mono (by omega), HST.out, HBW.out⟩
theorem hasMin_range {xs : List WindowD} {m : Int} (hx : WinOk xs 2881) (h : hasMin xs m = true) : 0 ≤ m ∧ m ≤ 2880 := by
  unfold hasMin at h
  obtain ⟨x, hx', h2⟩ := List.any_eq_true.1 h
  obtain ⟨i, hi, rfl⟩ := List.getElem_of_mem hx'
  have := hx.1 i hi
  simp [inB] at h2
  omega
/-- what is known of the starts so far -/
theorem sailTo_range {ws : Nat → List WindowD} {mins : Nat → Int} {waits : Nat → Bool} {start : Int} (hw : ∀ i, WinOk (ws i) 2881) : ∀ {i : Nat} {l : List Int}, sailTo ws mins waits start i = some l → 0 ≤ lastP l ∧ lastP l ≤ 2880
  | 0, l, h => by
    rw [sailTo] at h
    split at h
    · rename_i h2
      cases h
      exact hasMin_range (hw 0) h2
    · cases h
  | i + 1, l, h => by
    rw [sailTo] at h
    cases e : sailTo ws mins waits start i with
    | none => rw [e] at h; cases h
    | some q =>
      rw [e] at h
      simp only at h
      split at h
      · cases h
      · rename_i h2
        cases h
        rw [lastP_snoc]
        have := nextMin_range (xs := ws (i + 1)) (m := lastP q + mins i) (fun x hx => by obtain ⟨j, hj, rfl⟩ := List.getElem_of_mem hx; have := (hw (i + 1)).1 j hj; omega)
        omega
theorem lastP_at {l : List Int} {k : Nat} (h : l.length = k + 1) : lastP l = l[k]'(by omega) := by
  unfold lastP
  have e : l.length - 1 = k := by omega
  rw [e, List.getD_eq_getElem?_getD, List.getElem?_eq_getElem (by omega)]; rfl
def SailRes (o : Option (List Int)) (w : World) (e : Ending) (w' : World) : Prop := ∃ v, e = .returned (.tuple #[v, .bool o.isSome]) ∧ Own w' w.heap.size 3 1 encI v (o.getD []) ∧ Below w.heap.size w w'
theorem SailRes.no {o : Option (List Int)} {w w' : World} (h : o = none) (hb : Below w.heap.size w w') : SailRes o w (.returned (.tuple #[.slice none 0 0, .bool false])) w' := ⟨_, by rw [h]; rfl, by rw [h]; exact Own.nil_, hb⟩
theorem own_freshI (w : World) (m : Int) : Own (w.alloc (.cells #[.int .i64 m] 3)) w.heap.size 3 1 encI (.slice (some ⟨w.heap.size, 0, none⟩) 1 1) [m] := by
  refine ⟨rfl, .inr ⟨w.heap.size, 1, #[.int .i64 m], rfl, Nat.le_refl _, by show (w.heap.push _)[w.heap.size]? = _; simp, Nat.le_refl _, by simp [maxLen], by simp, by simp⟩⟩
set_option maxRecDepth 100000 in
set_option maxHeartbeats 32000000 in
theorem l08Sail_core (v1 v2 v3 v4 v5 : Value) (c : ChartD) (s : ShipD) (pts r : List Int) (rs : List WinR) (m : Int) (w : World) (hch : RdChart w w.heap.size v1 v2 c) (hp : RdI w v3 pts) (hr : RdI w v4 r) (hww : RdWW w w.heap.size v5 rs) (hn : r.length ≤ 1048576) (hr0 : 1 ≤ r.length)
    (hc : chartOk c = true) (hpl : pts.length = r.length + 1) (hpi : ∀ x ∈ pts, 0 ≤ x ∧ x < c.points.length) (hri : ∀ (k : Nat) (hk : k < r.length), inB r[k] 0 ((c.segs.length : Int) - 1) = true)
    (WS : Nat → List WindowD) (MS : Nat → Int) (WT : Nat → Bool) (hrl : rs.length = r.length) (hws : ∀ i (h : i < rs.length), rs[i].xs = WS i) (hwo : ∀ i, WinOk (WS i) 2881) (hms : ∀ k (hk : k < r.length), MS k = shipMinutes (segAt c r[k]) s) (hwt : ∀ k (hk : k < pts.length), WT k = (c.points.getD pts[k].toNat default).wait) :
    Calls Tryz.prog 68 #[.agg #[v1, v2], s.val, v3, v4, v5, .int .i64 m] w (SailRes (sailTo WS MS WT m (r.length - 1)) w) := by
  have HC := hide hc; have HN := hide hn; have HPL := hide hpl; have HPI := hide hpi; have HRI := hide hri; have HWS := hide hws; have HWO := hide hwo; have HMS := hide hms; have HWT := hide hwt; have HWW := hide hww; have HRL := hide hrl
  obtain ⟨x0, x1, x2, x3, x4, x5⟩ := s
  obtain ⟨A1, c1, rfl, -, -, h1⟩ := hch.1
  obtain ⟨A2, c2, rfl, -, -, h2⟩ := hch.2
  obtain ⟨A3, c3, rfl, -, -, h3⟩ := hp
  obtain ⟨A4, c4, rfl, -, hm4, h4⟩ := hr
  obtain ⟨A5, c5, rfl, -, hm5, h5⟩ := hww.1
  obtain ⟨b4, o4, rfl, hb4, hcell4⟩ := h4 (by omega)
  obtain ⟨b3, o3, rfl, hb3, hcell3⟩ := h3 (by omega)
  obtain ⟨b5, o5, rfl, hb5, hcell5⟩ := h5 (by omega)
  have H1 := hide h1; have H2 := hide h2; have H3 := hide hcell3; have H4 := hide hcell4; have H5 := hide hcell5
  have hl5 : 0 < rs.length := by omega
  have hl5' : (0 : Int) < rs.length := by omega
  have hr5 : rs.length ≤ r.length := by omega
  have hr6 : r.length ≤ rs.length := by omega
  have hp6 : r.length + 1 ≤ pts.length := by omega
  -- the first windows
  obtain ⟨Aw, cw, evw, -, -, -⟩ := hww.2 rs[0] (List.getElem_mem hl5)
  have hcw : w.cell? ⟨b5, o5, none⟩ = some (.slice Aw rs[0].xs.length cw) := by have := hcell5 0 rs[0] (List.getElem?_eq_getElem hl5) 0 _ rfl; rw [evw] at this; simpa using this
  have hwr := hww.2 rs[0] (List.getElem_mem hl5)
  rw [evw] at hwr
  rw [hws 0 hl5] at hcw hwr
  have HW0 := hide hwr
  unfold maxLen at hm4 hm5
  clear hch h1 h2 h3 h4 hww h5 hn hc hpl hpi hri hcell3 hcell4 hcell5 hrl evw hwr hws hwo hms hwt
  go_enter Tryz.func68, Tryz.ntmps68
  go_wp2_with fail
  obtain ⟨W0, hW0⟩ : ∃ W, (w.alloc (.cells #[.slice A1 c.points.length c1, .slice A2 c.segs.length c2] 49)).alloc (.cells #[.string x0, .int .i64 x1, .int .i64 x2, .int .i64 x3, .int .i64 x4, .bool x5] 51) = W := ⟨_, rfl⟩
  have hb0 : Below w.heap.size w W0 := by rw [← hW0]; exact (by repeat (first | exact Below.refl _ _ | assumption | refine Below.setCell ?_ (by first | omega | (simp <;> omega)) _ | refine Below.alloc ?_ (by first | omega | (simp <;> omega)) _ | refine below_drewN ?_ _ | refine Below.drew ?_ | refine Below.trans ?_ (Below.mono (by assumption) (by first | omega | (simp <;> omega)))))
  have hl0 : w.heap.size + 1 < W0.heap.size := by rw [← hW0]; simp
  have hlw : w.heap.size < W0.heap.size := by omega
  have z0 : W0.cell? ⟨w.heap.size, 0, none⟩ = some (.slice A1 c.points.length c1) := by rw [← hW0]; simp [go_sem]
  have z1 : W0.cell? ⟨w.heap.size, 1, none⟩ = some (.slice A2 c.segs.length c2) := by rw [← hW0]; simp [go_sem]
  have z2 : W0.cell? ⟨w.heap.size + 1, 0, none⟩ = some (.string x0) := by rw [← hW0]; simp [go_sem]
  have z3 : W0.cell? ⟨w.heap.size + 1, 1, none⟩ = some (.int .i64 x1) := by rw [← hW0]; simp [go_sem]
  have z4 : W0.cell? ⟨w.heap.size + 1, 2, none⟩ = some (.int .i64 x2) := by rw [← hW0]; simp [go_sem]
  have z5 : W0.cell? ⟨w.heap.size + 1, 3, none⟩ = some (.int .i64 x3) := by rw [← hW0]; simp [go_sem]
  have z6 : W0.cell? ⟨w.heap.size + 1, 4, none⟩ = some (.int .i64 x4) := by rw [← hW0]; simp [go_sem]
  have z7 : W0.cell? ⟨w.heap.size + 1, 5, none⟩ = some (.bool x5) := by rw [← hW0]; simp [go_sem]
  rw [hW0]
  clear hW0
  refine (spec_HasMinute_any _ (WS 0) m _ ((HW0.out.keep hb0 (Nat.le_refl _)).mono hb0.size)).mono ?_
  rintro e w1 ⟨rfl, hb1⟩
  have HB1 := hide hb1
  have hs1 := hb1.size
  clear hb1 hcw
  rcases hhm : hasMin (WS 0) m with _ | _
  · have HNO := hide (sailTo_none (i := 0) (j := r.length - 1) (show sailTo WS MS WT m 0 = none by rw [sailTo, hhm]; rfl) (Nat.zero_le _))
    clear hhm
    go_wp2
    go_ret2
    exact SailRes.no HNO.out (hb0.trans (HB1.out.mono (by omega)))
  · have HS0 := hide (show sailTo WS MS WT m 0 = some [m] by rw [sailTo, if_pos hhm])
    clear hhm
    go_wp2_with fail
    have hou0 : Own (w1.alloc (.cells #[.int .i64 m] 3)) w1.heap.size 3 1 encI (.slice (some ⟨w1.heap.size, 0, none⟩) 1 1) [m] := own_freshI w1 m
    have HO0 := hide (hou0.mono (base' := W0.heap.size) hs1)
    have HB2 := hide (HB1.out.trans (show Below W0.heap.size w1 (w1.alloc (.cells #[.int .i64 m] 3)) from (by repeat (first | exact Below.refl _ _ | assumption | refine Below.setCell ?_ (by first | omega | (simp <;> omega)) _ | refine Below.alloc ?_ (by first | omega | (simp <;> omega)) _ | refine below_drewN ?_ _ | refine Below.drew ?_ | refine Below.trans ?_ (Below.mono (by assumption) (by first | omega | (simp <;> omega)))))))
    clear hou0
    go_loopw [14, 15] (fun o iv wr => ∃ (k : Nat) (l : List Int), iv = .int .i64 ((k + 1 : Nat) : Int) ∧ k + 1 ≤ r.length ∧ Hid (sailTo WS MS WT m k = some l) ∧ Hid (Own wr W0.heap.size 3 1 encI o l) ∧ Hid (Below W0.heap.size W0 wr)) (fun _ iv _ => r.length - (intOf iv).toNat)
    case atStart => exact ⟨0, [m], by first | rfl | go_num, hr0, HS0, HO0, HB2⟩
    case round =>
      clear HS0 HO0 HB1 HB2 hs1
      obtain ⟨k, l, rfl, hk, HS, HO, HB⟩ := hrel
      obtain ⟨wo, rfl⟩ : ∃ wo : World, wo = wr := ⟨_, rfl⟩
      have hsz := HB.out.size
      have HLL := hide (sailTo_len HS.out)
      have HBW := hide (hb0.trans (HB.out.mono (show w.heap.size ≤ W0.heap.size by omega)))
      obtain ⟨A7, c7, rfl, hc7, hm7, h7⟩ := Own.rd encI_len HO.out
      unfold maxLen at hm7
      by_cases hlt : k + 1 < r.length
      · have hlt' : ((k + 1 : Nat) : Int) < r.length := by omega
        have hll : l.length = k + 1 := HLL.out
        have hlr := sailTo_range HWO.out HS.out
        rw [lastP_at hll] at hlr
        obtain ⟨b7, o7, rfl, hb7, hc7'⟩ := h7 (by omega)
        have q7 : wo.cell? ⟨b7, o7 + k, none⟩ = some (.int .i64 (l[k]'(by omega))) := by have := hc7' k (l[k]'(by omega)) (List.getElem?_eq_getElem (by omega)) 0 _ rfl; simpa using this
        have hLP := lastP_at hll
        obtain ⟨la, hla⟩ : ∃ x, l[k]'(by omega) = x := ⟨_, rfl⟩
        rw [hla] at q7 hlr hLP
        obtain ⟨la0, la1⟩ := hlr
        have HLP := hide hLP
        -- the segment
        obtain ⟨g, hg, hgl⟩ := idx_nat (HRI.out k (by omega))
        have q4 : wo.cell? ⟨b4, o4 + k, none⟩ = some (.int .i64 (g : Int)) := by
          have := H4.out k (r[k]'(by omega)) (List.getElem?_eq_getElem (by omega)) 0 _ rfl
          exact cellKeep HBW.out (by rw [← hg]; simpa using this) hb4
        have hms : MS k = shipMinutes c.segs[g] ⟨x0, x1, x2, x3, x4, x5⟩ := by rw [HMS.out k (by omega), hg, segAt_nat hgl]
        obtain ⟨-, -, -, -, -, -, -, hq1, hq2⟩ := chart_seg HC.out hgl
        have hmr := shipMinutes_range (s := ⟨x0, x1, x2, x3, x4, x5⟩) hq1 hq2
        obtain ⟨b2, o2, rfl, hb2, hcell2⟩ := H2.out (by omega)
        have hbl2 : b2 < wo.heap.size := by have := HBW.out.size; omega
        have hbwk := HBW.out
        have u0 : wo.cell? ⟨b2, o2 + g * 5, none⟩ = some (.int .i64 c.segs[g].a) := by
          rw [hbwk.cell (p := ⟨b2, _, none⟩) hb2]; have := hcell2 g c.segs[g] (List.getElem?_eq_getElem hgl) 0 _ rfl; simpa using this
        have u1 : wo.cell? ⟨b2, o2 + g * 5 + 1, none⟩ = some (.int .i64 c.segs[g].b) := by
          rw [hbwk.cell (p := ⟨b2, _, none⟩) hb2]; have := hcell2 g c.segs[g] (List.getElem?_eq_getElem hgl) 1 _ rfl; simpa using this
        have u2 : wo.cell? ⟨b2, o2 + g * 5 + 2, none⟩ = some (.int .i64 c.segs[g].depth) := by
          rw [hbwk.cell (p := ⟨b2, _, none⟩) hb2]; have := hcell2 g c.segs[g] (List.getElem?_eq_getElem hgl) 2 _ rfl; simpa using this
        have u3 : wo.cell? ⟨b2, o2 + g * 5 + 3, none⟩ = some (.int .i64 c.segs[g].minutes) := by
          rw [hbwk.cell (p := ⟨b2, _, none⟩) hb2]; have := hcell2 g c.segs[g] (List.getElem?_eq_getElem hgl) 3 _ rfl; simpa using this
        have u4 : wo.cell? ⟨b2, o2 + g * 5 + 4, none⟩ = some (.bool c.segs[g].meet) := by
          rw [hbwk.cell (p := ⟨b2, _, none⟩) hb2]; have := hcell2 g c.segs[g] (List.getElem?_eq_getElem hgl) 4 _ rfl; simpa using this
        obtain ⟨gs, hgs⟩ : ∃ x, c.segs[g] = x := ⟨_, rfl⟩
        rw [hgs] at u0 u1 u2 u3 u4 hq1 hq2 hmr hms
        obtain ⟨mn, hmn⟩ : ∃ x, shipMinutes gs ⟨x0, x1, x2, x3, x4, x5⟩ = x := ⟨_, rfl⟩
        rw [hmn] at hmr hms
        obtain ⟨mn0, mn1⟩ := hmr
        have HMN := hide hmn; have HMSK := hide hms
        have hglI : (g : Int) < c.segs.length := by omega
        have hb4' : b4 < wo.heap.size := by have := HBW.out.size; omega
        have hb3' : b3 < wo.heap.size := by have := HBW.out.size; omega
        have hb5' : b5 < wo.heap.size := by have := HBW.out.size; omega
        have hlw' : w.heap.size < wo.heap.size := by omega
        have hl0' : w.heap.size + 1 < wo.heap.size := by omega
        have hkI : (k : Int) < r.length := by omega
        have hkL : (k : Int) < l.length := by omega
        have hk1 : IntKind.i64.wrap (((k + 1 : Nat) : Int) - 1) = (k : Int) := by rw [IntWalk.i64_in _ (by omega)]; omega
        have hk2 : ((k + 1 : Nat) : Int) - 1 = (k : Int) := by omega
        have hk3 : IntKind.i64.wrap (k : Int) = (k : Int) := IntWalk.i64_in _ (by omega)
        have hk4 : IntKind.i64.wrap (((k : Int) + 1) - 1) = (k : Int) := by rw [IntWalk.i64_in _ (by omega)]; omega
        have hk5 : ((k : Int) + 1) - 1 = (k : Int) := by omega
        have hsum : IntKind.i64.wrap (la + mn) = la + mn := IntWalk.i64_in _ (by omega)
        clear hla hLP hms hmn hgs hcell2 hbwk hg hc7' h7 hll
        have y0 := cellKeep HB.out z0 hlw
        have y1 := cellKeep HB.out z1 hlw
        have y2 := cellKeep HB.out z2 hl0
        have y3 := cellKeep HB.out z3 hl0
        have y4 := cellKeep HB.out z4 hl0
        have y5 := cellKeep HB.out z5 hl0
        have y6 := cellKeep HB.out z6 hl0
        have y7 := cellKeep HB.out z7 hl0
        go_wp2_with fail
        refine wp_region_below (Below.refl wo.heap.size wo) (by kernel_rfl) (by kernel_rfl) ?_
        repeat (first
          | go_big_quiet_skip
          | (go_big_quiet_want
             first
              | (refine quiet_value ?_; apply Exists.intro
                 refine ⟨fun wq hq => ?_, ?_⟩
                 · (obtain ⟨hc, hf⟩ := bcell hq; go_simp; first | done | rfl)
                 go_big_quiet_on
                 simp only [Act.put, List.setIfInBounds_toArray, List.set_cons_zero, List.set_cons_succ])
              | (refine quiet_call ?_; apply Exists.intro; apply Exists.intro; apply Exists.intro
                 refine ⟨fun wq hq => ?_, fun wq hq => ?_, ?_⟩
                 · (obtain ⟨hc, hf⟩ := bcell hq; go_simp; exact ⟨rfl, rfl⟩)
                 · (first | with_reducible exact (calls_int (l06Minutes_any gs ⟨x0, x1, x2, x3, x4, x5⟩ _ hq1 hq2) HMN.out).mono fun e w'' ⟨he, hw⟩ => ⟨he, hw ▸ hq⟩ | with_reducible exact (calls_int (l06Minutes_any gs ⟨x0, x1, x2, x3, x4, x5⟩ _ hq1 hq2) HMN.out).mono fun e w'' ⟨he, hb'⟩ => ⟨he, bnext hq hb'⟩ |  exact (calls_int (l06Minutes_any gs ⟨x0, x1, x2, x3, x4, x5⟩ _ hq1 hq2) HMN.out).mono fun e w'' ⟨he, hb'⟩ => ⟨he, bnext hq hb'⟩ |  exact (calls_int (l06Minutes_any gs ⟨x0, x1, x2, x3, x4, x5⟩ _ hq1 hq2) HMN.out).mono fun e w'' ⟨he, hw⟩ => ⟨he, hw ▸ hq⟩)
                 go_big_quiet_on
                 simp only [Act.put, List.setIfInBounds_toArray, List.set_cons_zero, List.set_cons_succ])
              | (go_big_quiet_op; go_big_quiet_on)
             ))
        refine wpQuiet_nil (fun w7 hbq7 => ?_)
        have HB7 := hide (bnext HB.out hbq7 (Nat.le_refl _))
        have HBW7 := hide (hb0.trans (HB7.out.mono (show w.heap.size ≤ W0.heap.size by omega)))
        have HO7 := hide (HO.out.below hbq7)
        have hs7 := hbq7.size
        have hl5k : k + 1 < rs.length := by omega
        obtain ⟨Av, cv, ev, -, -, -⟩ := HWW.out.2 rs[k + 1] (List.getElem_mem hl5k)
        have hwr := HWW.out.2 rs[k + 1] (List.getElem_mem hl5k)
        rw [ev] at hwr
        rw [HWS.out _ hl5k] at hwr
        have q5 : w7.cell? ⟨b5, o5 + (k + 1), none⟩ = some (.slice Av (WS (k + 1)).length cv) := by
          have := H5.out (k + 1) rs[k + 1] (List.getElem?_eq_getElem hl5k) 0 _ rfl
          rw [ev, HWS.out _ hl5k] at this
          exact cellKeep HBW7.out (by simpa using this) hb5
        have HWR := hide hwr
        have hl5I : ((k + 1 : Nat) : Int) < rs.length := by omega
        have hb57 : b5 < w7.heap.size := by omega
        clear hbq7 hwr ev q7 q4 u0 u1 u2 u3 u4 y0 y1 y2 y3 y4 y5 y6 y7 hk1 hk2 hk3 hk4 hk5
        go_wp2_with fail
        refine (spec_NextMinute_any _ (WS (k + 1)) _ _ ((HWR.out.keep HBW7.out (Nat.le_refl _)).mono HBW7.out.size) (HWO.out _)).mono ?_
        rintro e w9 ⟨rfl, hb9⟩
        have hNR := nextMin_range (xs := WS (k + 1)) (m := la + mn) (fun x hx => by obtain ⟨j, hj, rfl⟩ := List.getElem_of_mem hx; have := (HWO.out (k + 1)).1 j hj; omega)
        obtain ⟨N, hN⟩ : ∃ n, nextMin (WS (k + 1)) (la + mn) = n := ⟨_, rfl⟩
        rw [hN] at hNR ⊢
        have HNN := hide hN
        have HB9 := hide (bnext HB7.out hb9 (Nat.le_refl _))
        have HBW9 := hide (hb0.trans (HB9.out.mono (show w.heap.size ≤ W0.heap.size by omega)))
        have HO9 := hide (HO7.out.below hb9)
        have hs9 := hb9.size
        have hpk : k + 1 < pts.length := by omega
        have hpin := HPI.out (pts[k + 1]) (List.getElem_mem hpk)
        obtain ⟨pn, hpn⟩ : ∃ n : Nat, pts[k + 1] = n := ⟨(pts[k + 1]).toNat, by omega⟩
        have hpl2 : pn < c.points.length := by omega
        have q3 : w9.cell? ⟨b3, o3 + (k + 1), none⟩ = some (.int .i64 (pn : Int)) := by
          have := H3.out (k + 1) (pts[k + 1]) (List.getElem?_eq_getElem hpk) 0 _ rfl
          exact cellKeep HBW9.out (by rw [← hpn]; simpa using this) hb3
        have hwtk : WT (k + 1) = (c.points[pn]).wait := by rw [HWT.out _ hpk, hpn, Int.toNat_natCast, getD_at hpl2]
        obtain ⟨b1, o1, rfl, hb1', hcell1⟩ := H1.out (by omega)
        have q1p : w9.cell? ⟨b1, o1 + pn * 2 + 1, none⟩ = some (.bool (WT (k + 1))) := by
          have := hcell1 pn c.points[pn] (List.getElem?_eq_getElem hpl2) 1 _ rfl
          rw [hwtk]; exact cellKeep HBW9.out (by simpa using this) hb1'
        have u5 := cellKeep HB9.out z0 hlw
        have u6 := cellKeep HB9.out z1 hlw
        have hb19 : b1 < w9.heap.size := by have := HBW9.out.size; omega
        have hb39 : b3 < w9.heap.size := by omega
        have hw9 : w.heap.size < w9.heap.size := by omega
        have hpI : (pn : Int) < c.points.length := by omega
        have hpkI : ((k + 1 : Nat) : Int) < pts.length := by omega
        have hpkI2 : (k : Int) + 1 < pts.length := by omega
        have hpk0 : (0 : Int) ≤ (k : Int) + 1 := by omega
        have hpkN : ((k : Int) + 1).toNat = k + 1 := by omega
        obtain ⟨wt, hwt⟩ : ∃ b, WT (k + 1) = b := ⟨_, rfl⟩
        have HWTK := hide hwt
        rw [hwt] at q1p
        obtain ⟨i0, hi, hz0, hz1, hz2⟩ := info_parts int_info
        clear hb9 hN hcell1 hwtk hpn hpin hwt q5
        rcases Int.lt_or_le N 0 with hneg | hneg
        · have hn1 : decide (N < 0) = true := by simp; omega
          have HNO := hide (sailTo_none (i := k + 1) (j := r.length - 1) (show sailTo WS MS WT m (k + 1) = none by rw [sailTo, HS.out]; simp only; rw [HLP.out, HMSK.out, HNN.out, if_pos (.inl hneg)]) (by omega))
          go_wp2_with fail
          try have hneg2 : ¬ N < 0 := by omega
          refine wp_region_below (Below.refl w9.heap.size w9) (by kernel_rfl) (by kernel_rfl) ?_
          repeat (first
            | go_big_quiet_skip
            | (go_big_quiet_want
               first
                | (refine quiet_value ?_; apply Exists.intro
                   refine ⟨fun wq hq => ?_, ?_⟩
                   · (obtain ⟨hc, hf⟩ := bcell hq; go_simp; first | done | rfl)
                   go_big_quiet_on
                   simp only [Act.put, List.setIfInBounds_toArray, List.set_cons_zero, List.set_cons_succ])
                | (go_big_quiet_op; go_big_quiet_on)
               ))
          refine wpQuiet_nil (fun wa hba => ?_)
          have HBA := hide (bnext HB9.out hba (Nat.le_refl _))
          go_wp2
          go_ret2
          exact SailRes.no HNO.out (hb0.trans (HBA.out.mono (by omega)))
        · have hneg' : ¬ N < 0 := by omega
          rcases Classical.em (N = la + mn) with heq | heq
          · have hne : (N != la + mn) = false := by simp [heq]
            have HEQ := hide heq; clear heq
            have HSN := hide (show sailTo WS MS WT m (k + 1) = some (l ++ [N]) by rw [sailTo, HS.out]; simp only; rw [HLP.out, HMSK.out, HNN.out, if_neg (by have := HEQ.out; omega)])
            go_wp2_with fail
            try have hneg2 : ¬ N < 0 := by omega
            refine wp_region_below (Below.refl w9.heap.size w9) (by kernel_rfl) (by kernel_rfl) ?_
            repeat (first
              | go_big_quiet_skip
              | (go_big_quiet_want
                 first
                  | (refine quiet_value ?_; apply Exists.intro
                     refine ⟨fun wq hq => ?_, ?_⟩
                     · (obtain ⟨hc, hf⟩ := bcell hq; go_simp; first | done | rfl)
                     go_big_quiet_on
                     simp only [Act.put, List.setIfInBounds_toArray, List.set_cons_zero, List.set_cons_succ])
                  | (go_big_quiet_op; go_big_quiet_on)
                 ))
            refine wpQuiet_nil (fun wa hba => ?_)
            have HBA := hide (bnext HB9.out hba (Nat.le_refl _))
            have HOA := hide (HO9.out.below hba)
            have hsa := hba.size
            have hll : l.length ≤ 1048576 := by have := HLL.out; have := HN.out; omega
            have hW0a : W0.heap.size ≤ wa.heap.size := by have := HBA.out.size; omega
            clear hba q3 u5 q1p
            go_wp2_with (at_builtin; refine wpList_append_rd _ encI_len encI_one (by rfl) _ _ 71 (by rfl) W0.heap.size 3 i0 _ 8 Tryz.underlying71 hi hz0 hz1 hz2 rfl (by decide) _ l (by rfl) (HOA.out.below ((Below.refl _ _).alloc (Nat.le_refl _) _)) _ _ [N] (by rfl) (rd_new (enc := encI) _ N _) (by unfold maxLen; simp; omega) (by simp; omega) (by simp; omega) ?_; intro rb wb hownb hgrowb hblkb)
            have ha : Below wa.heap.size wa (wa.alloc (.cells #[.int .i64 N] 3)) := (Below.refl _ _).alloc (Nat.le_refl _) _
            have hbb : Below W0.heap.size wa wb := (ha.mono hW0a).trans (Own.belowGrown (B := W0.heap.size) (HOA.out.below ha) hgrowb (Nat.le_refl _) (by simp <;> omega))
            have hke : IntKind.i64.wrap (((k + 1 : Nat) : Int) + 1) = ((k + 1 : Nat) : Int) + 1 := IntWalk.i64_in _ (by omega)
            go_wp2
            go_roundw
            case rel => exact ⟨k + 1, l ++ [N], by first | rfl | go_num | (congr 1; omega), by omega, HSN, hide hownb, hide (HBA.out.trans hbb)⟩
            case measure => simp [intOf] <;> omega
          · have hne : (N != la + mn) = true := by simp [heq]
            have HEQ := hide heq; clear heq
            cases wt
            · skip
              have HNO := hide (sailTo_none (i := k + 1) (j := r.length - 1) (show sailTo WS MS WT m (k + 1) = none by rw [sailTo, HS.out]; simp only; rw [HLP.out, HMSK.out, HNN.out, if_pos (.inr ⟨HEQ.out, HWTK.out⟩)]) (by omega))
              go_wp2_with fail
              try have hneg2 : ¬ N < 0 := by omega
              refine wp_region_below (Below.refl w9.heap.size w9) (by kernel_rfl) (by kernel_rfl) ?_
              repeat (first
                | go_big_quiet_skip
                | (go_big_quiet_want
                   first
                    | (refine quiet_value ?_; apply Exists.intro
                       refine ⟨fun wq hq => ?_, ?_⟩
                       · (obtain ⟨hc, hf⟩ := bcell hq; go_simp; first | done | rfl)
                       go_big_quiet_on
                       simp only [Act.put, List.setIfInBounds_toArray, List.set_cons_zero, List.set_cons_succ])
                    | (go_big_quiet_op; go_big_quiet_on)
                   ))
              refine wpQuiet_nil (fun wa hba => ?_)
              have HBA := hide (bnext HB9.out hba (Nat.le_refl _))
              go_wp2
              go_ret2
              exact SailRes.no HNO.out (hb0.trans (HBA.out.mono (by omega)))
            · skip
              have HSN := hide (show sailTo WS MS WT m (k + 1) = some (l ++ [N]) by rw [sailTo, HS.out]; simp only; rw [HLP.out, HMSK.out, HNN.out, if_neg (by rintro (h | ⟨-, h⟩); omega; (rw [HWTK.out] at h; cases h))])
              go_wp2_with fail
              try have hneg2 : ¬ N < 0 := by omega
              refine wp_region_below (Below.refl w9.heap.size w9) (by kernel_rfl) (by kernel_rfl) ?_
              repeat (first
                | go_big_quiet_skip
                | (go_big_quiet_want
                   first
                    | (refine quiet_value ?_; apply Exists.intro
                       refine ⟨fun wq hq => ?_, ?_⟩
                       · (obtain ⟨hc, hf⟩ := bcell hq; go_simp; first | done | rfl)
                       go_big_quiet_on
                       simp only [Act.put, List.setIfInBounds_toArray, List.set_cons_zero, List.set_cons_succ])
                    | (go_big_quiet_op; go_big_quiet_on)
                   ))
              refine wpQuiet_nil (fun wa hba => ?_)
              have HBA := hide (bnext HB9.out hba (Nat.le_refl _))
              have HOA := hide (HO9.out.below hba)
              have hsa := hba.size
              have hll : l.length ≤ 1048576 := by have := HLL.out; have := HN.out; omega
              have hW0a : W0.heap.size ≤ wa.heap.size := by have := HBA.out.size; omega
              clear hba q3 u5 q1p
              go_wp2_with (at_builtin; refine wpList_append_rd _ encI_len encI_one (by rfl) _ _ 71 (by rfl) W0.heap.size 3 i0 _ 8 Tryz.underlying71 hi hz0 hz1 hz2 rfl (by decide) _ l (by rfl) (HOA.out.below ((Below.refl _ _).alloc (Nat.le_refl _) _)) _ _ [N] (by rfl) (rd_new (enc := encI) _ N _) (by unfold maxLen; simp; omega) (by simp; omega) (by simp; omega) ?_; intro rb wb hownb hgrowb hblkb)
              have ha : Below wa.heap.size wa (wa.alloc (.cells #[.int .i64 N] 3)) := (Below.refl _ _).alloc (Nat.le_refl _) _
              have hbb : Below W0.heap.size wa wb := (ha.mono hW0a).trans (Own.belowGrown (B := W0.heap.size) (HOA.out.below ha) hgrowb (Nat.le_refl _) (by simp <;> omega))
              have hke : IntKind.i64.wrap (((k + 1 : Nat) : Int) + 1) = ((k + 1 : Nat) : Int) + 1 := IntWalk.i64_in _ (by omega)
              go_wp2
              go_roundw
              case rel => exact ⟨k + 1, l ++ [N], by first | rfl | go_num | (congr 1; omega), by omega, HSN, hide hownb, hide (HBA.out.trans hbb)⟩
              case measure => simp [intOf] <;> omega
      · have hlt' : ¬ (((k + 1 : Nat) : Int) < r.length) := by omega
        have hke : r.length - 1 = k := by omega
        have HKE := hide hke
        clear hke h7
        go_wp2
        go_ret2
        exact ⟨_, by rw [HKE.out, HS.out]; rfl, by rw [HKE.out, HS.out]; exact HO.out.mono (by omega), HBW.out⟩
theorem sailOk_iff {f : ForeD} {c : ChartD} {s : ShipD} {p : Int} {r : List Int} (h : sailOk f c s p r = true) : foreOk f = true ∧ shipOk s = true ∧ routeOk c p r = true ∧ 1 ≤ r.length := by
  unfold sailOk at h
  simp only [Bool.and_eq_true, Bool.not_eq_true', decide_eq_false_iff_not] at h
  exact ⟨h.1.1.1, h.1.1.2, h.1.2, by omega⟩
/-- which of the conditions fails first -/
theorem sailOk_no {f : ForeD} {c : ChartD} {s : ShipD} {p : Int} {r : List Int} (h : sailOk f c s p r = false) : foreOk f = false ∨ (foreOk f = true ∧ shipOk s = false) ∨ (foreOk f = true ∧ shipOk s = true ∧ routeOk c p r = false) ∨ (foreOk f = true ∧ shipOk s = true ∧ routeOk c p r = true ∧ r.length = 0) := by
  unfold sailOk at h
  cases h1 : foreOk f <;> cases h2 : shipOk s <;> cases h3 : routeOk c p r <;> simp [h1, h2, h3] at h ⊢
  exact h
theorem firstFrom_none {g : Int → Option (List Int)} {mm : Int} (h : mm ≤ 2880) (hO : g mm = none) : firstFrom g mm (2881 - mm).toNat = firstFrom g (mm + 1) (2881 - (mm + 1)).toNat := by
  rw [show (2881 - mm).toNat = (2881 - (mm + 1)).toNat + 1 by omega, firstFrom, hO]
theorem firstFrom_some {g : Int → Option (List Int)} {mm : Int} {l : List Int} (h : mm ≤ 2880) (hO : g mm = some l) : firstFrom g mm (2881 - mm).toNat = some l := by
  rw [show (2881 - mm).toNat = (2881 - (mm + 1)).toNat + 1 by omega, firstFrom, hO]
set_option maxRecDepth 100000 in
set_option maxHeartbeats 32000000 in
theorem spec_SailRoute_any (v1 v2 v3 v4 v5 : Value) (f : ForeD) (c : ChartD) (s : ShipD) (p : Int) (r : List Int) (m : Int) (w : World) (h : RdFore w w.heap.size v1 v2 f) (hch : RdChart w w.heap.size v3 v4 c) (hr : RdI w v5 r) (hn : r.length ≤ 1048576) (hokp : ∀ x ∈ c.points, x.name.size ≤ maxLen) (hs : s.name.size ≤ maxLen) :
    Calls Tryz.prog 28 #[.agg #[.int .i64 f.m0, v1, v2], .agg #[v3, v4], s.val, .int .i64 p, v5, .int .i64 m] w (SailRes (sailRoute f c s p r m) w) := by
  have HFR := hide h; have HCR := hide hch; have HRR := hide hr; have HOKP := hide hokp; have HN := hide hn
  obtain ⟨m0, ps, ss⟩ := f
  obtain ⟨x0, x1, x2, x3, x4, x5⟩ := s
  obtain ⟨h1, h2⟩ := h
  obtain ⟨h3, h4⟩ := hch
  simp only at h1 h2 hs HFR ⊢
  have HS := hide hs
  obtain ⟨A1, c1, rfl, -, -, -⟩ := h1
  obtain ⟨A2, c2, rfl, -, -, -⟩ := h2
  obtain ⟨A3, c3, rfl, -, -, -⟩ := h3
  obtain ⟨A4, c4, rfl, -, -, -⟩ := h4
  obtain ⟨A5, c5, rfl, hc5, hm5, -⟩ := hr
  unfold maxLen at hm5
  clear hokp hs
  go_enter Tryz.func28, Tryz.ntmps28
  go_wp2_with fail
  obtain ⟨W0, hW0⟩ : ∃ W, (((w.alloc (.cells #[.int .i64 m0, .slice A1 ps.length c1, .slice A2 ss.length c2] 44)).alloc (.cells #[.slice A3 c.points.length c3, .slice A4 c.segs.length c4] 49)).alloc (.cells #[.string x0, .int .i64 x1, .int .i64 x2, .int .i64 x3, .int .i64 x4, .bool x5] 51)) = W := ⟨_, rfl⟩
  have hb0 : Below w.heap.size w W0 := by rw [← hW0]; exact (by repeat (first | exact Below.refl _ _ | assumption | refine Below.setCell ?_ (by first | omega | (simp <;> omega)) _ | refine Below.alloc ?_ (by first | omega | (simp <;> omega)) _ | refine below_drewN ?_ _ | refine Below.drew ?_ | refine Below.trans ?_ (Below.mono (by assumption) (by first | omega | (simp <;> omega)))))
  have hl0 : w.heap.size + 3 ≤ W0.heap.size := by rw [← hW0]; simp
  have z0 : W0.cell? ⟨w.heap.size, 0, none⟩ = some (.int .i64 m0) := by rw [← hW0]; simp [go_sem]
  have z1 : W0.cell? ⟨w.heap.size, 1, none⟩ = some (.slice A1 ps.length c1) := by rw [← hW0]; simp [go_sem]
  have z2 : W0.cell? ⟨w.heap.size, 2, none⟩ = some (.slice A2 ss.length c2) := by rw [← hW0]; simp [go_sem]
  have z3 : W0.cell? ⟨w.heap.size + 1, 0, none⟩ = some (.slice A3 c.points.length c3) := by rw [← hW0]; simp [go_sem]
  have z4 : W0.cell? ⟨w.heap.size + 1, 1, none⟩ = some (.slice A4 c.segs.length c4) := by rw [← hW0]; simp [go_sem]
  have z5 : W0.cell? ⟨w.heap.size + 2, 0, none⟩ = some (.string x0) := by rw [← hW0]; simp [go_sem]
  have z6 : W0.cell? ⟨w.heap.size + 2, 1, none⟩ = some (.int .i64 x1) := by rw [← hW0]; simp [go_sem]
  have z7 : W0.cell? ⟨w.heap.size + 2, 2, none⟩ = some (.int .i64 x2) := by rw [← hW0]; simp [go_sem]
  have z8 : W0.cell? ⟨w.heap.size + 2, 3, none⟩ = some (.int .i64 x3) := by rw [← hW0]; simp [go_sem]
  have z9 : W0.cell? ⟨w.heap.size + 2, 4, none⟩ = some (.int .i64 x4) := by rw [← hW0]; simp [go_sem]
  have z10 : W0.cell? ⟨w.heap.size + 2, 5, none⟩ = some (.bool x5) := by rw [← hW0]; simp [go_sem]
  rw [hW0]
  clear hW0
  have Z := hide (show W0.cell? ⟨w.heap.size, 0, none⟩ = some (.int .i64 m0) ∧ W0.cell? ⟨w.heap.size, 1, none⟩ = some (.slice A1 ps.length c1) ∧ W0.cell? ⟨w.heap.size, 2, none⟩ = some (.slice A2 ss.length c2) ∧ W0.cell? ⟨w.heap.size + 1, 0, none⟩ = some (.slice A3 c.points.length c3) ∧ W0.cell? ⟨w.heap.size + 1, 1, none⟩ = some (.slice A4 c.segs.length c4) ∧ W0.cell? ⟨w.heap.size + 2, 0, none⟩ = some (.string x0) ∧ W0.cell? ⟨w.heap.size + 2, 1, none⟩ = some (.int .i64 x1) ∧ W0.cell? ⟨w.heap.size + 2, 2, none⟩ = some (.int .i64 x2) ∧ W0.cell? ⟨w.heap.size + 2, 3, none⟩ = some (.int .i64 x3) ∧ W0.cell? ⟨w.heap.size + 2, 4, none⟩ = some (.int .i64 x4) ∧ W0.cell? ⟨w.heap.size + 2, 5, none⟩ = some (.bool x5) from ⟨z0, z1, z2, z3, z4, z5, z6, z7, z8, z9, z10⟩)
  have HB0 := hide (Below.refl W0.heap.size W0)
  clear z0 z1 z2 z3 z4 z5 z6 z7 z8 z9 z10
  have HBW0 := hide hb0
  rcases hok : sailOk ⟨m0, ps, ss⟩ c ⟨x0, x1, x2, x3, x4, x5⟩ p r with _ | _
  · have HNO := hide (show sailRoute ⟨m0, ps, ss⟩ c ⟨x0, x1, x2, x3, x4, x5⟩ p r m = none from by unfold sailRoute; rw [hok]; rfl)
    have hcase := sailOk_no hok
    clear hok
    rcases hcase with g1 | ⟨g1, g2⟩ | ⟨g1, g2, g3⟩ | ⟨g1, g2, g3, g4⟩
    · have G1 := hide g1; clear g1
      refine (spec_ForecastOk_any _ _ ⟨m0, ps, ss⟩ _ ((HFR.out.keep HBW0.out (Nat.le_refl _)).mono HBW0.out.size)).mono ?_
      rintro e w1 ⟨rfl, hb1⟩
      rw [G1.out]
      have HB1 := hide (bnext HB0.out hb1 (Nat.le_refl _))
      have HBW1 := hide (hb0.trans (HB1.out.mono (show w.heap.size ≤ W0.heap.size by omega)))
      have s1 := HB1.out.size
      clear hb1
      have y0 := cellKeep HB1.out Z.out.1 (by omega)
      have y1 := cellKeep HB1.out Z.out.2.1 (by omega)
      have y2 := cellKeep HB1.out Z.out.2.2.1 (by omega)
      have y3 := cellKeep HB1.out Z.out.2.2.2.1 (by omega)
      have y4 := cellKeep HB1.out Z.out.2.2.2.2.1 (by omega)
      have y5 := cellKeep HB1.out Z.out.2.2.2.2.2.1 (by omega)
      have y6 := cellKeep HB1.out Z.out.2.2.2.2.2.2.1 (by omega)
      have y7 := cellKeep HB1.out Z.out.2.2.2.2.2.2.2.1 (by omega)
      have y8 := cellKeep HB1.out Z.out.2.2.2.2.2.2.2.2.1 (by omega)
      have y9 := cellKeep HB1.out Z.out.2.2.2.2.2.2.2.2.2.1 (by omega)
      have y10 := cellKeep HB1.out Z.out.2.2.2.2.2.2.2.2.2.2 (by omega)
      go_wp2
      go_ret2
      exact SailRes.no HNO.out HBW1.out
    · have G1 := hide g1; have G2 := hide g2; clear g1 g2
      refine (spec_ForecastOk_any _ _ ⟨m0, ps, ss⟩ _ ((HFR.out.keep HBW0.out (Nat.le_refl _)).mono HBW0.out.size)).mono ?_
      rintro e w1 ⟨rfl, hb1⟩
      rw [G1.out]
      have HB1 := hide (bnext HB0.out hb1 (Nat.le_refl _))
      have HBW1 := hide (hb0.trans (HB1.out.mono (show w.heap.size ≤ W0.heap.size by omega)))
      have s1 := HB1.out.size
      clear hb1
      have y0 := cellKeep HB1.out Z.out.1 (by omega)
      have y1 := cellKeep HB1.out Z.out.2.1 (by omega)
      have y2 := cellKeep HB1.out Z.out.2.2.1 (by omega)
      have y3 := cellKeep HB1.out Z.out.2.2.2.1 (by omega)
      have y4 := cellKeep HB1.out Z.out.2.2.2.2.1 (by omega)
      have y5 := cellKeep HB1.out Z.out.2.2.2.2.2.1 (by omega)
      have y6 := cellKeep HB1.out Z.out.2.2.2.2.2.2.1 (by omega)
      have y7 := cellKeep HB1.out Z.out.2.2.2.2.2.2.2.1 (by omega)
      have y8 := cellKeep HB1.out Z.out.2.2.2.2.2.2.2.2.1 (by omega)
      have y9 := cellKeep HB1.out Z.out.2.2.2.2.2.2.2.2.2.1 (by omega)
      have y10 := cellKeep HB1.out Z.out.2.2.2.2.2.2.2.2.2.2 (by omega)
      go_wp2_with fail
      refine (spec_ShipOk_any _ _ _ _ _ _ _ HS.out).mono ?_
      rintro e w2 ⟨rfl, hb2⟩
      rw [G2.out]
      have HB2 := hide (bnext HB1.out hb2 (Nat.le_refl _))
      have HBW2 := hide (hb0.trans (HB2.out.mono (show w.heap.size ≤ W0.heap.size by omega)))
      have s2 := HB2.out.size
      clear hb2 y0 y1 y2 y3 y4 y5 y6 y7 y8 y9 y10
      have y0 := cellKeep HB2.out Z.out.1 (by omega)
      have y1 := cellKeep HB2.out Z.out.2.1 (by omega)
      have y2 := cellKeep HB2.out Z.out.2.2.1 (by omega)
      have y3 := cellKeep HB2.out Z.out.2.2.2.1 (by omega)
      have y4 := cellKeep HB2.out Z.out.2.2.2.2.1 (by omega)
      have y5 := cellKeep HB2.out Z.out.2.2.2.2.2.1 (by omega)
      have y6 := cellKeep HB2.out Z.out.2.2.2.2.2.2.1 (by omega)
      have y7 := cellKeep HB2.out Z.out.2.2.2.2.2.2.2.1 (by omega)
      have y8 := cellKeep HB2.out Z.out.2.2.2.2.2.2.2.2.1 (by omega)
      have y9 := cellKeep HB2.out Z.out.2.2.2.2.2.2.2.2.2.1 (by omega)
      have y10 := cellKeep HB2.out Z.out.2.2.2.2.2.2.2.2.2.2 (by omega)
      go_wp2
      go_ret2
      exact SailRes.no HNO.out HBW2.out
    · have G1 := hide g1; have G2 := hide g2; have G3 := hide g3; clear g1 g2 g3
      refine (spec_ForecastOk_any _ _ ⟨m0, ps, ss⟩ _ ((HFR.out.keep HBW0.out (Nat.le_refl _)).mono HBW0.out.size)).mono ?_
      rintro e w1 ⟨rfl, hb1⟩
      rw [G1.out]
      have HB1 := hide (bnext HB0.out hb1 (Nat.le_refl _))
      have HBW1 := hide (hb0.trans (HB1.out.mono (show w.heap.size ≤ W0.heap.size by omega)))
      have s1 := HB1.out.size
      clear hb1
      have y0 := cellKeep HB1.out Z.out.1 (by omega)
      have y1 := cellKeep HB1.out Z.out.2.1 (by omega)
      have y2 := cellKeep HB1.out Z.out.2.2.1 (by omega)
      have y3 := cellKeep HB1.out Z.out.2.2.2.1 (by omega)
      have y4 := cellKeep HB1.out Z.out.2.2.2.2.1 (by omega)
      have y5 := cellKeep HB1.out Z.out.2.2.2.2.2.1 (by omega)
      have y6 := cellKeep HB1.out Z.out.2.2.2.2.2.2.1 (by omega)
      have y7 := cellKeep HB1.out Z.out.2.2.2.2.2.2.2.1 (by omega)
      have y8 := cellKeep HB1.out Z.out.2.2.2.2.2.2.2.2.1 (by omega)
      have y9 := cellKeep HB1.out Z.out.2.2.2.2.2.2.2.2.2.1 (by omega)
      have y10 := cellKeep HB1.out Z.out.2.2.2.2.2.2.2.2.2.2 (by omega)
      go_wp2_with fail
      refine (spec_ShipOk_any _ _ _ _ _ _ _ HS.out).mono ?_
      rintro e w2 ⟨rfl, hb2⟩
      rw [G2.out]
      have HB2 := hide (bnext HB1.out hb2 (Nat.le_refl _))
      have HBW2 := hide (hb0.trans (HB2.out.mono (show w.heap.size ≤ W0.heap.size by omega)))
      have s2 := HB2.out.size
      clear hb2 y0 y1 y2 y3 y4 y5 y6 y7 y8 y9 y10
      have y0 := cellKeep HB2.out Z.out.1 (by omega)
      have y1 := cellKeep HB2.out Z.out.2.1 (by omega)
      have y2 := cellKeep HB2.out Z.out.2.2.1 (by omega)
      have y3 := cellKeep HB2.out Z.out.2.2.2.1 (by omega)
      have y4 := cellKeep HB2.out Z.out.2.2.2.2.1 (by omega)
      have y5 := cellKeep HB2.out Z.out.2.2.2.2.2.1 (by omega)
      have y6 := cellKeep HB2.out Z.out.2.2.2.2.2.2.1 (by omega)
      have y7 := cellKeep HB2.out Z.out.2.2.2.2.2.2.2.1 (by omega)
      have y8 := cellKeep HB2.out Z.out.2.2.2.2.2.2.2.2.1 (by omega)
      have y9 := cellKeep HB2.out Z.out.2.2.2.2.2.2.2.2.2.1 (by omega)
      have y10 := cellKeep HB2.out Z.out.2.2.2.2.2.2.2.2.2.2 (by omega)
      go_wp2_with fail
      refine (spec_RouteOk_any _ _ _ c p r _ ((HCR.out.keep HBW2.out (Nat.le_refl _)).mono HBW2.out.size) ((RdB.keep HRR.out HBW2.out (Nat.le_refl _)).mono HBW2.out.size) HN.out HOKP.out).mono ?_
      rintro e w3 ⟨rfl, hb3⟩
      rw [G3.out]
      have HB3 := hide (bnext HB2.out hb3 (Nat.le_refl _))
      have HBW3 := hide (hb0.trans (HB3.out.mono (show w.heap.size ≤ W0.heap.size by omega)))
      have s3 := HB3.out.size
      clear hb3 y0 y1 y2 y3 y4 y5 y6 y7 y8 y9 y10
      have y0 := cellKeep HB3.out Z.out.1 (by omega)
      have y1 := cellKeep HB3.out Z.out.2.1 (by omega)
      have y2 := cellKeep HB3.out Z.out.2.2.1 (by omega)
      have y3 := cellKeep HB3.out Z.out.2.2.2.1 (by omega)
      have y4 := cellKeep HB3.out Z.out.2.2.2.2.1 (by omega)
      have y5 := cellKeep HB3.out Z.out.2.2.2.2.2.1 (by omega)
      have y6 := cellKeep HB3.out Z.out.2.2.2.2.2.2.1 (by omega)
      have y7 := cellKeep HB3.out Z.out.2.2.2.2.2.2.2.1 (by omega)
      have y8 := cellKeep HB3.out Z.out.2.2.2.2.2.2.2.2.1 (by omega)
      have y9 := cellKeep HB3.out Z.out.2.2.2.2.2.2.2.2.2.1 (by omega)
      have y10 := cellKeep HB3.out Z.out.2.2.2.2.2.2.2.2.2.2 (by omega)
      go_wp2
      go_ret2
      exact SailRes.no HNO.out HBW3.out
    · have G1 := hide g1; have G2 := hide g2; have G3 := hide g3; clear g1 g2 g3
      have hl01 : ((r.length : Int) == 0) = true := by simp [g4]
      have hl02 : (r.length : Int) = 0 := by omega
      have HR0 := hide g4; clear g4
      refine (spec_ForecastOk_any _ _ ⟨m0, ps, ss⟩ _ ((HFR.out.keep HBW0.out (Nat.le_refl _)).mono HBW0.out.size)).mono ?_
      rintro e w1 ⟨rfl, hb1⟩
      rw [G1.out]
      have HB1 := hide (bnext HB0.out hb1 (Nat.le_refl _))
      have HBW1 := hide (hb0.trans (HB1.out.mono (show w.heap.size ≤ W0.heap.size by omega)))
      have s1 := HB1.out.size
      clear hb1
      have y0 := cellKeep HB1.out Z.out.1 (by omega)
      have y1 := cellKeep HB1.out Z.out.2.1 (by omega)
      have y2 := cellKeep HB1.out Z.out.2.2.1 (by omega)
      have y3 := cellKeep HB1.out Z.out.2.2.2.1 (by omega)
      have y4 := cellKeep HB1.out Z.out.2.2.2.2.1 (by omega)
      have y5 := cellKeep HB1.out Z.out.2.2.2.2.2.1 (by omega)
      have y6 := cellKeep HB1.out Z.out.2.2.2.2.2.2.1 (by omega)
      have y7 := cellKeep HB1.out Z.out.2.2.2.2.2.2.2.1 (by omega)
      have y8 := cellKeep HB1.out Z.out.2.2.2.2.2.2.2.2.1 (by omega)
      have y9 := cellKeep HB1.out Z.out.2.2.2.2.2.2.2.2.2.1 (by omega)
      have y10 := cellKeep HB1.out Z.out.2.2.2.2.2.2.2.2.2.2 (by omega)
      go_wp2_with fail
      refine (spec_ShipOk_any _ _ _ _ _ _ _ HS.out).mono ?_
      rintro e w2 ⟨rfl, hb2⟩
      rw [G2.out]
      have HB2 := hide (bnext HB1.out hb2 (Nat.le_refl _))
      have HBW2 := hide (hb0.trans (HB2.out.mono (show w.heap.size ≤ W0.heap.size by omega)))
      have s2 := HB2.out.size
      clear hb2 y0 y1 y2 y3 y4 y5 y6 y7 y8 y9 y10
      have y0 := cellKeep HB2.out Z.out.1 (by omega)
      have y1 := cellKeep HB2.out Z.out.2.1 (by omega)
      have y2 := cellKeep HB2.out Z.out.2.2.1 (by omega)
      have y3 := cellKeep HB2.out Z.out.2.2.2.1 (by omega)
      have y4 := cellKeep HB2.out Z.out.2.2.2.2.1 (by omega)
      have y5 := cellKeep HB2.out Z.out.2.2.2.2.2.1 (by omega)
      have y6 := cellKeep HB2.out Z.out.2.2.2.2.2.2.1 (by omega)
      have y7 := cellKeep HB2.out Z.out.2.2.2.2.2.2.2.1 (by omega)
      have y8 := cellKeep HB2.out Z.out.2.2.2.2.2.2.2.2.1 (by omega)
      have y9 := cellKeep HB2.out Z.out.2.2.2.2.2.2.2.2.2.1 (by omega)
      have y10 := cellKeep HB2.out Z.out.2.2.2.2.2.2.2.2.2.2 (by omega)
      go_wp2_with fail
      refine (spec_RouteOk_any _ _ _ c p r _ ((HCR.out.keep HBW2.out (Nat.le_refl _)).mono HBW2.out.size) ((RdB.keep HRR.out HBW2.out (Nat.le_refl _)).mono HBW2.out.size) HN.out HOKP.out).mono ?_
      rintro e w3 ⟨rfl, hb3⟩
      rw [G3.out]
      have HB3 := hide (bnext HB2.out hb3 (Nat.le_refl _))
      have HBW3 := hide (hb0.trans (HB3.out.mono (show w.heap.size ≤ W0.heap.size by omega)))
      have s3 := HB3.out.size
      clear hb3 y0 y1 y2 y3 y4 y5 y6 y7 y8 y9 y10
      have y0 := cellKeep HB3.out Z.out.1 (by omega)
      have y1 := cellKeep HB3.out Z.out.2.1 (by omega)
      have y2 := cellKeep HB3.out Z.out.2.2.1 (by omega)
      have y3 := cellKeep HB3.out Z.out.2.2.2.1 (by omega)
      have y4 := cellKeep HB3.out Z.out.2.2.2.2.1 (by omega)
      have y5 := cellKeep HB3.out Z.out.2.2.2.2.2.1 (by omega)
      have y6 := cellKeep HB3.out Z.out.2.2.2.2.2.2.1 (by omega)
      have y7 := cellKeep HB3.out Z.out.2.2.2.2.2.2.2.1 (by omega)
      have y8 := cellKeep HB3.out Z.out.2.2.2.2.2.2.2.2.1 (by omega)
      have y9 := cellKeep HB3.out Z.out.2.2.2.2.2.2.2.2.2.1 (by omega)
      have y10 := cellKeep HB3.out Z.out.2.2.2.2.2.2.2.2.2.2 (by omega)
      go_wp2
      go_ret2
      exact SailRes.no HNO.out HBW3.out
  · obtain ⟨g1, g2, g3, g4⟩ := sailOk_iff hok
    have HOK := hide hok
    have G1 := hide g1; have G2 := hide g2; have G3 := hide g3
    have hl00 : ((r.length : Int) == 0) = false := by simp; intro e; subst e; simp at g4
    have hl02 : ¬ (r.length : Int) = 0 := by omega
    have hr0 : 1 ≤ r.length := g4
    clear g1 g2 g3 g4 hok
    refine (spec_ForecastOk_any _ _ ⟨m0, ps, ss⟩ _ ((HFR.out.keep HBW0.out (Nat.le_refl _)).mono HBW0.out.size)).mono ?_
    rintro e w1 ⟨rfl, hb1⟩
    rw [G1.out]
    have HB1 := hide (bnext HB0.out hb1 (Nat.le_refl _))
    have HBW1 := hide (hb0.trans (HB1.out.mono (show w.heap.size ≤ W0.heap.size by omega)))
    have s1 := HB1.out.size
    clear hb1
    have y0 := cellKeep HB1.out Z.out.1 (by omega)
    have y1 := cellKeep HB1.out Z.out.2.1 (by omega)
    have y2 := cellKeep HB1.out Z.out.2.2.1 (by omega)
    have y3 := cellKeep HB1.out Z.out.2.2.2.1 (by omega)
    have y4 := cellKeep HB1.out Z.out.2.2.2.2.1 (by omega)
    have y5 := cellKeep HB1.out Z.out.2.2.2.2.2.1 (by omega)
    have y6 := cellKeep HB1.out Z.out.2.2.2.2.2.2.1 (by omega)
    have y7 := cellKeep HB1.out Z.out.2.2.2.2.2.2.2.1 (by omega)
    have y8 := cellKeep HB1.out Z.out.2.2.2.2.2.2.2.2.1 (by omega)
    have y9 := cellKeep HB1.out Z.out.2.2.2.2.2.2.2.2.2.1 (by omega)
    have y10 := cellKeep HB1.out Z.out.2.2.2.2.2.2.2.2.2.2 (by omega)
    go_wp2_with fail
    refine (spec_ShipOk_any _ _ _ _ _ _ _ HS.out).mono ?_
    rintro e w2 ⟨rfl, hb2⟩
    rw [G2.out]
    have HB2 := hide (bnext HB1.out hb2 (Nat.le_refl _))
    have HBW2 := hide (hb0.trans (HB2.out.mono (show w.heap.size ≤ W0.heap.size by omega)))
    have s2 := HB2.out.size
    clear hb2 y0 y1 y2 y3 y4 y5 y6 y7 y8 y9 y10
    have y0 := cellKeep HB2.out Z.out.1 (by omega)
    have y1 := cellKeep HB2.out Z.out.2.1 (by omega)
    have y2 := cellKeep HB2.out Z.out.2.2.1 (by omega)
    have y3 := cellKeep HB2.out Z.out.2.2.2.1 (by omega)
    have y4 := cellKeep HB2.out Z.out.2.2.2.2.1 (by omega)
    have y5 := cellKeep HB2.out Z.out.2.2.2.2.2.1 (by omega)
    have y6 := cellKeep HB2.out Z.out.2.2.2.2.2.2.1 (by omega)
    have y7 := cellKeep HB2.out Z.out.2.2.2.2.2.2.2.1 (by omega)
    have y8 := cellKeep HB2.out Z.out.2.2.2.2.2.2.2.2.1 (by omega)
    have y9 := cellKeep HB2.out Z.out.2.2.2.2.2.2.2.2.2.1 (by omega)
    have y10 := cellKeep HB2.out Z.out.2.2.2.2.2.2.2.2.2.2 (by omega)
    go_wp2_with fail
    refine (spec_RouteOk_any _ _ _ c p r _ ((HCR.out.keep HBW2.out (Nat.le_refl _)).mono HBW2.out.size) ((RdB.keep HRR.out HBW2.out (Nat.le_refl _)).mono HBW2.out.size) HN.out HOKP.out).mono ?_
    rintro e w3 ⟨rfl, hb3⟩
    rw [G3.out]
    have HB3 := hide (bnext HB2.out hb3 (Nat.le_refl _))
    have HBW3 := hide (hb0.trans (HB3.out.mono (show w.heap.size ≤ W0.heap.size by omega)))
    have s3 := HB3.out.size
    clear hb3 y0 y1 y2 y3 y4 y5 y6 y7 y8 y9 y10
    have y0 := cellKeep HB3.out Z.out.1 (by omega)
    have y1 := cellKeep HB3.out Z.out.2.1 (by omega)
    have y2 := cellKeep HB3.out Z.out.2.2.1 (by omega)
    have y3 := cellKeep HB3.out Z.out.2.2.2.1 (by omega)
    have y4 := cellKeep HB3.out Z.out.2.2.2.2.1 (by omega)
    have y5 := cellKeep HB3.out Z.out.2.2.2.2.2.1 (by omega)
    have y6 := cellKeep HB3.out Z.out.2.2.2.2.2.2.1 (by omega)
    have y7 := cellKeep HB3.out Z.out.2.2.2.2.2.2.2.1 (by omega)
    have y8 := cellKeep HB3.out Z.out.2.2.2.2.2.2.2.2.1 (by omega)
    have y9 := cellKeep HB3.out Z.out.2.2.2.2.2.2.2.2.2.1 (by omega)
    have y10 := cellKeep HB3.out Z.out.2.2.2.2.2.2.2.2.2.2 (by omega)
    go_wp2_with fail
    have keepS : ∀ w', Below W0.heap.size W0 w' → (w'.cell? ⟨w.heap.size, 0, none⟩ = some (.int .i64 m0) ∧ w'.cell? ⟨w.heap.size, 1, none⟩ = some (.slice A1 ps.length c1) ∧ w'.cell? ⟨w.heap.size, 2, none⟩ = some (.slice A2 ss.length c2) ∧ w'.cell? ⟨w.heap.size + 1, 0, none⟩ = some (.slice A3 c.points.length c3) ∧ w'.cell? ⟨w.heap.size + 1, 1, none⟩ = some (.slice A4 c.segs.length c4) ∧ w'.cell? ⟨w.heap.size + 2, 0, none⟩ = some (.string x0) ∧ w'.cell? ⟨w.heap.size + 2, 1, none⟩ = some (.int .i64 x1) ∧ w'.cell? ⟨w.heap.size + 2, 2, none⟩ = some (.int .i64 x2) ∧ w'.cell? ⟨w.heap.size + 2, 3, none⟩ = some (.int .i64 x3) ∧ w'.cell? ⟨w.heap.size + 2, 4, none⟩ = some (.int .i64 x4) ∧ w'.cell? ⟨w.heap.size + 2, 5, none⟩ = some (.bool x5)) ∧ Below W0.heap.size W0 w' := fun w' hB => ⟨⟨cellKeep hB Z.out.1 (by omega), cellKeep hB Z.out.2.1 (by omega), cellKeep hB Z.out.2.2.1 (by omega), cellKeep hB Z.out.2.2.2.1 (by omega), cellKeep hB Z.out.2.2.2.2.1 (by omega), cellKeep hB Z.out.2.2.2.2.2.1 (by omega), cellKeep hB Z.out.2.2.2.2.2.2.1 (by omega), cellKeep hB Z.out.2.2.2.2.2.2.2.1 (by omega), cellKeep hB Z.out.2.2.2.2.2.2.2.2.1 (by omega), cellKeep hB Z.out.2.2.2.2.2.2.2.2.2.1 (by omega), cellKeep hB Z.out.2.2.2.2.2.2.2.2.2.2 (by omega)⟩, hB⟩
    obtain ⟨hck, hpl, hri⟩ := route_ok G3.out
    have HCK := hide hck; have HPL := hide hpl; have HRI := hide hri; have HPI := hide (route_pts G3.out)
    have HSR := hide (show sailRoute ⟨m0, ps, ss⟩ c ⟨x0, x1, x2, x3, x4, x5⟩ p r m = sailTo (rWins ⟨m0, ps, ss⟩ c ⟨x0, x1, x2, x3, x4, x5⟩ r) (rMins c ⟨x0, x1, x2, x3, x4, x5⟩ r) (rWait c (routePts c p r)) m (r.length - 1) by unfold sailRoute; rw [if_pos HOK.out]; rfl)
    clear hck hpl hri
    go_region_held3 (fun w' => (w'.cell? ⟨w.heap.size, 0, none⟩ = some (.int .i64 m0) ∧ w'.cell? ⟨w.heap.size, 1, none⟩ = some (.slice A1 ps.length c1) ∧ w'.cell? ⟨w.heap.size, 2, none⟩ = some (.slice A2 ss.length c2) ∧ w'.cell? ⟨w.heap.size + 1, 0, none⟩ = some (.slice A3 c.points.length c3) ∧ w'.cell? ⟨w.heap.size + 1, 1, none⟩ = some (.slice A4 c.segs.length c4) ∧ w'.cell? ⟨w.heap.size + 2, 0, none⟩ = some (.string x0) ∧ w'.cell? ⟨w.heap.size + 2, 1, none⟩ = some (.int .i64 x1) ∧ w'.cell? ⟨w.heap.size + 2, 2, none⟩ = some (.int .i64 x2) ∧ w'.cell? ⟨w.heap.size + 2, 3, none⟩ = some (.int .i64 x3) ∧ w'.cell? ⟨w.heap.size + 2, 4, none⟩ = some (.int .i64 x4) ∧ w'.cell? ⟨w.heap.size + 2, 5, none⟩ = some (.bool x5)) ∧ Below W0.heap.size W0 w')
      (first
        | with_reducible exact keepS w6 HB6.out
        | with_reducible exact keepS w5 HB5.out
        | with_reducible exact keepS w4 HB4.out
        | ((with_reducible refine keepS (World.drew w3) ?_); exact Below.drew HB3.out))
      (first
        | (go_at_call 69; obtain ⟨_, qB⟩ := (by with_reducible assumption : (_ ∧ _) ∧ Below _ _ _); refine (spec_RoutePoints_any _ _ _ c p r _ ((HCR.out.keep (hb0.trans (Below.mono qB (show w.heap.size ≤ W0.heap.size by omega))) (Nat.le_refl _)).mono (hb0.trans (Below.mono qB (show w.heap.size ≤ W0.heap.size by omega))).size) ((RdB.keep HRR.out (hb0.trans (Below.mono qB (show w.heap.size ≤ W0.heap.size by omega))) (Nat.le_refl _)).mono (hb0.trans (Below.mono qB (show w.heap.size ≤ W0.heap.size by omega))).size) HN.out HOKP.out).mono ?_; rintro e w4 ⟨v4, rfl, ho4, hb4⟩; have HO4 := hide ho4; have HB4 := hide (bnext qB hb4 (Nat.le_refl _)); clear ho4 hb4)
        | (go_at_call 70; obtain ⟨_, qB⟩ := (by with_reducible assumption : (_ ∧ _) ∧ Below _ _ _); refine (l08Starts_any _ _ _ _ _ ⟨m0, ps, ss⟩ c ⟨x0, x1, x2, x3, x4, x5⟩ r _ ((HFR.out.keep (hb0.trans (Below.mono qB (show w.heap.size ≤ W0.heap.size by omega))) (Nat.le_refl _)).mono (hb0.trans (Below.mono qB (show w.heap.size ≤ W0.heap.size by omega))).size) ((HCR.out.keep (hb0.trans (Below.mono qB (show w.heap.size ≤ W0.heap.size by omega))) (Nat.le_refl _)).mono (hb0.trans (Below.mono qB (show w.heap.size ≤ W0.heap.size by omega))).size) ((RdB.keep HRR.out (hb0.trans (Below.mono qB (show w.heap.size ≤ W0.heap.size by omega))) (Nat.le_refl _)).mono (hb0.trans (Below.mono qB (show w.heap.size ≤ W0.heap.size by omega))).size) HN.out HOKP.out HS.out).mono ?_; rintro e w5 ⟨v5, rs, rfl, ho5, hst5, hb5⟩; have HO5 := hide ho5; have HST5 := hide hst5; have HB5 := hide (bnext qB hb5 (Nat.le_refl _)); have HO45 := hide (HO4.out.below hb5); clear ho5 hst5 hb5)
        | (go_at_call 68; obtain ⟨_, qB⟩ := (by with_reducible assumption : (_ ∧ _) ∧ Below _ _ _); refine (l08Sail_core _ _ _ _ _ c ⟨x0, x1, x2, x3, x4, x5⟩ (routePts c p r) r rs m _ ((HCR.out.keep (hb0.trans (Below.mono qB (show w.heap.size ≤ W0.heap.size by omega))) (Nat.le_refl _)).mono (hb0.trans (Below.mono qB (show w.heap.size ≤ W0.heap.size by omega))).size) (Own.rd encI_len HO45.out) ((RdB.keep HRR.out (hb0.trans (Below.mono qB (show w.heap.size ≤ W0.heap.size by omega))) (Nat.le_refl _)).mono (hb0.trans (Below.mono qB (show w.heap.size ≤ W0.heap.size by omega))).size) HO5.out.rd HN.out hr0 HCK.out HPL.out HPI.out HRI.out (rWins ⟨m0, ps, ss⟩ c ⟨x0, x1, x2, x3, x4, x5⟩ r) (rMins c ⟨x0, x1, x2, x3, x4, x5⟩ r) (rWait c (routePts c p r)) HST5.out.1 HST5.out.2 (fun i => startsOf_ok false _ c _ _) (fun k hk => by unfold rMins; rw [getD_at hk]) (fun k hk => by unfold rWait; rw [getD_at hk])).mono ?_; rintro e w6 ⟨v6, rfl, ho6, hb6⟩; have HO6 := hide ho6; have HB6 := hide (bnext qB hb6 (Nat.le_refl _)); have hs6 := qB.size; clear ho6 hb6))
    all_goals
      go_wp2
      go_ret2
      exact ⟨v6, by rw [HSR.out]; rfl, by rw [HSR.out]; exact HO6.out.mono (by omega), hb0.trans (HB6.out.mono (by omega))⟩
set_option maxRecDepth 100000 in
set_option maxHeartbeats 32000000 in
theorem spec_FirstSail_any (v1 v2 v3 v4 v5 : Value) (f : ForeD) (c : ChartD) (s : ShipD) (p : Int) (r : List Int) (m : Int) (w : World) (h : RdFore w w.heap.size v1 v2 f) (hch : RdChart w w.heap.size v3 v4 c) (hr : RdI w v5 r) (hn : r.length ≤ 1048576) (hokp : ∀ x ∈ c.points, x.name.size ≤ maxLen) (hs : s.name.size ≤ maxLen) :
    Calls Tryz.prog 34 #[.agg #[.int .i64 f.m0, v1, v2], .agg #[v3, v4], s.val, .int .i64 p, v5, .int .i64 m] w (SailRes (firstSail f c s p r m) w) := by
  have HFR := hide h; have HCR := hide hch; have HRR := hide hr; have HOKP := hide hokp; have HN := hide hn
  obtain ⟨m0, ps, ss⟩ := f
  obtain ⟨x0, x1, x2, x3, x4, x5⟩ := s
  obtain ⟨h1, h2⟩ := h
  obtain ⟨h3, h4⟩ := hch
  simp only at h1 h2 hs HFR ⊢
  have HS := hide hs
  obtain ⟨A1, c1, rfl, -, -, -⟩ := h1
  obtain ⟨A2, c2, rfl, -, -, -⟩ := h2
  obtain ⟨A3, c3, rfl, -, -, -⟩ := h3
  obtain ⟨A4, c4, rfl, -, -, -⟩ := h4
  obtain ⟨A5, c5, rfl, hc5, hm5, -⟩ := hr
  unfold maxLen at hm5
  clear hokp hs
  go_enter Tryz.func34, Tryz.ntmps34
  go_wp2_with fail
  obtain ⟨W0, hW0⟩ : ∃ W, (((w.alloc (.cells #[.int .i64 m0, .slice A1 ps.length c1, .slice A2 ss.length c2] 44)).alloc (.cells #[.slice A3 c.points.length c3, .slice A4 c.segs.length c4] 49)).alloc (.cells #[.string x0, .int .i64 x1, .int .i64 x2, .int .i64 x3, .int .i64 x4, .bool x5] 51)) = W := ⟨_, rfl⟩
  have hb0 : Below w.heap.size w W0 := by rw [← hW0]; exact (by repeat (first | exact Below.refl _ _ | assumption | refine Below.setCell ?_ (by first | omega | (simp <;> omega)) _ | refine Below.alloc ?_ (by first | omega | (simp <;> omega)) _ | refine below_drewN ?_ _ | refine Below.drew ?_ | refine Below.trans ?_ (Below.mono (by assumption) (by first | omega | (simp <;> omega)))))
  have hl0 : w.heap.size + 3 ≤ W0.heap.size := by rw [← hW0]; simp
  have z0 : W0.cell? ⟨w.heap.size, 0, none⟩ = some (.int .i64 m0) := by rw [← hW0]; simp [go_sem]
  have z1 : W0.cell? ⟨w.heap.size, 1, none⟩ = some (.slice A1 ps.length c1) := by rw [← hW0]; simp [go_sem]
  have z2 : W0.cell? ⟨w.heap.size, 2, none⟩ = some (.slice A2 ss.length c2) := by rw [← hW0]; simp [go_sem]
  have z3 : W0.cell? ⟨w.heap.size + 1, 0, none⟩ = some (.slice A3 c.points.length c3) := by rw [← hW0]; simp [go_sem]
  have z4 : W0.cell? ⟨w.heap.size + 1, 1, none⟩ = some (.slice A4 c.segs.length c4) := by rw [← hW0]; simp [go_sem]
  have z5 : W0.cell? ⟨w.heap.size + 2, 0, none⟩ = some (.string x0) := by rw [← hW0]; simp [go_sem]
  have z6 : W0.cell? ⟨w.heap.size + 2, 1, none⟩ = some (.int .i64 x1) := by rw [← hW0]; simp [go_sem]
  have z7 : W0.cell? ⟨w.heap.size + 2, 2, none⟩ = some (.int .i64 x2) := by rw [← hW0]; simp [go_sem]
  have z8 : W0.cell? ⟨w.heap.size + 2, 3, none⟩ = some (.int .i64 x3) := by rw [← hW0]; simp [go_sem]
  have z9 : W0.cell? ⟨w.heap.size + 2, 4, none⟩ = some (.int .i64 x4) := by rw [← hW0]; simp [go_sem]
  have z10 : W0.cell? ⟨w.heap.size + 2, 5, none⟩ = some (.bool x5) := by rw [← hW0]; simp [go_sem]
  rw [hW0]
  clear hW0
  have Z := hide (show W0.cell? ⟨w.heap.size, 0, none⟩ = some (.int .i64 m0) ∧ W0.cell? ⟨w.heap.size, 1, none⟩ = some (.slice A1 ps.length c1) ∧ W0.cell? ⟨w.heap.size, 2, none⟩ = some (.slice A2 ss.length c2) ∧ W0.cell? ⟨w.heap.size + 1, 0, none⟩ = some (.slice A3 c.points.length c3) ∧ W0.cell? ⟨w.heap.size + 1, 1, none⟩ = some (.slice A4 c.segs.length c4) ∧ W0.cell? ⟨w.heap.size + 2, 0, none⟩ = some (.string x0) ∧ W0.cell? ⟨w.heap.size + 2, 1, none⟩ = some (.int .i64 x1) ∧ W0.cell? ⟨w.heap.size + 2, 2, none⟩ = some (.int .i64 x2) ∧ W0.cell? ⟨w.heap.size + 2, 3, none⟩ = some (.int .i64 x3) ∧ W0.cell? ⟨w.heap.size + 2, 4, none⟩ = some (.int .i64 x4) ∧ W0.cell? ⟨w.heap.size + 2, 5, none⟩ = some (.bool x5) from ⟨z0, z1, z2, z3, z4, z5, z6, z7, z8, z9, z10⟩)
  have HB0 := hide (Below.refl W0.heap.size W0)
  clear z0 z1 z2 z3 z4 z5 z6 z7 z8 z9 z10
  have HBW0 := hide hb0
  rcases hok : sailOk ⟨m0, ps, ss⟩ c ⟨x0, x1, x2, x3, x4, x5⟩ p r with _ | _
  · have HNO := hide (show firstSail ⟨m0, ps, ss⟩ c ⟨x0, x1, x2, x3, x4, x5⟩ p r m = none from by unfold firstSail; rw [hok]; rfl)
    have hcase := sailOk_no hok
    clear hok
    rcases hcase with g1 | ⟨g1, g2⟩ | ⟨g1, g2, g3⟩ | ⟨g1, g2, g3, g4⟩
    · have G1 := hide g1; clear g1
      refine (spec_ForecastOk_any _ _ ⟨m0, ps, ss⟩ _ ((HFR.out.keep HBW0.out (Nat.le_refl _)).mono HBW0.out.size)).mono ?_
      rintro e w1 ⟨rfl, hb1⟩
      rw [G1.out]
      have HB1 := hide (bnext HB0.out hb1 (Nat.le_refl _))
      have HBW1 := hide (hb0.trans (HB1.out.mono (show w.heap.size ≤ W0.heap.size by omega)))
      have s1 := HB1.out.size
      clear hb1
      have y0 := cellKeep HB1.out Z.out.1 (by omega)
      have y1 := cellKeep HB1.out Z.out.2.1 (by omega)
      have y2 := cellKeep HB1.out Z.out.2.2.1 (by omega)
      have y3 := cellKeep HB1.out Z.out.2.2.2.1 (by omega)
      have y4 := cellKeep HB1.out Z.out.2.2.2.2.1 (by omega)
      have y5 := cellKeep HB1.out Z.out.2.2.2.2.2.1 (by omega)
      have y6 := cellKeep HB1.out Z.out.2.2.2.2.2.2.1 (by omega)
      have y7 := cellKeep HB1.out Z.out.2.2.2.2.2.2.2.1 (by omega)
      have y8 := cellKeep HB1.out Z.out.2.2.2.2.2.2.2.2.1 (by omega)
      have y9 := cellKeep HB1.out Z.out.2.2.2.2.2.2.2.2.2.1 (by omega)
      have y10 := cellKeep HB1.out Z.out.2.2.2.2.2.2.2.2.2.2 (by omega)
      go_wp2
      go_ret2
      exact SailRes.no HNO.out HBW1.out
    · have G1 := hide g1; have G2 := hide g2; clear g1 g2
      refine (spec_ForecastOk_any _ _ ⟨m0, ps, ss⟩ _ ((HFR.out.keep HBW0.out (Nat.le_refl _)).mono HBW0.out.size)).mono ?_
      rintro e w1 ⟨rfl, hb1⟩
      rw [G1.out]
      have HB1 := hide (bnext HB0.out hb1 (Nat.le_refl _))
      have HBW1 := hide (hb0.trans (HB1.out.mono (show w.heap.size ≤ W0.heap.size by omega)))
      have s1 := HB1.out.size
      clear hb1
      have y0 := cellKeep HB1.out Z.out.1 (by omega)
      have y1 := cellKeep HB1.out Z.out.2.1 (by omega)
      have y2 := cellKeep HB1.out Z.out.2.2.1 (by omega)
      have y3 := cellKeep HB1.out Z.out.2.2.2.1 (by omega)
      have y4 := cellKeep HB1.out Z.out.2.2.2.2.1 (by omega)
      have y5 := cellKeep HB1.out Z.out.2.2.2.2.2.1 (by omega)
      have y6 := cellKeep HB1.out Z.out.2.2.2.2.2.2.1 (by omega)
      have y7 := cellKeep HB1.out Z.out.2.2.2.2.2.2.2.1 (by omega)
      have y8 := cellKeep HB1.out Z.out.2.2.2.2.2.2.2.2.1 (by omega)
      have y9 := cellKeep HB1.out Z.out.2.2.2.2.2.2.2.2.2.1 (by omega)
      have y10 := cellKeep HB1.out Z.out.2.2.2.2.2.2.2.2.2.2 (by omega)
      go_wp2_with fail
      refine (spec_ShipOk_any _ _ _ _ _ _ _ HS.out).mono ?_
      rintro e w2 ⟨rfl, hb2⟩
      rw [G2.out]
      have HB2 := hide (bnext HB1.out hb2 (Nat.le_refl _))
      have HBW2 := hide (hb0.trans (HB2.out.mono (show w.heap.size ≤ W0.heap.size by omega)))
      have s2 := HB2.out.size
      clear hb2 y0 y1 y2 y3 y4 y5 y6 y7 y8 y9 y10
      have y0 := cellKeep HB2.out Z.out.1 (by omega)
      have y1 := cellKeep HB2.out Z.out.2.1 (by omega)
      have y2 := cellKeep HB2.out Z.out.2.2.1 (by omega)
      have y3 := cellKeep HB2.out Z.out.2.2.2.1 (by omega)
      have y4 := cellKeep HB2.out Z.out.2.2.2.2.1 (by omega)
      have y5 := cellKeep HB2.out Z.out.2.2.2.2.2.1 (by omega)
      have y6 := cellKeep HB2.out Z.out.2.2.2.2.2.2.1 (by omega)
      have y7 := cellKeep HB2.out Z.out.2.2.2.2.2.2.2.1 (by omega)
      have y8 := cellKeep HB2.out Z.out.2.2.2.2.2.2.2.2.1 (by omega)
      have y9 := cellKeep HB2.out Z.out.2.2.2.2.2.2.2.2.2.1 (by omega)
      have y10 := cellKeep HB2.out Z.out.2.2.2.2.2.2.2.2.2.2 (by omega)
      go_wp2
      go_ret2
      exact SailRes.no HNO.out HBW2.out
    · have G1 := hide g1; have G2 := hide g2; have G3 := hide g3; clear g1 g2 g3
      refine (spec_ForecastOk_any _ _ ⟨m0, ps, ss⟩ _ ((HFR.out.keep HBW0.out (Nat.le_refl _)).mono HBW0.out.size)).mono ?_
      rintro e w1 ⟨rfl, hb1⟩
      rw [G1.out]
      have HB1 := hide (bnext HB0.out hb1 (Nat.le_refl _))
      have HBW1 := hide (hb0.trans (HB1.out.mono (show w.heap.size ≤ W0.heap.size by omega)))
      have s1 := HB1.out.size
      clear hb1
      have y0 := cellKeep HB1.out Z.out.1 (by omega)
      have y1 := cellKeep HB1.out Z.out.2.1 (by omega)
      have y2 := cellKeep HB1.out Z.out.2.2.1 (by omega)
      have y3 := cellKeep HB1.out Z.out.2.2.2.1 (by omega)
      have y4 := cellKeep HB1.out Z.out.2.2.2.2.1 (by omega)
      have y5 := cellKeep HB1.out Z.out.2.2.2.2.2.1 (by omega)
      have y6 := cellKeep HB1.out Z.out.2.2.2.2.2.2.1 (by omega)
      have y7 := cellKeep HB1.out Z.out.2.2.2.2.2.2.2.1 (by omega)
      have y8 := cellKeep HB1.out Z.out.2.2.2.2.2.2.2.2.1 (by omega)
      have y9 := cellKeep HB1.out Z.out.2.2.2.2.2.2.2.2.2.1 (by omega)
      have y10 := cellKeep HB1.out Z.out.2.2.2.2.2.2.2.2.2.2 (by omega)
      go_wp2_with fail
      refine (spec_ShipOk_any _ _ _ _ _ _ _ HS.out).mono ?_
      rintro e w2 ⟨rfl, hb2⟩
      rw [G2.out]
      have HB2 := hide (bnext HB1.out hb2 (Nat.le_refl _))
      have HBW2 := hide (hb0.trans (HB2.out.mono (show w.heap.size ≤ W0.heap.size by omega)))
      have s2 := HB2.out.size
      clear hb2 y0 y1 y2 y3 y4 y5 y6 y7 y8 y9 y10
      have y0 := cellKeep HB2.out Z.out.1 (by omega)
      have y1 := cellKeep HB2.out Z.out.2.1 (by omega)
      have y2 := cellKeep HB2.out Z.out.2.2.1 (by omega)
      have y3 := cellKeep HB2.out Z.out.2.2.2.1 (by omega)
      have y4 := cellKeep HB2.out Z.out.2.2.2.2.1 (by omega)
      have y5 := cellKeep HB2.out Z.out.2.2.2.2.2.1 (by omega)
      have y6 := cellKeep HB2.out Z.out.2.2.2.2.2.2.1 (by omega)
      have y7 := cellKeep HB2.out Z.out.2.2.2.2.2.2.2.1 (by omega)
      have y8 := cellKeep HB2.out Z.out.2.2.2.2.2.2.2.2.1 (by omega)
      have y9 := cellKeep HB2.out Z.out.2.2.2.2.2.2.2.2.2.1 (by omega)
      have y10 := cellKeep HB2.out Z.out.2.2.2.2.2.2.2.2.2.2 (by omega)
      go_wp2_with fail
      refine (spec_RouteOk_any _ _ _ c p r _ ((HCR.out.keep HBW2.out (Nat.le_refl _)).mono HBW2.out.size) ((RdB.keep HRR.out HBW2.out (Nat.le_refl _)).mono HBW2.out.size) HN.out HOKP.out).mono ?_
      rintro e w3 ⟨rfl, hb3⟩
      rw [G3.out]
      have HB3 := hide (bnext HB2.out hb3 (Nat.le_refl _))
      have HBW3 := hide (hb0.trans (HB3.out.mono (show w.heap.size ≤ W0.heap.size by omega)))
      have s3 := HB3.out.size
      clear hb3 y0 y1 y2 y3 y4 y5 y6 y7 y8 y9 y10
      have y0 := cellKeep HB3.out Z.out.1 (by omega)
      have y1 := cellKeep HB3.out Z.out.2.1 (by omega)
      have y2 := cellKeep HB3.out Z.out.2.2.1 (by omega)
      have y3 := cellKeep HB3.out Z.out.2.2.2.1 (by omega)
      have y4 := cellKeep HB3.out Z.out.2.2.2.2.1 (by omega)
      have y5 := cellKeep HB3.out Z.out.2.2.2.2.2.1 (by omega)
      have y6 := cellKeep HB3.out Z.out.2.2.2.2.2.2.1 (by omega)
      have y7 := cellKeep HB3.out Z.out.2.2.2.2.2.2.2.1 (by omega)
      have y8 := cellKeep HB3.out Z.out.2.2.2.2.2.2.2.2.1 (by omega)
      have y9 := cellKeep HB3.out Z.out.2.2.2.2.2.2.2.2.2.1 (by omega)
      have y10 := cellKeep HB3.out Z.out.2.2.2.2.2.2.2.2.2.2 (by omega)
      go_wp2
      go_ret2
      exact SailRes.no HNO.out HBW3.out
    · have G1 := hide g1; have G2 := hide g2; have G3 := hide g3; clear g1 g2 g3
      have hl01 : ((r.length : Int) == 0) = true := by simp [g4]
      have hl02 : (r.length : Int) = 0 := by omega
      have HR0 := hide g4; clear g4
      refine (spec_ForecastOk_any _ _ ⟨m0, ps, ss⟩ _ ((HFR.out.keep HBW0.out (Nat.le_refl _)).mono HBW0.out.size)).mono ?_
      rintro e w1 ⟨rfl, hb1⟩
      rw [G1.out]
      have HB1 := hide (bnext HB0.out hb1 (Nat.le_refl _))
      have HBW1 := hide (hb0.trans (HB1.out.mono (show w.heap.size ≤ W0.heap.size by omega)))
      have s1 := HB1.out.size
      clear hb1
      have y0 := cellKeep HB1.out Z.out.1 (by omega)
      have y1 := cellKeep HB1.out Z.out.2.1 (by omega)
      have y2 := cellKeep HB1.out Z.out.2.2.1 (by omega)
      have y3 := cellKeep HB1.out Z.out.2.2.2.1 (by omega)
      have y4 := cellKeep HB1.out Z.out.2.2.2.2.1 (by omega)
      have y5 := cellKeep HB1.out Z.out.2.2.2.2.2.1 (by omega)
      have y6 := cellKeep HB1.out Z.out.2.2.2.2.2.2.1 (by omega)
      have y7 := cellKeep HB1.out Z.out.2.2.2.2.2.2.2.1 (by omega)
      have y8 := cellKeep HB1.out Z.out.2.2.2.2.2.2.2.2.1 (by omega)
      have y9 := cellKeep HB1.out Z.out.2.2.2.2.2.2.2.2.2.1 (by omega)
      have y10 := cellKeep HB1.out Z.out.2.2.2.2.2.2.2.2.2.2 (by omega)
      go_wp2_with fail
      refine (spec_ShipOk_any _ _ _ _ _ _ _ HS.out).mono ?_
      rintro e w2 ⟨rfl, hb2⟩
      rw [G2.out]
      have HB2 := hide (bnext HB1.out hb2 (Nat.le_refl _))
      have HBW2 := hide (hb0.trans (HB2.out.mono (show w.heap.size ≤ W0.heap.size by omega)))
      have s2 := HB2.out.size
      clear hb2 y0 y1 y2 y3 y4 y5 y6 y7 y8 y9 y10
      have y0 := cellKeep HB2.out Z.out.1 (by omega)
      have y1 := cellKeep HB2.out Z.out.2.1 (by omega)
      have y2 := cellKeep HB2.out Z.out.2.2.1 (by omega)
      have y3 := cellKeep HB2.out Z.out.2.2.2.1 (by omega)
      have y4 := cellKeep HB2.out Z.out.2.2.2.2.1 (by omega)
      have y5 := cellKeep HB2.out Z.out.2.2.2.2.2.1 (by omega)
      have y6 := cellKeep HB2.out Z.out.2.2.2.2.2.2.1 (by omega)
      have y7 := cellKeep HB2.out Z.out.2.2.2.2.2.2.2.1 (by omega)
      have y8 := cellKeep HB2.out Z.out.2.2.2.2.2.2.2.2.1 (by omega)
      have y9 := cellKeep HB2.out Z.out.2.2.2.2.2.2.2.2.2.1 (by omega)
      have y10 := cellKeep HB2.out Z.out.2.2.2.2.2.2.2.2.2.2 (by omega)
      go_wp2_with fail
      refine (spec_RouteOk_any _ _ _ c p r _ ((HCR.out.keep HBW2.out (Nat.le_refl _)).mono HBW2.out.size) ((RdB.keep HRR.out HBW2.out (Nat.le_refl _)).mono HBW2.out.size) HN.out HOKP.out).mono ?_
      rintro e w3 ⟨rfl, hb3⟩
      rw [G3.out]
      have HB3 := hide (bnext HB2.out hb3 (Nat.le_refl _))
      have HBW3 := hide (hb0.trans (HB3.out.mono (show w.heap.size ≤ W0.heap.size by omega)))
      have s3 := HB3.out.size
      clear hb3 y0 y1 y2 y3 y4 y5 y6 y7 y8 y9 y10
      have y0 := cellKeep HB3.out Z.out.1 (by omega)
      have y1 := cellKeep HB3.out Z.out.2.1 (by omega)
      have y2 := cellKeep HB3.out Z.out.2.2.1 (by omega)
      have y3 := cellKeep HB3.out Z.out.2.2.2.1 (by omega)
      have y4 := cellKeep HB3.out Z.out.2.2.2.2.1 (by omega)
      have y5 := cellKeep HB3.out Z.out.2.2.2.2.2.1 (by omega)
      have y6 := cellKeep HB3.out Z.out.2.2.2.2.2.2.1 (by omega)
      have y7 := cellKeep HB3.out Z.out.2.2.2.2.2.2.2.1 (by omega)
      have y8 := cellKeep HB3.out Z.out.2.2.2.2.2.2.2.2.1 (by omega)
      have y9 := cellKeep HB3.out Z.out.2.2.2.2.2.2.2.2.2.1 (by omega)
      have y10 := cellKeep HB3.out Z.out.2.2.2.2.2.2.2.2.2.2 (by omega)
      go_wp2
      go_ret2
      exact SailRes.no HNO.out HBW3.out
  · obtain ⟨g1, g2, g3, g4⟩ := sailOk_iff hok
    have HOK := hide hok
    have G1 := hide g1; have G2 := hide g2; have G3 := hide g3
    have hl00 : ((r.length : Int) == 0) = false := by simp; intro e; subst e; simp at g4
    have hl02 : ¬ (r.length : Int) = 0 := by omega
    have hr0 : 1 ≤ r.length := g4
    clear g1 g2 g3 g4 hok
    refine (spec_ForecastOk_any _ _ ⟨m0, ps, ss⟩ _ ((HFR.out.keep HBW0.out (Nat.le_refl _)).mono HBW0.out.size)).mono ?_
    rintro e w1 ⟨rfl, hb1⟩
    rw [G1.out]
    have HB1 := hide (bnext HB0.out hb1 (Nat.le_refl _))
    have HBW1 := hide (hb0.trans (HB1.out.mono (show w.heap.size ≤ W0.heap.size by omega)))
    have s1 := HB1.out.size
    clear hb1
    have y0 := cellKeep HB1.out Z.out.1 (by omega)
    have y1 := cellKeep HB1.out Z.out.2.1 (by omega)
    have y2 := cellKeep HB1.out Z.out.2.2.1 (by omega)
    have y3 := cellKeep HB1.out Z.out.2.2.2.1 (by omega)
    have y4 := cellKeep HB1.out Z.out.2.2.2.2.1 (by omega)
    have y5 := cellKeep HB1.out Z.out.2.2.2.2.2.1 (by omega)
    have y6 := cellKeep HB1.out Z.out.2.2.2.2.2.2.1 (by omega)
    have y7 := cellKeep HB1.out Z.out.2.2.2.2.2.2.2.1 (by omega)
    have y8 := cellKeep HB1.out Z.out.2.2.2.2.2.2.2.2.1 (by omega)
    have y9 := cellKeep HB1.out Z.out.2.2.2.2.2.2.2.2.2.1 (by omega)
    have y10 := cellKeep HB1.out Z.out.2.2.2.2.2.2.2.2.2.2 (by omega)
    go_wp2_with fail
    refine (spec_ShipOk_any _ _ _ _ _ _ _ HS.out).mono ?_
    rintro e w2 ⟨rfl, hb2⟩
    rw [G2.out]
    have HB2 := hide (bnext HB1.out hb2 (Nat.le_refl _))
    have HBW2 := hide (hb0.trans (HB2.out.mono (show w.heap.size ≤ W0.heap.size by omega)))
    have s2 := HB2.out.size
    clear hb2 y0 y1 y2 y3 y4 y5 y6 y7 y8 y9 y10
    have y0 := cellKeep HB2.out Z.out.1 (by omega)
    have y1 := cellKeep HB2.out Z.out.2.1 (by omega)
    have y2 := cellKeep HB2.out Z.out.2.2.1 (by omega)
    have y3 := cellKeep HB2.out Z.out.2.2.2.1 (by omega)
    have y4 := cellKeep HB2.out Z.out.2.2.2.2.1 (by omega)
    have y5 := cellKeep HB2.out Z.out.2.2.2.2.2.1 (by omega)
    have y6 := cellKeep HB2.out Z.out.2.2.2.2.2.2.1 (by omega)
    have y7 := cellKeep HB2.out Z.out.2.2.2.2.2.2.2.1 (by omega)
    have y8 := cellKeep HB2.out Z.out.2.2.2.2.2.2.2.2.1 (by omega)
    have y9 := cellKeep HB2.out Z.out.2.2.2.2.2.2.2.2.2.1 (by omega)
    have y10 := cellKeep HB2.out Z.out.2.2.2.2.2.2.2.2.2.2 (by omega)
    go_wp2_with fail
    refine (spec_RouteOk_any _ _ _ c p r _ ((HCR.out.keep HBW2.out (Nat.le_refl _)).mono HBW2.out.size) ((RdB.keep HRR.out HBW2.out (Nat.le_refl _)).mono HBW2.out.size) HN.out HOKP.out).mono ?_
    rintro e w3 ⟨rfl, hb3⟩
    rw [G3.out]
    have HB3 := hide (bnext HB2.out hb3 (Nat.le_refl _))
    have HBW3 := hide (hb0.trans (HB3.out.mono (show w.heap.size ≤ W0.heap.size by omega)))
    have s3 := HB3.out.size
    clear hb3 y0 y1 y2 y3 y4 y5 y6 y7 y8 y9 y10
    have y0 := cellKeep HB3.out Z.out.1 (by omega)
    have y1 := cellKeep HB3.out Z.out.2.1 (by omega)
    have y2 := cellKeep HB3.out Z.out.2.2.1 (by omega)
    have y3 := cellKeep HB3.out Z.out.2.2.2.1 (by omega)
    have y4 := cellKeep HB3.out Z.out.2.2.2.2.1 (by omega)
    have y5 := cellKeep HB3.out Z.out.2.2.2.2.2.1 (by omega)
    have y6 := cellKeep HB3.out Z.out.2.2.2.2.2.2.1 (by omega)
    have y7 := cellKeep HB3.out Z.out.2.2.2.2.2.2.2.1 (by omega)
    have y8 := cellKeep HB3.out Z.out.2.2.2.2.2.2.2.2.1 (by omega)
    have y9 := cellKeep HB3.out Z.out.2.2.2.2.2.2.2.2.2.1 (by omega)
    have y10 := cellKeep HB3.out Z.out.2.2.2.2.2.2.2.2.2.2 (by omega)
    go_wp2_with fail
    obtain ⟨hck, hpl, hri⟩ := route_ok G3.out
    have HCK := hide hck; have HPL := hide hpl; have HRI := hide hri; have HPI := hide (route_pts G3.out)
    have HSR := hide (show firstSail ⟨m0, ps, ss⟩ c ⟨x0, x1, x2, x3, x4, x5⟩ p r m = firstFrom (sailFrom ⟨m0, ps, ss⟩ c ⟨x0, x1, x2, x3, x4, x5⟩ p r) (max 0 m) (2881 - max 0 m).toNat by unfold firstSail; rw [if_pos HOK.out])
    clear hck hpl hri
    refine (l08Starts_any _ _ _ _ _ ⟨m0, ps, ss⟩ c ⟨x0, x1, x2, x3, x4, x5⟩ r _ ((HFR.out.keep HBW3.out (Nat.le_refl _)).mono HBW3.out.size) ((HCR.out.keep HBW3.out (Nat.le_refl _)).mono HBW3.out.size) ((RdB.keep HRR.out HBW3.out (Nat.le_refl _)).mono HBW3.out.size) HN.out HOKP.out HS.out).mono ?_
    rintro e w4 ⟨v4, rs, rfl, ho4, hst4, hb4⟩
    have HO4 := hide ho4; have HST5 := hide hst4
    have HB4 := hide (bnext HB3.out hb4 (Nat.le_refl _))
    have HBW4 := hide (hb0.trans (HB4.out.mono (show w.heap.size ≤ W0.heap.size by omega)))
    have s4 := HB4.out.size
    clear ho4 hst4 hb4 y0 y1 y2 y3 y4 y5 y6 y7 y8 y9 y10
    have y0 := cellKeep HB4.out Z.out.1 (by omega)
    have y1 := cellKeep HB4.out Z.out.2.1 (by omega)
    have y2 := cellKeep HB4.out Z.out.2.2.1 (by omega)
    have y3 := cellKeep HB4.out Z.out.2.2.2.1 (by omega)
    have y4 := cellKeep HB4.out Z.out.2.2.2.2.1 (by omega)
    have y5 := cellKeep HB4.out Z.out.2.2.2.2.2.1 (by omega)
    have y6 := cellKeep HB4.out Z.out.2.2.2.2.2.2.1 (by omega)
    have y7 := cellKeep HB4.out Z.out.2.2.2.2.2.2.2.1 (by omega)
    have y8 := cellKeep HB4.out Z.out.2.2.2.2.2.2.2.2.1 (by omega)
    have y9 := cellKeep HB4.out Z.out.2.2.2.2.2.2.2.2.2.1 (by omega)
    have y10 := cellKeep HB4.out Z.out.2.2.2.2.2.2.2.2.2.2 (by omega)
    go_wp2_with fail
    refine (spec_RoutePoints_any _ _ _ c p r _ ((HCR.out.keep HBW4.out (Nat.le_refl _)).mono HBW4.out.size) ((RdB.keep HRR.out HBW4.out (Nat.le_refl _)).mono HBW4.out.size) HN.out HOKP.out).mono ?_
    rintro e w5 ⟨v5, rfl, ho5, hb5⟩
    have HO5 := hide ho5; have HO45 := hide (HO4.out.below hb5)
    have HB5 := hide (bnext HB4.out hb5 (Nat.le_refl _))
    have s5 := HB5.out.size
    clear ho5 hb5 y0 y1 y2 y3 y4 y5 y6 y7 y8 y9 y10
    obtain ⟨M, hM⟩ : ∃ x, max 0 m = x := ⟨_, rfl⟩
    have hM0 : 0 ≤ M := by omega
    rw [hM] at HSR
    have HMM := hide hM
    go_upto_region 5 with fail
    go_cut [16] (fun s16 wx => s16 = .int .i64 M ∧ wx = w5)
    case first =>
      go_wp2_with fail
      all_goals
        go_meet
        exact ⟨by first | rfl | (have e : m = M := (by omega); rw [e]) | (have e : (0 : Int) = M := (by omega); rw [← e]), rfl⟩
    case rest =>
      obtain ⟨rfl, rfl⟩ := hcut
      clear hM
      go_wp2_with fail
      go_loopw [16] (fun iv wr => ∃ mm : Int, iv = .int .i64 mm ∧ M ≤ mm ∧ (M ≤ 2881 → mm ≤ 2881) ∧ Hid (firstFrom (sailFrom ⟨m0, ps, ss⟩ c ⟨x0, x1, x2, x3, x4, x5⟩ p r) M (2881 - M).toNat = firstFrom (sailFrom ⟨m0, ps, ss⟩ c ⟨x0, x1, x2, x3, x4, x5⟩ p r) mm (2881 - mm).toNat) ∧ Hid (Below wc.heap.size wc wr)) (fun iv _ => (2881 - intOf iv).toNat)
      case atStart => exact ⟨M, rfl, Int.le_refl _, fun h => h, hide rfl, hide (Below.refl _ _)⟩
      case round =>
        obtain ⟨mm, rfl, hm1, hm2, HF, HB⟩ := hrel
        obtain ⟨wo, rfl⟩ : ∃ wo : World, wo = wr := ⟨_, rfl⟩
        have HBO := hide (HB5.out.trans (HB.out.mono s5))
        have HBWO := hide (hb0.trans (HBO.out.mono (show w.heap.size ≤ W0.heap.size by omega)))
        have so := HBO.out.size
        by_cases hlt : mm ≤ 2880
        · have hmw : IntKind.i64.wrap (mm + 1) = mm + 1 := IntWalk.i64_in _ (by omega)
          have y0 := cellKeep HBO.out Z.out.1 (by omega)
          have y1 := cellKeep HBO.out Z.out.2.1 (by omega)
          have y2 := cellKeep HBO.out Z.out.2.2.1 (by omega)
          have y3 := cellKeep HBO.out Z.out.2.2.2.1 (by omega)
          have y4 := cellKeep HBO.out Z.out.2.2.2.2.1 (by omega)
          have y5 := cellKeep HBO.out Z.out.2.2.2.2.2.1 (by omega)
          have y6 := cellKeep HBO.out Z.out.2.2.2.2.2.2.1 (by omega)
          have y7 := cellKeep HBO.out Z.out.2.2.2.2.2.2.2.1 (by omega)
          have y8 := cellKeep HBO.out Z.out.2.2.2.2.2.2.2.2.1 (by omega)
          have y9 := cellKeep HBO.out Z.out.2.2.2.2.2.2.2.2.2.1 (by omega)
          have y10 := cellKeep HBO.out Z.out.2.2.2.2.2.2.2.2.2.2 (by omega)
          go_wp2_with fail
          refine (l08Sail_core _ _ _ _ _ c ⟨x0, x1, x2, x3, x4, x5⟩ (routePts c p r) r rs mm _ ((HCR.out.keep HBWO.out (Nat.le_refl _)).mono HBWO.out.size) (Own.rd encI_len (HO5.out.below HB.out)) ((RdB.keep HRR.out HBWO.out (Nat.le_refl _)).mono HBWO.out.size) (HO45.out.below HB.out).rd HN.out hr0 HCK.out HPL.out HPI.out HRI.out (rWins ⟨m0, ps, ss⟩ c ⟨x0, x1, x2, x3, x4, x5⟩ r) (rMins c ⟨x0, x1, x2, x3, x4, x5⟩ r) (rWait c (routePts c p r)) HST5.out.1 HST5.out.2 (fun i => startsOf_ok false _ c _ _) (fun k hk => by unfold rMins; rw [getD_at hk]) (fun k hk => by unfold rWait; rw [getD_at hk])).mono ?_
          rintro e w6 ⟨v6, rfl, ho6, hb6⟩
          obtain ⟨O, hO⟩ : ∃ o, sailTo (rWins ⟨m0, ps, ss⟩ c ⟨x0, x1, x2, x3, x4, x5⟩ r) (rMins c ⟨x0, x1, x2, x3, x4, x5⟩ r) (rWait c (routePts c p r)) mm (r.length - 1) = o := ⟨_, rfl⟩
          rw [hO] at ho6 ⊢
          have HOO := hide (show sailFrom ⟨m0, ps, ss⟩ c ⟨x0, x1, x2, x3, x4, x5⟩ p r mm = O from hO)
          have HO6 := hide ho6
          have hB6 := bnext HB.out hb6 (Nat.le_refl _)
          have HB6 := hide hB6
          clear hO ho6 hb6 hB6 y0 y1 y2 y3 y4 y5 y6 y7 y8 y9 y10
          rcases O with _ | l
          · simp only [Option.isSome_none]
            go_wp2
            go_roundw
            case rel => exact ⟨mm + 1, rfl, by omega, fun h => by omega, hide (HF.out.trans (firstFrom_none hlt HOO.out)), HB6⟩
            case measure => simp [intOf]; omega
          · simp only [Option.isSome_some]
            have HRES := hide (show firstSail ⟨m0, ps, ss⟩ c ⟨x0, x1, x2, x3, x4, x5⟩ p r m = some l from HSR.out.trans (HF.out.trans (firstFrom_some hlt HOO.out)))
            go_wp2
            go_ret2
            exact ⟨v6, by rw [HRES.out]; rfl, by rw [HRES.out]; exact HO6.out.mono (by omega), hb0.trans ((HB5.out.trans (HB6.out.mono s5)).mono (by omega))⟩
        · have hlt' : ¬ mm ≤ 2880 := hlt
          have HRES := hide (show firstSail ⟨m0, ps, ss⟩ c ⟨x0, x1, x2, x3, x4, x5⟩ p r m = none from HSR.out.trans (HF.out.trans (by rw [show (2881 - mm).toNat = 0 by omega]; rfl)))
          go_wp2
          go_ret2
          exact SailRes.no HRES.out HBWO.out
end Go.Proofs.YtpbcbdjjpkenjaaGreat
