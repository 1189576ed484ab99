/- The law FnAfloat: for every row of bytes it returns true and leaves its argument as it was. No condition. -/
import Derived.Test.YtpbcbdjjpkenjaaBytes
import Derived.Test.YtpbcbdjjpkenjaaAflC
import Derived.Test.YtpbcbdjjpkenjaaLaw2
import Derived.Test.YtpbcbdjjpkenjaaHeldD
import Derived.Deep.DeepCutAuto
namespace Go.Proofs.Ytpbcbdjjpkenjaa
open Go.RowKit Go.WideShapes Go.ChangeShapes Go.ChangeAt Go.Joins Go.Deep
set_option linter.unusedVariables false
theorem calls_o {P : Program} {f : FuncId} {args : Array Value} {w : World} {R : Value → World → Prop} (h : Calls P f args w fun e w' => ∃ v, e = .returned v ∧ R v w') : Calls P f args w fun e w' => ∃ u, e = .returned u ∧ R u w' := h
theorem calls_intA {P : Program} {f : FuncId} {args : Array Value} {w : World} {R : World → Prop} {b c : Int} (h : Calls P f args w fun e w' => e = .returned (.int .i64 b) ∧ R w') (hb : b = c) : Calls P f args w fun e w' => e = .returned (.int .i64 c) ∧ R w' := hb ▸ h
theorem calls_boolA {P : Program} {f : FuncId} {args : Array Value} {w : World} {R : World → Prop} {b c : Bool} (h : Calls P f args w fun e w' => e = .returned (.bool b) ∧ R w') (hb : b = c) : Calls P f args w fun e w' => e = .returned (.bool c) ∧ R w' := hb ▸ h
theorem minutes_pos {c : ChartD} {k : Int} {s : ShipD} (h : onSeg c k s = true) : 1 ≤ minutesOn c k s ∧ minutesOn c k s ≤ 480 := by
  obtain ⟨hc, hs, a, rfl, ha⟩ := onSeg_iff h
  have hg := chart_seg hc ha
  unfold minutesOn
  rw [if_pos h, segAt_nat ha]
  exact shipMinutes_range (by omega) (by omega)
theorem need_is {s : ShipD} (h : shipOk s = true) : needOf s = s.draught + squatOf s + 50 ∧ (100 ≤ s.draught ∧ s.draught ≤ 2000) ∧ 0 ≤ squatOf s ∧ squatOf s ≤ 2000 := by
  obtain ⟨_, _, d0, d1, _⟩ := shipOk_of h
  unfold needOf squatOf
  rw [if_pos h, if_pos h]
  refine ⟨rfl, ⟨d0, d1⟩, ?_⟩
  unfold squat
  split <;> omega
theorem level_is {c : ChartD} {k : Nat} {s : ShipD} (h : onSeg c k s = true) (hk : k < c.segs.length) : levelFor c k s = needOf s - c.segs[k].depth := by
  obtain ⟨-, hs, -⟩ := onSeg_iff h
  unfold levelFor needOf need
  rw [if_pos h, if_pos hs, segAt_nat hk]
set_option maxRecDepth 100000 in
set_option maxHeartbeats 32000000 in
theorem FnAfloat_walk (w : World) (v : Value) (bs : List Int) (h : RdB w w.heap.size 1 enc8 v bs) (hby : Byt bs) :
    Calls Try.prog 3 #[v] w fun e w' => e = .returned (.bool true) ∧ Below w.heap.size w w' := by
  have HR := hide h; have HBY := hide hby; clear hby
  obtain ⟨A0, c0, rfl, hc0, hm0, -⟩ := h
  unfold maxLen at hm0
  go_enter Try.func3, Try.ntmps3
  by_cases hbig : (1048576 : Int) < (bs.length : Int)
  · go_wp2_with fail
    go_ret
    exact ⟨rfl, (by repeat (first | exact Below.refl _ _ | assumption | refine Below.setCell ?_ (by first | omega | (simp <;> omega)) _ | refine Below.alloc ?_ (by first | omega | (simp <;> omega)) _ | refine below_drewN ?_ _ | refine Below.drew ?_ | refine Below.trans ?_ (Below.mono (by assumption) (by first | omega | (simp <;> omega)))))⟩
  have hbig' : (bs.length : Int) ≤ 1048576 := by omega
  have HN := hide (show bs.length ≤ 1048576 by omega)
  clear hbig
  go_wp2_with fail
  refine (MakeForecast_any _ bs _ HR.out HBY.out HN.out).mono ?_
  rintro e w1 ⟨v1, v2, f, rfl, hf, hrf, hb1⟩
  obtain ⟨m0, ps, ss⟩ := f
  obtain ⟨A1, c1, rfl, -, -, -⟩ := hrf.1
  obtain ⟨A2, c2, rfl, -, -, -⟩ := hrf.2
  have HRF := hide hrf; have HF := hide hf; have HB1 := hide hb1
  clear hrf hf hb1
  simp only at HRF ⊢
  go_wp2_with fail
  obtain ⟨W1, hW1⟩ : ∃ W, w1.alloc (.cells #[.int .i64 m0, .slice A1 ps.length c1, .slice A2 ss.length c2] 28) = W := ⟨_, rfl⟩
  have k1 : Below w1.heap.size w1 W1 := by rw [← hW1]; exact (by repeat (first | exact Below.refl _ _ | assumption | refine Below.setCell ?_ (by first | omega | (simp <;> omega)) _ | refine Below.alloc ?_ (by first | omega | (simp <;> omega)) _ | refine below_drewN ?_ _ | refine Below.drew ?_ | refine Below.trans ?_ (Below.mono (by assumption) (by first | omega | (simp <;> omega)))))
  have l1 : w1.heap.size < W1.heap.size := by rw [← hW1]; simp
  have f0 : W1.cell? ⟨w1.heap.size, 0, none⟩ = some (.int .i64 m0) := by rw [← hW1]; simp [go_sem]
  have f1 : W1.cell? ⟨w1.heap.size, 1, none⟩ = some (.slice A1 ps.length c1) := by rw [← hW1]; simp [go_sem]
  have f2 : W1.cell? ⟨w1.heap.size, 2, none⟩ = some (.slice A2 ss.length c2) := by rw [← hW1]; simp [go_sem]
  rw [hW1]
  clear hW1
  have d1 : Below w.heap.size w W1 := HB1.out.trans (k1.mono HB1.out.size)
  refine (MakeChart_any _ bs 60 _ ((HR.out.keep d1 (Nat.le_refl _)).mono d1.size) HBY.out HN.out (by omega)).mono ?_
  rintro e w2 ⟨v3, v4, c, rfl, hci, hrc, hb2⟩
  obtain ⟨A3, c3, rfl, -, -, -⟩ := hrc.1
  obtain ⟨A4, c4, rfl, -, -, -⟩ := hrc.2
  have hcp := hci.parts
  have HRC := hide hrc; have HCP := hide hcp; have HB2 := hide hb2
  clear hrc hci hcp hb2
  go_wp2_with fail
  obtain ⟨W2, hW2⟩ : ∃ W, w2.alloc (.cells #[.slice A3 c.points.length c3, .slice A4 c.segs.length c4] 33) = W := ⟨_, rfl⟩
  have k2 : Below w2.heap.size w2 W2 := by rw [← hW2]; exact (by repeat (first | exact Below.refl _ _ | assumption | refine Below.setCell ?_ (by first | omega | (simp <;> omega)) _ | refine Below.alloc ?_ (by first | omega | (simp <;> omega)) _ | refine below_drewN ?_ _ | refine Below.drew ?_ | refine Below.trans ?_ (Below.mono (by assumption) (by first | omega | (simp <;> omega)))))
  have l2 : w2.heap.size < W2.heap.size := by rw [← hW2]; simp
  have x0 : W2.cell? ⟨w2.heap.size, 0, none⟩ = some (.slice A3 c.points.length c3) := by rw [← hW2]; simp [go_sem]
  have x1 : W2.cell? ⟨w2.heap.size, 1, none⟩ = some (.slice A4 c.segs.length c4) := by rw [← hW2]; simp [go_sem]
  rw [hW2]
  clear hW2
  have e2 : Below W1.heap.size W1 W2 := HB2.out.trans (k2.mono HB2.out.size)
  have d2 : Below w.heap.size w W2 := d1.trans (e2.mono d1.size)
  refine (MakeShip_any _ bs 90 _ ((HR.out.keep d2 (Nat.le_refl _)).mono d2.size) HBY.out HN.out (by omega)).mono ?_
  rintro e w3 ⟨⟨s0, s1, s2, s3, s4, s5⟩, rfl, hso, hsn, hb3⟩
  have HSO := hide hso; have HSN := hide hsn; have HB3 := hide hb3
  clear hso hsn hb3
  simp only [ShipD.val]
  go_wp2_with fail
  obtain ⟨W3, hW3⟩ : ∃ W, w3.alloc (.cells #[.string s0, .int .i64 s1, .int .i64 s2, .int .i64 s3, .int .i64 s4, .bool s5] 36) = W := ⟨_, rfl⟩
  have k3 : Below w3.heap.size w3 W3 := by rw [← hW3]; exact (by repeat (first | exact Below.refl _ _ | assumption | refine Below.setCell ?_ (by first | omega | (simp <;> omega)) _ | refine Below.alloc ?_ (by first | omega | (simp <;> omega)) _ | refine below_drewN ?_ _ | refine Below.drew ?_ | refine Below.trans ?_ (Below.mono (by assumption) (by first | omega | (simp <;> omega)))))
  have l3 : w3.heap.size < W3.heap.size := by rw [← hW3]; simp
  have y0 : W3.cell? ⟨w3.heap.size, 0, none⟩ = some (.string s0) := by rw [← hW3]; simp [go_sem]
  have y1 : W3.cell? ⟨w3.heap.size, 1, none⟩ = some (.int .i64 s1) := by rw [← hW3]; simp [go_sem]
  have y2 : W3.cell? ⟨w3.heap.size, 2, none⟩ = some (.int .i64 s2) := by rw [← hW3]; simp [go_sem]
  have y3 : W3.cell? ⟨w3.heap.size, 3, none⟩ = some (.int .i64 s3) := by rw [← hW3]; simp [go_sem]
  have y4 : W3.cell? ⟨w3.heap.size, 4, none⟩ = some (.int .i64 s4) := by rw [← hW3]; simp [go_sem]
  have y5 : W3.cell? ⟨w3.heap.size, 5, none⟩ = some (.bool s5) := by rw [← hW3]; simp [go_sem]
  rw [hW3]
  clear hW3
  have e3 : Below W2.heap.size W2 W3 := HB3.out.trans (k3.mono HB3.out.size)
  have e31 : Below W1.heap.size W1 W3 := e2.trans (e3.mono e2.size)
  have d3 : Below w.heap.size w W3 := d2.trans (e3.mono d2.size)
  have a1 := k1.size; have a2 := e2.size; have a3 := e3.size; have a4 := HB2.out.size; have a5 := HB3.out.size; have a0 := d1.size
  have x0' := cellKeepL e3 x0 l2
  have x1' := cellKeepL e3 x1 l2
  have f0' := cellKeepL e31 f0 l1
  have f1' := cellKeepL e31 f1 l1
  have f2' := cellKeepL e31 f2 l1
  clear x0 x1 f0 f1 f2
  have hHR3 := hide (HR.out.keep d3 (Nat.le_refl _))
  have HD3 := hide d3
  have hwW := d3.size
  obtain ⟨X1, hX1⟩ : ∃ X, w1.heap.size = X := ⟨_, rfl⟩
  obtain ⟨X2, hX2⟩ : ∃ X, w2.heap.size = X := ⟨_, rfl⟩
  obtain ⟨X3, hX3⟩ : ∃ X, w3.heap.size = X := ⟨_, rfl⟩
  have HRF0 := hide (show ∀ w', Below W3.heap.size W3 w' → RdFore w' w'.heap.size (.slice A1 ps.length c1) (.slice A2 ss.length c2) ⟨m0, ps, ss⟩ from fun w' hB => (((HRF.out.keep k1 (Nat.le_refl _)).keep e31 (by omega)).keep hB (by omega)).mono (by have := hB.size; omega))
  have HRC0 := hide (show ∀ w', Below W3.heap.size W3 w' → RdChart w' w'.heap.size (.slice A3 c.points.length c3) (.slice A4 c.segs.length c4) c from fun w' hB => (((HRC.out.keep k2 (Nat.le_refl _)).keep e3 (by omega)).keep hB (by omega)).mono (by have := hB.size; omega))
  rw [hX1] at f0' f1' f2' l1 ⊢
  rw [hX2] at x0' x1' l2 ⊢
  rw [hX3] at y0 y1 y2 y3 y4 y5 l3 ⊢
  have z1 : X1 < W3.heap.size := by omega
  have z2 : X2 < W3.heap.size := by omega
  clear hX1 hX2 hX3 k1 k2 k3 e2 e3 e31 d1 d2 d3 a0 a1 a2 a3 a4 a5 l1 l2 HRF HRC HB1 HB2 HB3 HR
  have Z := hide (show (W3.cell? ⟨X1, 0, none⟩ = some (.int .i64 m0) ∧ W3.cell? ⟨X1, 1, none⟩ = some (.slice A1 ps.length c1) ∧ W3.cell? ⟨X1, 2, none⟩ = some (.slice A2 ss.length c2)) ∧ (W3.cell? ⟨X2, 0, none⟩ = some (.slice A3 c.points.length c3) ∧ W3.cell? ⟨X2, 1, none⟩ = some (.slice A4 c.segs.length c4)) ∧ W3.cell? ⟨X3, 0, none⟩ = some (.string s0) ∧ W3.cell? ⟨X3, 1, none⟩ = some (.int .i64 s1) ∧ W3.cell? ⟨X3, 2, none⟩ = some (.int .i64 s2) ∧ W3.cell? ⟨X3, 3, none⟩ = some (.int .i64 s3) ∧ W3.cell? ⟨X3, 4, none⟩ = some (.int .i64 s4) ∧ W3.cell? ⟨X3, 5, none⟩ = some (.bool s5) from ⟨⟨f0', f1', f2'⟩, ⟨x0', x1'⟩, y0, y1, y2, y3, y4, y5⟩)
  clear f0' f1' f2' x0' y0 y1 y2 y3 y4 y5
  have keepS : ∀ w', Below W3.heap.size W3 w' → w'.cell? ⟨X2, 1, none⟩ = some (.slice A4 c.segs.length c4) ∧ Below W3.heap.size W3 w' := fun w' hB => ⟨cellKeepL hB x1' z2, hB⟩
  -- second half
  have hsp : (0 : Int) < (c.segs.length : Int) := by have := HCP.out.2.2.1; omega
  have hn0 : ¬ ((c.segs.length : Int) = 0) := by omega
  have hnB : ((c.segs.length : Int) == 0) = false := by rw [beq_eq_false_iff_ne]; exact hn0
  have hnC : ¬ c.segs.length = 0 := by omega
  have hnD : ¬ c.segs = [] := fun e => by rw [e] at hnC; exact hnC rfl
  go_wp2_with fail
  go_cut [6] (fun s5 wx => ∃ k : Nat, s5 = .int .i64 k ∧ k < c.segs.length ∧ Hid (Below W3.heap.size W3 wx))
  case first =>
    go_region_held3 (fun w' => w'.cell? ⟨X2, 1, none⟩ = some (.slice A4 c.segs.length c4) ∧ Below W3.heap.size W3 w')
      (first
        | with_reducible exact keepS w20 HB20.out
        | ((with_reducible refine keepS (World.drew W3) ?_); exact Below.drew (Below.refl _ _)))
      (first
        | (go_at_call 11; obtain ⟨_, qB⟩ := (by with_reducible assumption : _ ∧ _); (refine (MakeNum_any _ bs 100 _ ((hHR3.out.keep qB hwW).mono (Nat.le_trans hwW qB.size)) HBY.out HN.out (by omega)).mono ?_); rintro e w20 ⟨xa, rfl, xa0, xa1, hb20⟩; have HB20 := hide (bnext qB hb20 (Nat.le_refl _)); clear hb20))
    all_goals
      have t0 := Int.tmod_nonneg (c.segs.length : Int) xa0
      have t1 := Int.tmod_lt_of_pos xa hsp
      go_wp2_with fail
      go_meet
      exact ⟨(xa.tmod (c.segs.length : Int)).toNat, by rw [Int.toNat_of_nonneg t0], by omega, HB20⟩
  case rest =>
    obtain ⟨k, rfl, hk, HB⟩ := hcut
    have hk' : (k : Int) < c.segs.length := by omega
    have HON := hide (show onSeg c k ⟨s0, s1, s2, s3, s4, s5⟩ = true by unfold onSeg; rw [HCP.out.1, HSO.out]; simp [inB]; omega)
    have f0 := cellKeepL HB.out Z.out.1.1 z1; have f1 := cellKeepL HB.out Z.out.1.2.1 z1; have f2 := cellKeepL HB.out Z.out.1.2.2 z1; have x0 := cellKeepL HB.out Z.out.2.1.1 z2; have x1 := cellKeepL HB.out Z.out.2.1.2 z2; have y0 := cellKeepL HB.out Z.out.2.2.1 l3; have y1 := cellKeepL HB.out Z.out.2.2.2.1 l3; have y2 := cellKeepL HB.out Z.out.2.2.2.2.1 l3; have y3 := cellKeepL HB.out Z.out.2.2.2.2.2.1 l3; have y4 := cellKeepL HB.out Z.out.2.2.2.2.2.2.1 l3; have y5 := cellKeepL HB.out Z.out.2.2.2.2.2.2.2 l3
    have hlt1 : X1 < wc.heap.size := Nat.lt_of_lt_of_le z1 HB.out.size; have hlt2 : X2 < wc.heap.size := Nat.lt_of_lt_of_le z2 HB.out.size; have hlt3 : X3 < wc.heap.size := Nat.lt_of_lt_of_le l3 HB.out.size
    go_wp2_with fail
    refine (MakeNum_any _ bs 102 _ ((hHR3.out.keep HB.out hwW).mono (Nat.le_trans hwW HB.out.size)) HBY.out HN.out (by omega)).mono ?_
    rintro e w5 ⟨xb, rfl, xb0, xb1, hb5⟩
    have HB5 := hide (bnext HB.out hb5 (Nat.le_refl _))
    clear hb5 hlt1 hlt2 hlt3
    clear f0 f1 f2 x0 x1 y0 y1 y2 y3 y4 y5
    have f0 := cellKeepL HB5.out Z.out.1.1 z1; have f1 := cellKeepL HB5.out Z.out.1.2.1 z1; have f2 := cellKeepL HB5.out Z.out.1.2.2 z1; have x0 := cellKeepL HB5.out Z.out.2.1.1 z2; have x1 := cellKeepL HB5.out Z.out.2.1.2 z2; have y0 := cellKeepL HB5.out Z.out.2.2.1 l3; have y1 := cellKeepL HB5.out Z.out.2.2.2.1 l3; have y2 := cellKeepL HB5.out Z.out.2.2.2.2.1 l3; have y3 := cellKeepL HB5.out Z.out.2.2.2.2.2.1 l3; have y4 := cellKeepL HB5.out Z.out.2.2.2.2.2.2.1 l3; have y5 := cellKeepL HB5.out Z.out.2.2.2.2.2.2.2 l3
    have hlt1 : X1 < w5.heap.size := Nat.lt_of_lt_of_le z1 HB5.out.size; have hlt2 : X2 < w5.heap.size := Nat.lt_of_lt_of_le z2 HB5.out.size; have hlt3 : X3 < w5.heap.size := Nat.lt_of_lt_of_le l3 HB5.out.size
    go_wp2_with fail
    generalize hm : xb % 2300 = m
    have mge : 0 ≤ m := by omega
    have mle : m ≤ 2299 := by omega
    clear hm xb0 xb1
    refine (impl_MinutesOn_any _ _ c k ⟨s0, s1, s2, s3, s4, s5⟩ _ (HRC0.out _ HB5.out) HCP.out.2.1 HSN.out).mono ?_
    rintro e w6 ⟨rfl, hb6⟩
    have hnr := minutes_pos HON.out
    have HSA := hide (sure_all (m := m) HF.out HON.out mge (by omega))
    have HSO2 := hide (sure_open HF.out HON.out m)
    have HDI := hide (draught_iff (m := m) HF.out HON.out mge (by omega))
    obtain ⟨n, hn⟩ : ∃ n, minutesOn c k ⟨s0, s1, s2, s3, s4, s5⟩ = n := ⟨_, rfl⟩
    rw [hn] at hnr HSA ⊢
    obtain ⟨n0, n1⟩ := hnr
    clear hn
    have HB6 := hide (bnext HB5.out hb6 (Nat.le_refl _))
    clear hb6 hlt1 hlt2 hlt3
    clear f0 f1 f2 x0 x1 y0 y1 y2 y3 y4 y5
    have f0 := cellKeepL HB6.out Z.out.1.1 z1; have f1 := cellKeepL HB6.out Z.out.1.2.1 z1; have f2 := cellKeepL HB6.out Z.out.1.2.2 z1; have x0 := cellKeepL HB6.out Z.out.2.1.1 z2; have x1 := cellKeepL HB6.out Z.out.2.1.2 z2; have y0 := cellKeepL HB6.out Z.out.2.2.1 l3; have y1 := cellKeepL HB6.out Z.out.2.2.2.1 l3; have y2 := cellKeepL HB6.out Z.out.2.2.2.2.1 l3; have y3 := cellKeepL HB6.out Z.out.2.2.2.2.2.1 l3; have y4 := cellKeepL HB6.out Z.out.2.2.2.2.2.2.1 l3; have y5 := cellKeepL HB6.out Z.out.2.2.2.2.2.2.2 l3
    have hlt1 : X1 < w6.heap.size := Nat.lt_of_lt_of_le z1 HB6.out.size; have hlt2 : X2 < w6.heap.size := Nat.lt_of_lt_of_le z2 HB6.out.size; have hlt3 : X3 < w6.heap.size := Nat.lt_of_lt_of_le l3 HB6.out.size
    have hn1 : ¬ n < 1 := by omega
    have hnd := need_is (s := ⟨s0, s1, s2, s3, s4, s5⟩) HSO.out
    obtain ⟨sq, hsq⟩ : ∃ q, squatOf ⟨s0, s1, s2, s3, s4, s5⟩ = q := ⟨_, rfl⟩
    rw [hsq] at hnd
    obtain ⟨hnd1, hnd2, hnd3⟩ := hnd
    simp only at hnd1 hnd2 hnd3
    have HSQ := hide hsq; have HND := hide hnd1
    clear hsq hnd1
    have hw1 : IntKind.i64.wrap (s2 + sq) = s2 + sq := IntWalk.i64_in _ (by omega)
    have hw2 : IntKind.i64.wrap (s2 + sq + 50) = s2 + sq + 50 := IntWalk.i64_in _ (by omega)
    have hbn : (s2 + sq + 50 != s2 + sq + 50) = false := by simp
    go_wp2_with fail
    have hn2 : ¬ n < 1 := by omega
    refine wp_region_below (Below.refl w6.heap.size w6) (by kernel_rfl) (by kernel_rfl) ?_
    repeat (first
      | go_big_quiet_skip
      | (go_big_quiet_want
         first
          | (refine quiet_value ?_; apply Exists.intro
             refine ⟨fun wq hq => ?_, ?_⟩
             · (obtain ⟨hc, hf⟩ := bcell hq; go_simp; first | done | rfl)
             go_big_quiet_on
             simp only [Act.put, List.setIfInBounds_toArray, List.set_cons_zero, List.set_cons_succ])
          | (refine quiet_call ?_; apply Exists.intro; apply Exists.intro; apply Exists.intro
             refine ⟨fun wq hq => ?_, fun wq hq => ?_, ?_⟩
             · (obtain ⟨hc, hf⟩ := bcell hq; go_simp; exact ⟨rfl, rfl⟩)
             · (first | with_reducible exact (calls_intA (impl_NeedOf_any s0 s1 s2 s3 s4 s5 _ HSN.out) HND.out).mono fun e w'' ⟨he, hw⟩ => ⟨he, hw ▸ hq⟩ | with_reducible exact (calls_intA (impl_NeedOf_any s0 s1 s2 s3 s4 s5 _ HSN.out) HND.out).mono fun e w'' ⟨he, hb'⟩ => ⟨he, bnext hq hb'⟩ | with_reducible exact (calls_intA (impl_SquatOf_any s0 s1 s2 s3 s4 s5 _ HSN.out) HSQ.out).mono fun e w'' ⟨he, hw⟩ => ⟨he, hw ▸ hq⟩ | with_reducible exact (calls_intA (impl_SquatOf_any s0 s1 s2 s3 s4 s5 _ HSN.out) HSQ.out).mono fun e w'' ⟨he, hb'⟩ => ⟨he, bnext hq hb'⟩ |  exact (calls_intA (impl_NeedOf_any s0 s1 s2 s3 s4 s5 _ HSN.out) HND.out).mono fun e w'' ⟨he, hb'⟩ => ⟨he, bnext hq hb'⟩ |  exact (calls_intA (impl_NeedOf_any s0 s1 s2 s3 s4 s5 _ HSN.out) HND.out).mono fun e w'' ⟨he, hw⟩ => ⟨he, hw ▸ hq⟩ |  exact (calls_intA (impl_SquatOf_any s0 s1 s2 s3 s4 s5 _ HSN.out) HSQ.out).mono fun e w'' ⟨he, hb'⟩ => ⟨he, bnext hq hb'⟩ |  exact (calls_intA (impl_SquatOf_any s0 s1 s2 s3 s4 s5 _ HSN.out) HSQ.out).mono fun e w'' ⟨he, hw⟩ => ⟨he, hw ▸ hq⟩)
             go_big_quiet_on
             simp only [Act.put, List.setIfInBounds_toArray, List.set_cons_zero, List.set_cons_succ])
          | (go_big_quiet_op; go_big_quiet_on)
         ))
    refine wpQuiet_nil (fun w7 hb7 => ?_)
    have HB7 := hide (bnext HB6.out hb7 (Nat.le_refl _))
    clear hb7 hlt1 hlt2 hlt3 f0 f1 f2 x0 x1 y0 y1 y2 y3 y4 y5
    have hmn : IntKind.i64.wrap (m + n) = m + n := IntWalk.i64_in _ (by omega)
    go_wp2_with fail
    go_loopw [9, 10] (fun al i wr => ∃ j : Nat, (j : Int) ≤ n + 1 ∧ i = .int .i64 (m + j) ∧ al = .bool (allAfl ⟨m0, ps, ss⟩ c k ⟨s0, s1, s2, s3, s4, s5⟩ m j) ∧ Hid (Below W3.heap.size W3 wr)) (fun _ i _ => (m + n + 1 - intOf i).toNat)
    case atStart => exact ⟨0, by omega, by simp, rfl, HB7⟩
    case round =>
      clear HB7
      obtain ⟨j, hj, rfl, rfl, HB⟩ := hrel
      obtain ⟨wo, rfl⟩ : ∃ wo : World, wo = wr := ⟨_, rfl⟩
      have f0 := cellKeepL HB.out Z.out.1.1 z1; have f1 := cellKeepL HB.out Z.out.1.2.1 z1; have f2 := cellKeepL HB.out Z.out.1.2.2 z1; have x0 := cellKeepL HB.out Z.out.2.1.1 z2; have x1 := cellKeepL HB.out Z.out.2.1.2 z2; have y0 := cellKeepL HB.out Z.out.2.2.1 l3; have y1 := cellKeepL HB.out Z.out.2.2.2.1 l3; have y2 := cellKeepL HB.out Z.out.2.2.2.2.1 l3; have y3 := cellKeepL HB.out Z.out.2.2.2.2.2.1 l3; have y4 := cellKeepL HB.out Z.out.2.2.2.2.2.2.1 l3; have y5 := cellKeepL HB.out Z.out.2.2.2.2.2.2.2 l3
      have hlt1 : X1 < wo.heap.size := Nat.lt_of_lt_of_le z1 HB.out.size; have hlt2 : X2 < wo.heap.size := Nat.lt_of_lt_of_le z2 HB.out.size; have hlt3 : X3 < wo.heap.size := Nat.lt_of_lt_of_le l3 HB.out.size
      by_cases hjn : (j : Int) ≤ n
      · have hle : m + (j : Int) ≤ m + n := by omega
        have hnx : IntKind.i64.wrap (m + (j : Int) + 1) = m + (j : Int) + 1 := IntWalk.i64_in _ (by omega)
        obtain ⟨lv, hlv⟩ : ∃ l, lowAt ⟨m0, ps, ss⟩ (m + (j : Int)) = l := ⟨_, rfl⟩
        obtain ⟨b, hb⟩ : ∃ b, isAfloat c k ⟨s0, s1, s2, s3, s4, s5⟩ lv = b := ⟨_, rfl⟩
        have HLV := hide hlv; have HAF := hide hb
        have HNX := hide (show allAfl ⟨m0, ps, ss⟩ c k ⟨s0, s1, s2, s3, s4, s5⟩ m (j + 1) = (allAfl ⟨m0, ps, ss⟩ c k ⟨s0, s1, s2, s3, s4, s5⟩ m j && b) by rw [allAfl, hlv, hb])
        clear hlv hb
        rcases ch1 (allAfl ⟨m0, ps, ss⟩ c k ⟨s0, s1, s2, s3, s4, s5⟩ m j) with gj | gj
        · rw [gj] at HNX ⊢
          have HN2 := hide (show allAfl ⟨m0, ps, ss⟩ c k ⟨s0, s1, s2, s3, s4, s5⟩ m (j + 1) = b by rw [HNX.out]; rfl)
          clear gj HNX
          go_wp2_with fail
          refine wp_region_below (Below.refl wo.heap.size wo) (by kernel_rfl) (by kernel_rfl) ?_
          repeat (first
            | go_big_quiet_skip
            | (go_big_quiet_want
               first
                | (refine quiet_value ?_; apply Exists.intro
                   refine ⟨fun wq hq => ?_, ?_⟩
                   · (obtain ⟨hc, hf⟩ := bcell hq; go_simp; first | done | rfl)
                   go_big_quiet_on
                   simp only [Act.put, List.setIfInBounds_toArray, List.set_cons_zero, List.set_cons_succ])
                | (refine quiet_call ?_; apply Exists.intro; apply Exists.intro; apply Exists.intro
                   refine ⟨fun wq hq => ?_, fun wq hq => ?_, ?_⟩
                   · (obtain ⟨hc, hf⟩ := bcell hq; go_simp; exact ⟨rfl, rfl⟩)
                   · (first | with_reducible exact (calls_intA (impl_LowAt_any _ _ ⟨m0, ps, ss⟩ (m + (j : Int)) _ (HRF0.out _ (bnext HB.out hq (Nat.le_refl _)))) HLV.out).mono fun e w'' ⟨he, hw⟩ => ⟨he, hw ▸ hq⟩ | with_reducible exact (calls_intA (impl_LowAt_any _ _ ⟨m0, ps, ss⟩ (m + (j : Int)) _ (HRF0.out _ (bnext HB.out hq (Nat.le_refl _)))) HLV.out).mono fun e w'' ⟨he, hb'⟩ => ⟨he, bnext hq hb'⟩ | with_reducible exact (calls_boolA (impl_IsAfloat_any _ _ c k ⟨s0, s1, s2, s3, s4, s5⟩ lv _ (HRC0.out _ (bnext HB.out hq (Nat.le_refl _))) HCP.out.2.1 HSN.out) HAF.out).mono fun e w'' ⟨he, hw⟩ => ⟨he, hw ▸ hq⟩ | with_reducible exact (calls_boolA (impl_IsAfloat_any _ _ c k ⟨s0, s1, s2, s3, s4, s5⟩ lv _ (HRC0.out _ (bnext HB.out hq (Nat.le_refl _))) HCP.out.2.1 HSN.out) HAF.out).mono fun e w'' ⟨he, hb'⟩ => ⟨he, bnext hq hb'⟩ |  exact (calls_intA (impl_LowAt_any _ _ ⟨m0, ps, ss⟩ (m + (j : Int)) _ (HRF0.out _ (bnext HB.out hq (Nat.le_refl _)))) HLV.out).mono fun e w'' ⟨he, hb'⟩ => ⟨he, bnext hq hb'⟩ |  exact (calls_intA (impl_LowAt_any _ _ ⟨m0, ps, ss⟩ (m + (j : Int)) _ (HRF0.out _ (bnext HB.out hq (Nat.le_refl _)))) HLV.out).mono fun e w'' ⟨he, hw⟩ => ⟨he, hw ▸ hq⟩ |  exact (calls_boolA (impl_IsAfloat_any _ _ c k ⟨s0, s1, s2, s3, s4, s5⟩ lv _ (HRC0.out _ (bnext HB.out hq (Nat.le_refl _))) HCP.out.2.1 HSN.out) HAF.out).mono fun e w'' ⟨he, hb'⟩ => ⟨he, bnext hq hb'⟩ |  exact (calls_boolA (impl_IsAfloat_any _ _ c k ⟨s0, s1, s2, s3, s4, s5⟩ lv _ (HRC0.out _ (bnext HB.out hq (Nat.le_refl _))) HCP.out.2.1 HSN.out) HAF.out).mono fun e w'' ⟨he, hw⟩ => ⟨he, hw ▸ hq⟩)
                   go_big_quiet_on
                   simp only [Act.put, List.setIfInBounds_toArray, List.set_cons_zero, List.set_cons_succ])
                | (go_big_quiet_op; go_big_quiet_on)
               ))
          refine wpQuiet_nil (fun w8 hb8 => ?_)
          have HB8 := hide (bnext HB.out hb8 (Nat.le_refl _))
          clear hb8
          go_wp2
          go_roundw
          case rel => exact ⟨j + 1, by omega, by first | rfl | go_num | (congr 1; omega), by rw [HN2.out], HB8⟩
          case measure => simp [intOf]; omega
        · rw [gj] at HNX ⊢
          have HN2 := hide (show allAfl ⟨m0, ps, ss⟩ c k ⟨s0, s1, s2, s3, s4, s5⟩ m (j + 1) = false by rw [HNX.out]; rfl)
          clear gj HNX
          go_wp2_with fail
          refine wp_region_below (Below.refl wo.heap.size wo) (by kernel_rfl) (by kernel_rfl) ?_
          repeat (first
            | go_big_quiet_skip
            | (go_big_quiet_want
               first
                | (refine quiet_value ?_; apply Exists.intro
                   refine ⟨fun wq hq => ?_, ?_⟩
                   · (obtain ⟨hc, hf⟩ := bcell hq; go_simp; first | done | rfl)
                   go_big_quiet_on
                   simp only [Act.put, List.setIfInBounds_toArray, List.set_cons_zero, List.set_cons_succ])
                | (refine quiet_call ?_; apply Exists.intro; apply Exists.intro; apply Exists.intro
                   refine ⟨fun wq hq => ?_, fun wq hq => ?_, ?_⟩
                   · (obtain ⟨hc, hf⟩ := bcell hq; go_simp; exact ⟨rfl, rfl⟩)
                   · (first | with_reducible exact (calls_intA (impl_LowAt_any _ _ ⟨m0, ps, ss⟩ (m + (j : Int)) _ (HRF0.out _ (bnext HB.out hq (Nat.le_refl _)))) HLV.out).mono fun e w'' ⟨he, hw⟩ => ⟨he, hw ▸ hq⟩ | with_reducible exact (calls_intA (impl_LowAt_any _ _ ⟨m0, ps, ss⟩ (m + (j : Int)) _ (HRF0.out _ (bnext HB.out hq (Nat.le_refl _)))) HLV.out).mono fun e w'' ⟨he, hb'⟩ => ⟨he, bnext hq hb'⟩ | with_reducible exact (calls_boolA (impl_IsAfloat_any _ _ c k ⟨s0, s1, s2, s3, s4, s5⟩ lv _ (HRC0.out _ (bnext HB.out hq (Nat.le_refl _))) HCP.out.2.1 HSN.out) HAF.out).mono fun e w'' ⟨he, hw⟩ => ⟨he, hw ▸ hq⟩ | with_reducible exact (calls_boolA (impl_IsAfloat_any _ _ c k ⟨s0, s1, s2, s3, s4, s5⟩ lv _ (HRC0.out _ (bnext HB.out hq (Nat.le_refl _))) HCP.out.2.1 HSN.out) HAF.out).mono fun e w'' ⟨he, hb'⟩ => ⟨he, bnext hq hb'⟩ |  exact (calls_intA (impl_LowAt_any _ _ ⟨m0, ps, ss⟩ (m + (j : Int)) _ (HRF0.out _ (bnext HB.out hq (Nat.le_refl _)))) HLV.out).mono fun e w'' ⟨he, hb'⟩ => ⟨he, bnext hq hb'⟩ |  exact (calls_intA (impl_LowAt_any _ _ ⟨m0, ps, ss⟩ (m + (j : Int)) _ (HRF0.out _ (bnext HB.out hq (Nat.le_refl _)))) HLV.out).mono fun e w'' ⟨he, hw⟩ => ⟨he, hw ▸ hq⟩ |  exact (calls_boolA (impl_IsAfloat_any _ _ c k ⟨s0, s1, s2, s3, s4, s5⟩ lv _ (HRC0.out _ (bnext HB.out hq (Nat.le_refl _))) HCP.out.2.1 HSN.out) HAF.out).mono fun e w'' ⟨he, hb'⟩ => ⟨he, bnext hq hb'⟩ |  exact (calls_boolA (impl_IsAfloat_any _ _ c k ⟨s0, s1, s2, s3, s4, s5⟩ lv _ (HRC0.out _ (bnext HB.out hq (Nat.le_refl _))) HCP.out.2.1 HSN.out) HAF.out).mono fun e w'' ⟨he, hw⟩ => ⟨he, hw ▸ hq⟩)
                   go_big_quiet_on
                   simp only [Act.put, List.setIfInBounds_toArray, List.set_cons_zero, List.set_cons_succ])
                | (go_big_quiet_op; go_big_quiet_on)
               ))
          refine wpQuiet_nil (fun w8 hb8 => ?_)
          have HB8 := hide (bnext HB.out hb8 (Nat.le_refl _))
          clear hb8
          go_wp2
          go_roundw
          case rel => exact ⟨j + 1, by omega, by first | rfl | go_num | (congr 1; omega), by rw [HN2.out], HB8⟩
          case measure => simp [intOf]; omega
      · obtain ⟨j2, rfl⟩ : ∃ j2, j = j2 + 1 := ⟨j - 1, by omega⟩
        have hje : n.toNat + 1 = j2 + 1 := by omega
        rw [hje] at HSA
        have hle : ¬ m + ((j2 + 1 : Nat) : Int) ≤ m + n := by omega
        have hle2 : ¬ m + ((j2 : Int) + 1) ≤ m + n := by omega
        obtain ⟨sr, hsr⟩ : ∃ b, hasMin (startsOf false ⟨m0, ps, ss⟩ c k ⟨s0, s1, s2, s3, s4, s5⟩) m = b := ⟨_, rfl⟩
        obtain ⟨d, hd⟩ : ∃ d, draughtFor ⟨m0, ps, ss⟩ c k ⟨s0, s1, s2, s3, s4, s5⟩ m = d := ⟨_, rfl⟩
        rw [hsr] at HSA HSO2 HDI
        rw [hd] at HDI
        rw [← HSA.out]
        have HSR := hide hsr; have HDD := hide hd
        clear hsr hd hje
        go_wp2_with fail
        refine (impl_DraughtFor_any _ _ _ _ ⟨m0, ps, ss⟩ c k ⟨s0, s1, s2, s3, s4, s5⟩ m _ (HRF0.out _ HB.out) (HRC0.out _ HB.out) HCP.out.2.1 HSN.out).mono ?_
        rintro e w9 ⟨rfl, hb9⟩
        rw [HDD.out]
        have HB9 := hide (bnext HB.out hb9 (Nat.le_refl _))
        clear hb9 hlt1 hlt2 hlt3
        clear f0 f1 f2 x0 x1 y0 y1 y2 y3 y4 y5
        have f0 := cellKeepL HB9.out Z.out.1.1 z1; have f1 := cellKeepL HB9.out Z.out.1.2.1 z1; have f2 := cellKeepL HB9.out Z.out.1.2.2 z1; have x0 := cellKeepL HB9.out Z.out.2.1.1 z2; have x1 := cellKeepL HB9.out Z.out.2.1.2 z2; have y0 := cellKeepL HB9.out Z.out.2.2.1 l3; have y1 := cellKeepL HB9.out Z.out.2.2.2.1 l3; have y2 := cellKeepL HB9.out Z.out.2.2.2.2.1 l3; have y3 := cellKeepL HB9.out Z.out.2.2.2.2.2.1 l3; have y4 := cellKeepL HB9.out Z.out.2.2.2.2.2.2.1 l3; have y5 := cellKeepL HB9.out Z.out.2.2.2.2.2.2.2 l3
        have hlt1 : X1 < w9.heap.size := Nat.lt_of_lt_of_le z1 HB9.out.size; have hlt2 : X2 < w9.heap.size := Nat.lt_of_lt_of_le z2 HB9.out.size; have hlt3 : X3 < w9.heap.size := Nat.lt_of_lt_of_le l3 HB9.out.size
        go_wp2_with fail
        refine (impl_IsSure_any _ _ _ _ ⟨m0, ps, ss⟩ c k ⟨s0, s1, s2, s3, s4, s5⟩ m _ (HRF0.out _ HB9.out) (HRC0.out _ HB9.out) HCP.out.2.1 HSN.out).mono ?_
        rintro e w10 ⟨rfl, hb10⟩
        rw [HSR.out]
        have HB10 := hide (bnext HB9.out hb10 (Nat.le_refl _))
        clear hb10 hlt1 hlt2 hlt3
        clear f0 f1 f2 x0 x1 y0 y1 y2 y3 y4 y5
        have f0 := cellKeepL HB10.out Z.out.1.1 z1; have f1 := cellKeepL HB10.out Z.out.1.2.1 z1; have f2 := cellKeepL HB10.out Z.out.1.2.2 z1; have x0 := cellKeepL HB10.out Z.out.2.1.1 z2; have x1 := cellKeepL HB10.out Z.out.2.1.2 z2; have y0 := cellKeepL HB10.out Z.out.2.2.1 l3; have y1 := cellKeepL HB10.out Z.out.2.2.2.1 l3; have y2 := cellKeepL HB10.out Z.out.2.2.2.2.1 l3; have y3 := cellKeepL HB10.out Z.out.2.2.2.2.2.1 l3; have y4 := cellKeepL HB10.out Z.out.2.2.2.2.2.2.1 l3; have y5 := cellKeepL HB10.out Z.out.2.2.2.2.2.2.2 l3
        have hlt1 : X1 < w10.heap.size := Nat.lt_of_lt_of_le z1 HB10.out.size; have hlt2 : X2 < w10.heap.size := Nat.lt_of_lt_of_le z2 HB10.out.size; have hlt3 : X3 < w10.heap.size := Nat.lt_of_lt_of_le l3 HB10.out.size
        obtain ⟨A4x, c4x, ee4, -, -, h4⟩ := (HRC0.out W3 (Below.refl _ _)).2
        obtain ⟨b4, o4, e4x, hb4, hcell4⟩ := h4 (by omega)
        obtain ⟨rfl, rfl⟩ : A4 = A4x ∧ c4 = c4x := by injection ee4 with e1 e2 e3; exact ⟨e1, e3⟩
        subst e4x
        have hdep : W3.cell? ⟨b4, o4 + k * 5 + 2, none⟩ = some (.int .i64 c.segs[k].depth) := by have := hcell4 k c.segs[k] (List.getElem?_eq_getElem hk) 2 _ rfl; simpa using this
        have hgs := chart_seg HCP.out.1 hk
        have hlv := level_is HON.out hk
        obtain ⟨D, hD⟩ : ∃ D, c.segs[k].depth = D := ⟨_, rfl⟩
        rw [hD] at hdep hlv
        have hD0 : 0 ≤ D ∧ D ≤ 3000 := by rw [← hD]; omega
        rw [HND.out] at hlv
        have HLV := hide hlv
        have hsubw : IntKind.i64.wrap (s2 + sq + 50 - D) = s2 + sq + 50 - D := IntWalk.i64_in _ (by omega)
        have hcle := cntW_le (startsOkA false ⟨m0, ps, ss⟩ c k ⟨s0, s1, s2, s3, s4, s5⟩) (startsOkA true ⟨m0, ps, ss⟩ c k ⟨s0, s1, s2, s3, s4, s5⟩) (fun i h => sure_open HF.out HON.out i h)
        obtain ⟨CA, hCA⟩ : ∃ x, cntW (startsOf false ⟨m0, ps, ss⟩ c k ⟨s0, s1, s2, s3, s4, s5⟩) = x := ⟨_, rfl⟩
        obtain ⟨CB, hCB⟩ : ∃ x, cntW (startsOf true ⟨m0, ps, ss⟩ c k ⟨s0, s1, s2, s3, s4, s5⟩) = x := ⟨_, rfl⟩
        rw [hCA, hCB] at hcle
        have HCA := hide hCA; have HCB := hide hCB
        have hk3 : (k : Int) < c.segs.length := by omega
        have hk0 : (0 : Int) ≤ (k : Int) := by omega
        clear hcell4 h4 ee4 hgs hlv hD hCA hCB keepS
        have keepS : ∀ w', Below W3.heap.size W3 w' → w'.cell? ⟨X1, 0, none⟩ = some (.int .i64 m0) ∧ w'.cell? ⟨X1, 1, none⟩ = some (.slice A1 ps.length c1) ∧ w'.cell? ⟨X1, 2, none⟩ = some (.slice A2 ss.length c2) ∧ w'.cell? ⟨X2, 0, none⟩ = some (.slice A3 c.points.length c3) ∧ w'.cell? ⟨X2, 1, none⟩ = some (.slice (some ⟨b4, o4, none⟩) c.segs.length c4) ∧ w'.cell? ⟨X3, 0, none⟩ = some (.string s0) ∧ w'.cell? ⟨X3, 1, none⟩ = some (.int .i64 s1) ∧ w'.cell? ⟨X3, 2, none⟩ = some (.int .i64 s2) ∧ w'.cell? ⟨X3, 3, none⟩ = some (.int .i64 s3) ∧ w'.cell? ⟨X3, 4, none⟩ = some (.int .i64 s4) ∧ w'.cell? ⟨X3, 5, none⟩ = some (.bool s5) ∧ w'.cell? ⟨b4, o4 + k * 5 + 2, none⟩ = some (.int .i64 D) ∧ Below W3.heap.size W3 w' := fun w' hB => ⟨cellKeepL hB Z.out.1.1 z1, cellKeepL hB Z.out.1.2.1 z1, cellKeepL hB Z.out.1.2.2 z1, cellKeepL hB Z.out.2.1.1 z2, cellKeepL hB Z.out.2.1.2 z2, cellKeepL hB Z.out.2.2.1 l3, cellKeepL hB Z.out.2.2.2.1 l3, cellKeepL hB Z.out.2.2.2.2.1 l3, cellKeepL hB Z.out.2.2.2.2.2.1 l3, cellKeepL hB Z.out.2.2.2.2.2.2.1 l3, cellKeepL hB Z.out.2.2.2.2.2.2.2 l3, cellKeepL hB hdep hb4, hB⟩
        clear f0 f1 f2 x0 x1 y0 y1 y2 y3 y4 y5
        obtain ⟨f0, f1, f2, x0, x1, y0, y1, y2, y3, y4, y5, hdp, -⟩ := keepS w10 HB10.out
        have hb4w : b4 < w10.heap.size := Nat.lt_of_lt_of_le hb4 HB10.out.size
        go_upto_region 18 with fail
        rcases ch1 sr with gs | gs
        · rw [gs] at HSA HSO2 HDI ⊢
          have hsd : s2 ≤ d := HDI.out.2 rfl
          have HOP := hide (HSO2.out rfl)
          clear HSO2 HSA HDI gs
          go_region_held3 (fun w' => w'.cell? ⟨X1, 0, none⟩ = some (.int .i64 m0) ∧ w'.cell? ⟨X1, 1, none⟩ = some (.slice A1 ps.length c1) ∧ w'.cell? ⟨X1, 2, none⟩ = some (.slice A2 ss.length c2) ∧ w'.cell? ⟨X2, 0, none⟩ = some (.slice A3 c.points.length c3) ∧ w'.cell? ⟨X2, 1, none⟩ = some (.slice (some ⟨b4, o4, none⟩) c.segs.length c4) ∧ w'.cell? ⟨X3, 0, none⟩ = some (.string s0) ∧ w'.cell? ⟨X3, 1, none⟩ = some (.int .i64 s1) ∧ w'.cell? ⟨X3, 2, none⟩ = some (.int .i64 s2) ∧ w'.cell? ⟨X3, 3, none⟩ = some (.int .i64 s3) ∧ w'.cell? ⟨X3, 4, none⟩ = some (.int .i64 s4) ∧ w'.cell? ⟨X3, 5, none⟩ = some (.bool s5) ∧ w'.cell? ⟨b4, o4 + k * 5 + 2, none⟩ = some (.int .i64 D) ∧ Below W3.heap.size W3 w')
            (first
              | with_reducible exact keepS w37 HB37.out
              | with_reducible exact keepS w36 HB36.out
              | with_reducible exact keepS w35 HB35.out
              | with_reducible exact keepS w34 HB34.out
              | with_reducible exact keepS w33 HB33.out
              | with_reducible exact keepS w32 HB32.out
              | with_reducible exact keepS w31 HB31.out
              | ((with_reducible refine keepS (World.drew w10) ?_); exact Below.drew HB10.out))
            (first
              | (go_at_call 19; obtain ⟨_, _, _, _, _, _, _, _, _, _, _, _, qB⟩ := (by with_reducible assumption : _ ∧ _); (with_reducible refine (impl_IsOpenStart_any _ _ _ _ ⟨m0, ps, ss⟩ c k ⟨s0, s1, s2, s3, s4, s5⟩ m _ (HRF0.out _ qB) (HRC0.out _ qB) HCP.out.2.1 HSN.out).mono ?_); rintro e w31 ⟨rfl, hb31⟩; rw [HOP.out]; have HB31 := hide (bnext qB hb31 (Nat.le_refl _)); clear hb31)
              | (go_at_call 21; obtain ⟨_, _, _, _, _, _, _, _, _, _, _, _, qB⟩ := (by with_reducible assumption : _ ∧ _); (with_reducible refine (impl_SureStarts_any _ _ _ _ ⟨m0, ps, ss⟩ c k ⟨s0, s1, s2, s3, s4, s5⟩ _ (HRF0.out _ qB) (HRC0.out _ qB) HCP.out.2.1 HSN.out).mono ?_); rintro e w32 ⟨v32, rfl, ho32, hb32⟩; have HRS := hide (Own.rd WindowD.enc_len ho32); have HB32 := hide (bnext qB hb32 (Nat.le_refl _)); clear hb32 ho32)
              | (go_at_call 20; (with_reducible refine (impl_CountMinutes_any v32 (startsOf false ⟨m0, ps, ss⟩ c k ⟨s0, s1, s2, s3, s4, s5⟩) w32 HRS.out (startsOkA _ _ _ _ _)).mono ?_); rintro e w33 ⟨rfl, hb33⟩; rw [HCA.out]; have HB33 := hide (bnext HB32.out hb33 (Nat.le_refl _)); clear hb33)
              | (go_at_call 22; obtain ⟨_, _, _, _, _, _, _, _, _, _, _, _, qB⟩ := (by with_reducible assumption : _ ∧ _); (with_reducible refine (impl_OpenStarts_any _ _ _ _ ⟨m0, ps, ss⟩ c k ⟨s0, s1, s2, s3, s4, s5⟩ _ (HRF0.out _ qB) (HRC0.out _ qB) HCP.out.2.1 HSN.out).mono ?_); rintro e w34 ⟨v34, rfl, ho34, hb34⟩; have HRS := hide (Own.rd WindowD.enc_len ho34); have HB34 := hide (bnext qB hb34 (Nat.le_refl _)); clear hb34 ho34)
              | (go_at_call 20; (with_reducible refine (impl_CountMinutes_any v34 (startsOf true ⟨m0, ps, ss⟩ c k ⟨s0, s1, s2, s3, s4, s5⟩) w34 HRS.out (startsOkA _ _ _ _ _)).mono ?_); rintro e w35 ⟨rfl, hb35⟩; rw [HCB.out]; have HB35 := hide (bnext HB34.out hb35 (Nat.le_refl _)); clear hb35)
              | (go_at_call 23; obtain ⟨_, _, _, _, _, _, _, _, _, _, _, _, qB⟩ := (by with_reducible assumption : _ ∧ _); (with_reducible refine (impl_LevelFor_any _ _ c k ⟨s0, s1, s2, s3, s4, s5⟩ _ (HRC0.out _ qB) HCP.out.2.1 HSN.out).mono ?_); rintro e w36 ⟨rfl, hb36⟩; rw [HLV.out]; have HB36 := hide (bnext qB hb36 (Nat.le_refl _)); clear hb36)
              | (go_at_call 13; obtain ⟨_, _, _, _, _, _, _, _, _, _, _, _, qB⟩ := (by with_reducible assumption : _ ∧ _); (with_reducible refine (impl_NeedOf_any s0 s1 s2 s3 s4 s5 _ HSN.out).mono ?_); rintro e w37 ⟨rfl, hb37⟩; rw [HND.out]; have HB37 := hide (bnext qB hb37 (Nat.le_refl _)); clear hb37))
          all_goals
            go_wp2
            go_ret
            exact ⟨by first | rfl | simp [hsd, hcle], HD3.out.trans (HB37.out.mono hwW)⟩
        · rw [gs] at HSA HSO2 HDI ⊢
          have hsd : ¬ s2 ≤ d := fun h => by have := HDI.out.1 h; cases this
          clear HSO2 HSA HDI gs
          refine wp_region_held_drew (S := fun w' => w'.cell? ⟨X1, 0, none⟩ = some (.int .i64 m0) ∧ w'.cell? ⟨X1, 1, none⟩ = some (.slice A1 ps.length c1) ∧ w'.cell? ⟨X1, 2, none⟩ = some (.slice A2 ss.length c2) ∧ w'.cell? ⟨X2, 0, none⟩ = some (.slice A3 c.points.length c3) ∧ w'.cell? ⟨X2, 1, none⟩ = some (.slice (some ⟨b4, o4, none⟩) c.segs.length c4) ∧ w'.cell? ⟨X3, 0, none⟩ = some (.string s0) ∧ w'.cell? ⟨X3, 1, none⟩ = some (.int .i64 s1) ∧ w'.cell? ⟨X3, 2, none⟩ = some (.int .i64 s2) ∧ w'.cell? ⟨X3, 3, none⟩ = some (.int .i64 s3) ∧ w'.cell? ⟨X3, 4, none⟩ = some (.int .i64 s4) ∧ w'.cell? ⟨X3, 5, none⟩ = some (.bool s5) ∧ w'.cell? ⟨b4, o4 + k * 5 + 2, none⟩ = some (.int .i64 D) ∧ Below W3.heap.size W3 w') (by kernel_rfl) (keepS (World.drew w10) (Below.drew HB10.out)) (fun hS => ?_)
          refine anyH_takeD (i := 0) (v := ?_) rfl (by kernel_rfl) (by kernel_rfl) (by kernel_rfl) (fun _ _ _ h => h) (.inl ⟨by rfl, ?_⟩) hS ?_
          rotate_left
          · (intro w' hSw; obtain ⟨f0, f1, f2, x0, x1, y0, y1, y2, y3, y4, y5, hdp, hB⟩ := hSw; go_simp; first | done | with_reducible rfl)
          try simp only [Act.put, List.setIfInBounds_toArray, List.set_cons_zero, List.set_cons_succ]
          refine anyH_takeD (i := 1) (v := ?_) rfl (by kernel_rfl) (by kernel_rfl) (by kernel_rfl) (fun _ _ _ h => h) (.inl ⟨by rfl, ?_⟩) hS ?_
          rotate_left
          · (intro w' hSw; obtain ⟨f0, f1, f2, x0, x1, y0, y1, y2, y3, y4, y5, hdp, hB⟩ := hSw; go_simp; first | done | with_reducible rfl)
          try simp only [Act.put, List.setIfInBounds_toArray, List.set_cons_zero, List.set_cons_succ]
          refine anyH_takeD (i := 2) (v := ?_) rfl (by kernel_rfl) (by kernel_rfl) (by kernel_rfl) (fun _ _ _ h => h) (.inl ⟨by rfl, ?_⟩) hS ?_
          rotate_left
          · (intro w' hSw; obtain ⟨f0, f1, f2, x0, x1, y0, y1, y2, y3, y4, y5, hdp, hB⟩ := hSw; go_simp; first | done | with_reducible rfl)
          try simp only [Act.put, List.setIfInBounds_toArray, List.set_cons_zero, List.set_cons_succ]
          refine anyH_takeD (i := 3) (v := ?_) rfl (by kernel_rfl) (by kernel_rfl) (by kernel_rfl) (fun _ _ _ h => h) (.inl ⟨by rfl, ?_⟩) hS ?_
          rotate_left
          · (intro w' hSw; obtain ⟨f0, f1, f2, x0, x1, y0, y1, y2, y3, y4, y5, hdp, hB⟩ := hSw; go_simp; first | done | with_reducible rfl)
          try simp only [Act.put, List.setIfInBounds_toArray, List.set_cons_zero, List.set_cons_succ]
          refine anyH_takeD (i := 4) (v := ?_) rfl (by kernel_rfl) (by kernel_rfl) (by kernel_rfl) (fun _ _ _ h => h) (.inl ⟨by rfl, ?_⟩) hS ?_
          rotate_left
          · (intro w' hSw; obtain ⟨f0, f1, f2, x0, x1, y0, y1, y2, y3, y4, y5, hdp, hB⟩ := hSw; go_simp; first | done | with_reducible rfl)
          try simp only [Act.put, List.setIfInBounds_toArray, List.set_cons_zero, List.set_cons_succ]
          refine anyH_takeD (i := 5) (v := ?_) rfl (by kernel_rfl) (by kernel_rfl) (by kernel_rfl) (fun _ _ _ h => h) (.inl ⟨by rfl, ?_⟩) hS ?_
          rotate_left
          · (intro w' hSw; obtain ⟨f0, f1, f2, x0, x1, y0, y1, y2, y3, y4, y5, hdp, hB⟩ := hSw; go_simp; first | done | with_reducible rfl)
          try simp only [Act.put, List.setIfInBounds_toArray, List.set_cons_zero, List.set_cons_succ]
          refine anyH_takeD (i := 6) (v := ?_) rfl (by kernel_rfl) (by kernel_rfl) (by kernel_rfl) (fun _ _ _ h => h) (.inl ⟨by rfl, ?_⟩) hS ?_
          rotate_left
          · (intro w' hSw; obtain ⟨f0, f1, f2, x0, x1, y0, y1, y2, y3, y4, y5, hdp, hB⟩ := hSw; go_simp; first | done | with_reducible rfl)
          try simp only [Act.put, List.setIfInBounds_toArray, List.set_cons_zero, List.set_cons_succ]
          refine anyH_takeD (i := 7) (v := undef) rfl (by kernel_rfl) (by kernel_rfl) (by kernel_rfl) (fun _ _ _ h => h) (.inr ⟨by rfl, rfl⟩) hS ?_
          try simp only [Act.put, List.setIfInBounds_toArray, List.set_cons_zero, List.set_cons_succ]
          refine anyH_takeD (i := 8) (v := undef) rfl (by kernel_rfl) (by kernel_rfl) (by kernel_rfl) (fun _ _ _ h => h) (.inr ⟨by rfl, rfl⟩) hS ?_
          try simp only [Act.put, List.setIfInBounds_toArray, List.set_cons_zero, List.set_cons_succ]
          refine anyH_takeD (i := 9) (v := undef) rfl (by kernel_rfl) (by kernel_rfl) (by kernel_rfl) (fun _ _ _ h => h) (.inr ⟨by rfl, rfl⟩) hS ?_
          try simp only [Act.put, List.setIfInBounds_toArray, List.set_cons_zero, List.set_cons_succ]
          refine anyH_takeD (i := 10) (v := undef) rfl (by kernel_rfl) (by kernel_rfl) (by kernel_rfl) (fun _ _ _ h => h) (.inr ⟨by rfl, rfl⟩) hS ?_
          try simp only [Act.put, List.setIfInBounds_toArray, List.set_cons_zero, List.set_cons_succ]
          refine anyH_takeD (i := 11) (v := undef) rfl (by kernel_rfl) (by kernel_rfl) (by kernel_rfl) (fun _ _ _ h => h) (.inr ⟨by rfl, rfl⟩) hS ?_
          try simp only [Act.put, List.setIfInBounds_toArray, List.set_cons_zero, List.set_cons_succ]
          refine anyH_takeD (i := 12) (v := undef) rfl (by kernel_rfl) (by kernel_rfl) (by kernel_rfl) (fun _ _ _ h => h) (.inr ⟨by rfl, rfl⟩) hS ?_
          try simp only [Act.put, List.setIfInBounds_toArray, List.set_cons_zero, List.set_cons_succ]
          refine anyH_takeD (i := 13) (v := ?_) rfl (by kernel_rfl) (by kernel_rfl) (by kernel_rfl) (fun _ _ _ h => h) (.inl ⟨by rfl, ?_⟩) hS ?_
          rotate_left
          · (intro w' hSw; obtain ⟨f0, f1, f2, x0, x1, y0, y1, y2, y3, y4, y5, hdp, hB⟩ := hSw; go_simp; first | done | with_reducible rfl)
          try simp only [Act.put, List.setIfInBounds_toArray, List.set_cons_zero, List.set_cons_succ]
          refine anyH_takeD (i := 14) (v := ?_) rfl (by kernel_rfl) (by kernel_rfl) (by kernel_rfl) (fun _ _ _ h => h) (.inl ⟨by rfl, ?_⟩) hS ?_
          rotate_left
          · (intro w' hSw; obtain ⟨f0, f1, f2, x0, x1, y0, y1, y2, y3, y4, y5, hdp, hB⟩ := hSw; go_simp; first | done | with_reducible rfl)
          try simp only [Act.put, List.setIfInBounds_toArray, List.set_cons_zero, List.set_cons_succ]
          refine anyH_takeD (i := 15) (v := ?_) rfl (by kernel_rfl) (by kernel_rfl) (by kernel_rfl) (fun _ _ _ h => h) (.inl ⟨by rfl, ?_⟩) hS ?_
          rotate_left
          · (intro w' hSw; obtain ⟨f0, f1, f2, x0, x1, y0, y1, y2, y3, y4, y5, hdp, hB⟩ := hSw; go_simp; first | done | with_reducible rfl)
          try simp only [Act.put, List.setIfInBounds_toArray, List.set_cons_zero, List.set_cons_succ]
          refine anyH_takeD (i := 16) (v := ?_) rfl (by kernel_rfl) (by kernel_rfl) (by kernel_rfl) (fun _ _ _ h => h) (.inl ⟨by rfl, ?_⟩) hS ?_
          rotate_left
          · (intro w' hSw; obtain ⟨f0, f1, f2, x0, x1, y0, y1, y2, y3, y4, y5, hdp, hB⟩ := hSw; go_simp; first | done | with_reducible rfl)
          try simp only [Act.put, List.setIfInBounds_toArray, List.set_cons_zero, List.set_cons_succ]
          refine anyH_takeD (i := 17) (v := ?_) rfl (by kernel_rfl) (by kernel_rfl) (by kernel_rfl) (fun _ _ _ h => h) (.inl ⟨by rfl, ?_⟩) hS ?_
          rotate_left
          · (intro w' hSw; obtain ⟨f0, f1, f2, x0, x1, y0, y1, y2, y3, y4, y5, hdp, hB⟩ := hSw; go_simp; first | done | with_reducible rfl)
          try simp only [Act.put, List.setIfInBounds_toArray, List.set_cons_zero, List.set_cons_succ]
          refine anyH_takeD (i := 18) (v := ?_) rfl (by kernel_rfl) (by kernel_rfl) (by kernel_rfl) (fun _ _ _ h => h) (.inl ⟨by rfl, ?_⟩) hS ?_
          rotate_left
          · (intro w' hSw; obtain ⟨f0, f1, f2, x0, x1, y0, y1, y2, y3, y4, y5, hdp, hB⟩ := hSw; go_simp; first | done | with_reducible rfl)
          try simp only [Act.put, List.setIfInBounds_toArray, List.set_cons_zero, List.set_cons_succ]
          refine anyH_takeD (i := 19) (v := ?_) rfl (by kernel_rfl) (by kernel_rfl) (by kernel_rfl) (fun _ _ _ h => h) (.inl ⟨by rfl, ?_⟩) hS ?_
          rotate_left
          · (intro w' hSw; obtain ⟨f0, f1, f2, x0, x1, y0, y1, y2, y3, y4, y5, hdp, hB⟩ := hSw; go_simp; first | done | with_reducible rfl)
          try simp only [Act.put, List.setIfInBounds_toArray, List.set_cons_zero, List.set_cons_succ]
          refine anyH_takeD (i := 20) (v := ?_) rfl (by kernel_rfl) (by kernel_rfl) (by kernel_rfl) (fun _ _ _ h => h) (.inl ⟨by rfl, ?_⟩) hS ?_
          rotate_left
          · (intro w' hSw; obtain ⟨f0, f1, f2, x0, x1, y0, y1, y2, y3, y4, y5, hdp, hB⟩ := hSw; go_simp; first | done | with_reducible rfl)
          try simp only [Act.put, List.setIfInBounds_toArray, List.set_cons_zero, List.set_cons_succ]
          refine anyH_takeD (i := 21) (v := ?_) rfl (by kernel_rfl) (by kernel_rfl) (by kernel_rfl) (fun _ _ _ h => h) (.inl ⟨by rfl, ?_⟩) hS ?_
          rotate_left
          · (intro w' hSw; obtain ⟨f0, f1, f2, x0, x1, y0, y1, y2, y3, y4, y5, hdp, hB⟩ := hSw; go_simp; first | done | with_reducible rfl)
          try simp only [Act.put, List.setIfInBounds_toArray, List.set_cons_zero, List.set_cons_succ]
          refine anyH_takeD (i := 22) (v := ?_) rfl (by kernel_rfl) (by kernel_rfl) (by kernel_rfl) (fun _ _ _ h => h) (.inl ⟨by rfl, ?_⟩) hS ?_
          rotate_left
          · (intro w' hSw; obtain ⟨f0, f1, f2, x0, x1, y0, y1, y2, y3, y4, y5, hdp, hB⟩ := hSw; go_simp; first | done | with_reducible rfl)
          try simp only [Act.put, List.setIfInBounds_toArray, List.set_cons_zero, List.set_cons_succ]
          refine anyH_takeD (i := 23) (v := ?_) rfl (by kernel_rfl) (by kernel_rfl) (by kernel_rfl) (fun _ _ _ h => h) (.inl ⟨by rfl, ?_⟩) hS ?_
          rotate_left
          · (intro w' hSw; obtain ⟨f0, f1, f2, x0, x1, y0, y1, y2, y3, y4, y5, hdp, hB⟩ := hSw; go_simp; first | done | with_reducible rfl)
          try simp only [Act.put, List.setIfInBounds_toArray, List.set_cons_zero, List.set_cons_succ]
          refine anyH_takeD (i := 24) (v := ?_) rfl (by kernel_rfl) (by kernel_rfl) (by kernel_rfl) (fun _ _ _ h => h) (.inl ⟨by rfl, ?_⟩) hS ?_
          rotate_left
          · (intro w' hSw; obtain ⟨f0, f1, f2, x0, x1, y0, y1, y2, y3, y4, y5, hdp, hB⟩ := hSw; go_simp; first | done | with_reducible rfl)
          try simp only [Act.put, List.setIfInBounds_toArray, List.set_cons_zero, List.set_cons_succ]
          refine anyH_takeD (i := 25) (v := ?_) rfl (by kernel_rfl) (by kernel_rfl) (by kernel_rfl) (fun _ _ _ h => h) (.inl ⟨by rfl, ?_⟩) hS ?_
          rotate_left
          · (intro w' hSw; obtain ⟨f0, f1, f2, x0, x1, y0, y1, y2, y3, y4, y5, hdp, hB⟩ := hSw; go_simp; first | done | with_reducible rfl)
          try simp only [Act.put, List.setIfInBounds_toArray, List.set_cons_zero, List.set_cons_succ]
          refine anyH_takeD (i := 26) (v := ?_) rfl (by kernel_rfl) (by kernel_rfl) (by kernel_rfl) (fun _ _ _ h => h) (.inl ⟨by rfl, ?_⟩) hS ?_
          rotate_left
          · (intro w' hSw; obtain ⟨f0, f1, f2, x0, x1, y0, y1, y2, y3, y4, y5, hdp, hB⟩ := hSw; go_simp; first | done | with_reducible rfl)
          try simp only [Act.put, List.setIfInBounds_toArray, List.set_cons_zero, List.set_cons_succ]
          refine anyH_takeD (i := 27) (v := ?_) rfl (by kernel_rfl) (by kernel_rfl) (by kernel_rfl) (fun _ _ _ h => h) (.inl ⟨by rfl, ?_⟩) hS ?_
          rotate_left
          · (intro w' hSw; obtain ⟨f0, f1, f2, x0, x1, y0, y1, y2, y3, y4, y5, hdp, hB⟩ := hSw; go_simp; first | done | with_reducible rfl)
          try simp only [Act.put, List.setIfInBounds_toArray, List.set_cons_zero, List.set_cons_succ]
          refine anyH_takeD (i := 30) (v := ?_) rfl (by kernel_rfl) (by kernel_rfl) (by kernel_rfl) (fun _ _ _ h => h) (.inl ⟨by rfl, ?_⟩) hS ?_
          rotate_left
          · (intro w' hSw; obtain ⟨f0, f1, f2, x0, x1, y0, y1, y2, y3, y4, y5, hdp, hB⟩ := hSw; go_simp; first | done | with_reducible rfl)
          try simp only [Act.put, List.setIfInBounds_toArray, List.set_cons_zero, List.set_cons_succ]
          refine anyH_takeD (i := 31) (v := ?_) rfl (by kernel_rfl) (by kernel_rfl) (by kernel_rfl) (fun _ _ _ h => h) (.inl ⟨by rfl, ?_⟩) hS ?_
          rotate_left
          · (intro w' hSw; obtain ⟨f0, f1, f2, x0, x1, y0, y1, y2, y3, y4, y5, hdp, hB⟩ := hSw; go_simp; first | done | with_reducible rfl)
          try simp only [Act.put, List.setIfInBounds_toArray, List.set_cons_zero, List.set_cons_succ]
          refine anyH_takeD (i := 32) (v := ?_) rfl (by kernel_rfl) (by kernel_rfl) (by kernel_rfl) (fun _ _ _ h => h) (.inl ⟨by rfl, ?_⟩) hS ?_
          rotate_left
          · (intro w' hSw; obtain ⟨f0, f1, f2, x0, x1, y0, y1, y2, y3, y4, y5, hdp, hB⟩ := hSw; go_simp; first | done | with_reducible rfl)
          try simp only [Act.put, List.setIfInBounds_toArray, List.set_cons_zero, List.set_cons_succ]
          refine anyH_takeD (i := 33) (v := ?_) rfl (by kernel_rfl) (by kernel_rfl) (by kernel_rfl) (fun _ _ _ h => h) (.inl ⟨by rfl, ?_⟩) hS ?_
          rotate_left
          · (intro w' hSw; obtain ⟨f0, f1, f2, x0, x1, y0, y1, y2, y3, y4, y5, hdp, hB⟩ := hSw; go_simp; first | done | with_reducible rfl)
          try simp only [Act.put, List.setIfInBounds_toArray, List.set_cons_zero, List.set_cons_succ]
          refine anyH_oneD (i := 28) (by kernel_rfl) rfl (by rfl) (fun K hK => ?_)
          obtain ⟨_, _, _, _, _, _, _, _, _, _, _, _, qB⟩ := hS
          refine wp_call (f := 21) (args := #[.agg #[.int .i64 m0, .slice A1 ps.length c1, .slice A2 ss.length c2], .agg #[.slice A3 c.points.length c3, .slice (some ⟨b4, o4, none⟩) c.segs.length c4], .int .i64 k, .agg #[.string s0, .int .i64 s1, .int .i64 s2, .int .i64 s3, .int .i64 s4, .bool s5]]) (by first | (go_simp; done) | (go_simp; exact ⟨rfl, rfl⟩)) (calls_o (impl_SureStarts_any _ _ _ _ ⟨m0, ps, ss⟩ c k ⟨s0, s1, s2, s3, s4, s5⟩ _ (HRF0.out _ qB) (HRC0.out _ qB) HCP.out.2.1 HSN.out)) ?_
          rintro v32 w32 ⟨ho32, hb32⟩
          have HRS := hide (Own.rd WindowD.enc_len ho32); have HB32 := hide (bnext qB hb32 (Nat.le_refl _)); clear hb32 ho32
          refine hK.out _ _ (keepS w32 HB32.out) (fun hS => ?_)
          clear hK K
          try simp only [Act.put, List.setIfInBounds_toArray, List.set_cons_zero, List.set_cons_succ]
          refine anyH_oneD (i := 29) (by kernel_rfl) rfl (by rfl) (fun K hK => ?_)
          obtain ⟨_, _, _, _, _, _, _, _, _, _, _, _, qB⟩ := hS
          refine wp_call (f := 20) (args := #[v32]) (by first | (go_simp; done) | (go_simp; exact ⟨rfl, rfl⟩)) (calls_v (impl_CountMinutes_any v32 (startsOf false ⟨m0, ps, ss⟩ c k ⟨s0, s1, s2, s3, s4, s5⟩) w32 HRS.out (startsOkA _ _ _ _ _))) ?_
          rintro _ w33 ⟨rfl, hb33⟩
          rw [HCA.out]
          have HB33 := hide (bnext HB32.out hb33 (Nat.le_refl _)); clear hb33
          refine hK.out _ _ (keepS w33 HB33.out) (fun hS => ?_)
          clear hK K
          try simp only [Act.put, List.setIfInBounds_toArray, List.set_cons_zero, List.set_cons_succ]
          refine anyH_oneD (i := 34) (by kernel_rfl) rfl (by rfl) (fun K hK => ?_)
          obtain ⟨_, _, _, _, _, _, _, _, _, _, _, _, qB⟩ := hS
          refine wp_call (f := 22) (args := #[.agg #[.int .i64 m0, .slice A1 ps.length c1, .slice A2 ss.length c2], .agg #[.slice A3 c.points.length c3, .slice (some ⟨b4, o4, none⟩) c.segs.length c4], .int .i64 k, .agg #[.string s0, .int .i64 s1, .int .i64 s2, .int .i64 s3, .int .i64 s4, .bool s5]]) (by first | (go_simp; done) | (go_simp; exact ⟨rfl, rfl⟩)) (calls_o (impl_OpenStarts_any _ _ _ _ ⟨m0, ps, ss⟩ c k ⟨s0, s1, s2, s3, s4, s5⟩ _ (HRF0.out _ qB) (HRC0.out _ qB) HCP.out.2.1 HSN.out)) ?_
          rintro v34 w34 ⟨ho34, hb34⟩
          clear HRS
          have HRS := hide (Own.rd WindowD.enc_len ho34); have HB34 := hide (bnext qB hb34 (Nat.le_refl _)); clear hb34 ho34
          refine hK.out _ _ (keepS w34 HB34.out) (fun hS => ?_)
          clear hK K
          try simp only [Act.put, List.setIfInBounds_toArray, List.set_cons_zero, List.set_cons_succ]
          refine anyH_oneD (i := 35) (by kernel_rfl) rfl (by rfl) (fun K hK => ?_)
          obtain ⟨_, _, _, _, _, _, _, _, _, _, _, _, qB⟩ := hS
          refine wp_call (f := 20) (args := #[v34]) (by first | (go_simp; done) | (go_simp; exact ⟨rfl, rfl⟩)) (calls_v (impl_CountMinutes_any v34 (startsOf true ⟨m0, ps, ss⟩ c k ⟨s0, s1, s2, s3, s4, s5⟩) w34 HRS.out (startsOkA _ _ _ _ _))) ?_
          rintro _ w35 ⟨rfl, hb35⟩
          rw [HCB.out]
          have HB35 := hide (bnext HB34.out hb35 (Nat.le_refl _)); clear hb35
          refine hK.out _ _ (keepS w35 HB35.out) (fun hS => ?_)
          clear hK K
          try simp only [Act.put, List.setIfInBounds_toArray, List.set_cons_zero, List.set_cons_succ]
          refine anyH_takeD (i := 36) (v := ?_) rfl (by kernel_rfl) (by kernel_rfl) (by kernel_rfl) (fun _ _ _ h => h) (.inl ⟨by rfl, ?_⟩) hS ?_
          rotate_left
          · (intro w' hSw; obtain ⟨f0, f1, f2, x0, x1, y0, y1, y2, y3, y4, y5, hdp, hB⟩ := hSw; go_simp; first | done | with_reducible rfl)
          try simp only [Act.put, List.setIfInBounds_toArray, List.set_cons_zero, List.set_cons_succ]
          refine anyH_takeD (i := 37) (v := ?_) rfl (by kernel_rfl) (by kernel_rfl) (by kernel_rfl) (fun _ _ _ h => h) (.inl ⟨by rfl, ?_⟩) hS ?_
          rotate_left
          · (intro w' hSw; obtain ⟨f0, f1, f2, x0, x1, y0, y1, y2, y3, y4, y5, hdp, hB⟩ := hSw; go_simp; first | done | with_reducible rfl)
          try simp only [Act.put, List.setIfInBounds_toArray, List.set_cons_zero, List.set_cons_succ]
          refine anyH_takeD (i := 38) (v := ?_) rfl (by kernel_rfl) (by kernel_rfl) (by kernel_rfl) (fun _ _ _ h => h) (.inl ⟨by rfl, ?_⟩) hS ?_
          rotate_left
          · (intro w' hSw; obtain ⟨f0, f1, f2, x0, x1, y0, y1, y2, y3, y4, y5, hdp, hB⟩ := hSw; go_simp; first | done | with_reducible rfl)
          try simp only [Act.put, List.setIfInBounds_toArray, List.set_cons_zero, List.set_cons_succ]
          refine anyH_takeD (i := 39) (v := ?_) rfl (by kernel_rfl) (by kernel_rfl) (by kernel_rfl) (fun _ _ _ h => h) (.inl ⟨by rfl, ?_⟩) hS ?_
          rotate_left
          · (intro w' hSw; obtain ⟨f0, f1, f2, x0, x1, y0, y1, y2, y3, y4, y5, hdp, hB⟩ := hSw; go_simp; first | done | with_reducible rfl)
          try simp only [Act.put, List.setIfInBounds_toArray, List.set_cons_zero, List.set_cons_succ]
          refine anyH_takeD (i := 40) (v := ?_) rfl (by kernel_rfl) (by kernel_rfl) (by kernel_rfl) (fun _ _ _ h => h) (.inl ⟨by rfl, ?_⟩) hS ?_
          rotate_left
          · (intro w' hSw; obtain ⟨f0, f1, f2, x0, x1, y0, y1, y2, y3, y4, y5, hdp, hB⟩ := hSw; go_simp; first | done | with_reducible rfl)
          try simp only [Act.put, List.setIfInBounds_toArray, List.set_cons_zero, List.set_cons_succ]
          refine anyH_takeD (i := 41) (v := ?_) rfl (by kernel_rfl) (by kernel_rfl) (by kernel_rfl) (fun _ _ _ h => h) (.inl ⟨by rfl, ?_⟩) hS ?_
          rotate_left
          · (intro w' hSw; obtain ⟨f0, f1, f2, x0, x1, y0, y1, y2, y3, y4, y5, hdp, hB⟩ := hSw; go_simp; first | done | with_reducible rfl)
          try simp only [Act.put, List.setIfInBounds_toArray, List.set_cons_zero, List.set_cons_succ]
          refine anyH_takeD (i := 43) (v := ?_) rfl (by kernel_rfl) (by kernel_rfl) (by kernel_rfl) (fun _ _ _ h => h) (.inl ⟨by rfl, ?_⟩) hS ?_
          rotate_left
          · (intro w' hSw; obtain ⟨f0, f1, f2, x0, x1, y0, y1, y2, y3, y4, y5, hdp, hB⟩ := hSw; go_simp; first | done | with_reducible rfl)
          try simp only [Act.put, List.setIfInBounds_toArray, List.set_cons_zero, List.set_cons_succ]
          refine anyH_takeD (i := 45) (v := ?_) rfl (by kernel_rfl) (by kernel_rfl) (by kernel_rfl) (fun _ _ _ h => h) (.inl ⟨by rfl, ?_⟩) hS ?_
          rotate_left
          · (intro w' hSw; obtain ⟨f0, f1, f2, x0, x1, y0, y1, y2, y3, y4, y5, hdp, hB⟩ := hSw; go_simp; first | done | with_reducible rfl)
          try simp only [Act.put, List.setIfInBounds_toArray, List.set_cons_zero, List.set_cons_succ]
          refine anyH_takeD (i := 46) (v := ?_) rfl (by kernel_rfl) (by kernel_rfl) (by kernel_rfl) (fun _ _ _ h => h) (.inl ⟨by rfl, ?_⟩) hS ?_
          rotate_left
          · (intro w' hSw; obtain ⟨f0, f1, f2, x0, x1, y0, y1, y2, y3, y4, y5, hdp, hB⟩ := hSw; go_simp; first | done | with_reducible rfl)
          try simp only [Act.put, List.setIfInBounds_toArray, List.set_cons_zero, List.set_cons_succ]
          refine anyH_takeD (i := 47) (v := ?_) rfl (by kernel_rfl) (by kernel_rfl) (by kernel_rfl) (fun _ _ _ h => h) (.inl ⟨by rfl, ?_⟩) hS ?_
          rotate_left
          · (intro w' hSw; obtain ⟨f0, f1, f2, x0, x1, y0, y1, y2, y3, y4, y5, hdp, hB⟩ := hSw; go_simp; first | done | with_reducible rfl)
          try simp only [Act.put, List.setIfInBounds_toArray, List.set_cons_zero, List.set_cons_succ]
          refine anyH_takeD (i := 48) (v := ?_) rfl (by kernel_rfl) (by kernel_rfl) (by kernel_rfl) (fun _ _ _ h => h) (.inl ⟨by rfl, ?_⟩) hS ?_
          rotate_left
          · (intro w' hSw; obtain ⟨f0, f1, f2, x0, x1, y0, y1, y2, y3, y4, y5, hdp, hB⟩ := hSw; go_simp; first | done | with_reducible rfl)
          try simp only [Act.put, List.setIfInBounds_toArray, List.set_cons_zero, List.set_cons_succ]
          refine anyH_takeD (i := 49) (v := ?_) rfl (by kernel_rfl) (by kernel_rfl) (by kernel_rfl) (fun _ _ _ h => h) (.inl ⟨by rfl, ?_⟩) hS ?_
          rotate_left
          · (intro w' hSw; obtain ⟨f0, f1, f2, x0, x1, y0, y1, y2, y3, y4, y5, hdp, hB⟩ := hSw; go_simp; first | done | with_reducible rfl)
          try simp only [Act.put, List.setIfInBounds_toArray, List.set_cons_zero, List.set_cons_succ]
          refine anyH_takeD (i := 50) (v := ?_) rfl (by kernel_rfl) (by kernel_rfl) (by kernel_rfl) (fun _ _ _ h => h) (.inl ⟨by rfl, ?_⟩) hS ?_
          rotate_left
          · (intro w' hSw; obtain ⟨f0, f1, f2, x0, x1, y0, y1, y2, y3, y4, y5, hdp, hB⟩ := hSw; go_simp; first | done | with_reducible rfl)
          try simp only [Act.put, List.setIfInBounds_toArray, List.set_cons_zero, List.set_cons_succ]
          refine anyH_oneD (i := 42) (by kernel_rfl) rfl (by rfl) (fun K hK => ?_)
          obtain ⟨_, _, _, _, _, _, _, _, _, _, _, _, qB⟩ := hS
          refine wp_call (f := 23) (args := #[.agg #[.slice A3 c.points.length c3, .slice (some ⟨b4, o4, none⟩) c.segs.length c4], .int .i64 k, .agg #[.string s0, .int .i64 s1, .int .i64 s2, .int .i64 s3, .int .i64 s4, .bool s5]]) (by first | (go_simp; done) | (go_simp; exact ⟨rfl, rfl⟩)) (calls_v (impl_LevelFor_any _ _ c k ⟨s0, s1, s2, s3, s4, s5⟩ _ (HRC0.out _ qB) HCP.out.2.1 HSN.out)) ?_
          rintro _ w36 ⟨rfl, hb36⟩
          rw [HLV.out]
          have HB36 := hide (bnext qB hb36 (Nat.le_refl _)); clear hb36
          refine hK.out _ _ (keepS w36 HB36.out) (fun hS => ?_)
          clear hK K
          try simp only [Act.put, List.setIfInBounds_toArray, List.set_cons_zero, List.set_cons_succ]
          refine anyH_oneD (i := 44) (by kernel_rfl) rfl (by rfl) (fun K hK => ?_)
          obtain ⟨_, _, _, _, _, _, _, _, _, _, _, _, qB⟩ := hS
          refine wp_call (f := 13) (args := #[.agg #[.string s0, .int .i64 s1, .int .i64 s2, .int .i64 s3, .int .i64 s4, .bool s5]]) (by first | (go_simp; done) | (go_simp; exact ⟨rfl, rfl⟩)) (calls_v (impl_NeedOf_any s0 s1 s2 s3 s4 s5 _ HSN.out)) ?_
          rintro _ w37 ⟨rfl, hb37⟩
          rw [HND.out]
          have HB37 := hide (bnext qB hb37 (Nat.le_refl _)); clear hb37
          refine hK.out _ _ (keepS w37 HB37.out) (fun hS => ?_)
          clear hK K
          try simp only [Act.put, List.setIfInBounds_toArray, List.set_cons_zero, List.set_cons_succ]
          refine anyH_takeD (i := 51) (v := ?_) rfl (by kernel_rfl) (by kernel_rfl) (by kernel_rfl) (fun _ _ _ h => h) (.inl ⟨by rfl, ?_⟩) hS ?_
          rotate_left
          · (intro w' hSw; obtain ⟨f0, f1, f2, x0, x1, y0, y1, y2, y3, y4, y5, hdp, hB⟩ := hSw; go_simp; first | done | with_reducible rfl)
          try simp only [Act.put, List.setIfInBounds_toArray, List.set_cons_zero, List.set_cons_succ]
          refine anyH_takeD (i := 52) (v := ?_) rfl (by kernel_rfl) (by kernel_rfl) (by kernel_rfl) (fun _ _ _ h => h) (.inl ⟨by rfl, ?_⟩) hS ?_
          rotate_left
          · (intro w' hSw; obtain ⟨f0, f1, f2, x0, x1, y0, y1, y2, y3, y4, y5, hdp, hB⟩ := hSw; go_simp; first | done | with_reducible rfl)
          try simp only [Act.put, List.setIfInBounds_toArray, List.set_cons_zero, List.set_cons_succ]
          refine anyH_takeD (i := 53) (v := ?_) rfl (by kernel_rfl) (by kernel_rfl) (by kernel_rfl) (fun _ _ _ h => h) (.inl ⟨by rfl, ?_⟩) hS ?_
          rotate_left
          · (intro w' hSw; obtain ⟨f0, f1, f2, x0, x1, y0, y1, y2, y3, y4, y5, hdp, hB⟩ := hSw; go_simp; first | done | with_reducible rfl)
          try simp only [Act.put, List.setIfInBounds_toArray, List.set_cons_zero, List.set_cons_succ]
          refine anyH_takeD (i := 54) (v := ?_) rfl (by kernel_rfl) (by kernel_rfl) (by kernel_rfl) (fun _ _ _ h => h) (.inl ⟨by rfl, ?_⟩) hS ?_
          rotate_left
          · (intro w' hSw; obtain ⟨f0, f1, f2, x0, x1, y0, y1, y2, y3, y4, y5, hdp, hB⟩ := hSw; go_simp; first | done | with_reducible rfl)
          try simp only [Act.put, List.setIfInBounds_toArray, List.set_cons_zero, List.set_cons_succ]
          refine wpAnyH_done (by kernel_rfl) ?_ _
          go_wp2
          go_ret
          exact ⟨by first | rfl | simp [hsd, hcle], HD3.out.trans (HB37.out.mono hwW)⟩
namespace fnAfloat
set_option maxRecDepth 100000 in
theorem lifted (os : Os) (started : os.Started) (H : Type) (enc : TypeId × Value → H) :
    ReturnsInHanded {} Try.checked os 3 .any (Rows.fnAfloatSpec.pre6 enc Try.prog Try.f3 Rows.fnAfloatRow.domain false) (Rows.fnAfloatSpec.post enc Try.prog Try.f3 false true false false) := by
  refine returnsInHanded_of_change (C := Try.checked) own started (by kernel_rfl) Try.func3
    (ChangeSpec.witness6 (enc := enc) (C := Try.checked) false ⟨#[], #[.slice none 0 0], []⟩ 8 (by kernel_rfl) (by kernel_rfl) (by kernel_rfl) (by kernel_rfl)) ?_
  intro W base args ds gs before hval0 hW hcnd _
  have hval : ∀ (j : Nat) t v, Try.f3.params[j]? = some t → args[j]? = some v → Value.okWide Try.prog W .any base t v := hval0
  have hW' := hW
  obtain ⟨p, q, hA0, hV, hbef, hfz, hnd⟩ := hW
  have hA : DataW.TrodAll enc Try.prog W 0 (fun _ => true) true Try.f3.params.toList args.toList ds p := hA0
  rw [Try.params3] at hA hval
  obtain ⟨v0, vs0, d0, ds0, p0, q0, hargs, rfl, hp0, h0, r0⟩ := trodAll_cons hA
  obtain ⟨rfl, rfl, hpn⟩ := trodAll_nil r0
  obtain rfl : args = #[v0] := by cases args; simp_all
  obtain ⟨rfl, rfl⟩ := trodVars_none hV
  obtain ⟨a0, g0, w0⟩ := open_rows8 Try.underlying22 Try.underlying5 (by kernel_rfl) (hval 0 22 v0 rfl rfl) h0
  refine (FnAfloat_walk W _ a0 g0 w0).mono fun e W' ⟨he, hg⟩ => ?_
  subst he
  exact ⟨_, rfl, post_law laidOut (by kernel_rfl) rfl Try.underlying4 rfl ⟨rfl, rfl, rfl⟩ hW' hg⟩
theorem proved : Rows.FnAfloatSaid :=
  OpenClaim.holds_of_wide 3 Try.f3 rfl rfl rfl rfl rfl rfl rfl ⟨rfl, rfl, rfl, rfl, rfl⟩ rfl rfl rfl rfl rfl (by kernel_rfl) Try.func3 (by kernel_rfl)
    (of_decide_eq_true (by kernel_rfl)) (by unfold Func.isWrapper; first | (rw [if_pos (by decide +kernel)]; kernel_rfl) | (rw [if_neg (by decide +kernel)]; exact ⟨rfl, rfl⟩))
    (fun os started H enc _ => lifted os started H enc)
end fnAfloat
end Go.Proofs.Ytpbcbdjjpkenjaa
