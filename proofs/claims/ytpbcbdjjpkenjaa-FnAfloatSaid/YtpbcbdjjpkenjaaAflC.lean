/- Minutes counted, the least level, arguments drawn out of bytes. No condition. -/
import Derived.Test.YtpbcbdjjpkenjaaAflP
import Derived.Test.YtpbcbdjjpkenjaaCntW
import Derived.Test.YtpbcbdjjpkenjaaFcDraw3
import Derived.Test.YtpbcbdjjpkenjaaChOk
import Derived.Test.YtpbcbdjjpkenjaaFleetOk
namespace Go.Proofs.Ytpbcbdjjpkenjaa
open Go.RowKit
set_option linter.unusedVariables false
set_option maxRecDepth 100000 in
set_option maxHeartbeats 8000000 in
theorem impl_LowAt_any (v1 v2 : Value) (f : ForeD) (m : Int) (w : World) (h : RdFore w w.heap.size v1 v2 f) :
    Calls Try.prog 16 #[.agg #[.int .i64 f.m0, v1, v2], .int .i64 m] w fun e w' => e = .returned (.int .i64 (lowAt f m)) ∧ Below w.heap.size w w' := by
  have HFR := hide h
  obtain ⟨m0, ps, ss⟩ := f
  obtain ⟨h1, h2⟩ := h
  simp only at h1 h2 HFR ⊢
  obtain ⟨A1, c1, rfl, hc1, hm1, h1⟩ := h1
  obtain ⟨A2, c2, rfl, hc2, hm2, h2⟩ := h2
  unfold maxLen at hm1 hm2
  clear h1 h2
  rcases ch2 (foreOk ⟨m0, ps, ss⟩) (inB m 0 2880) with ⟨g1, g2⟩ | g1 | ⟨g1, g2⟩
  · have HV := hide (show lowAt ⟨m0, ps, ss⟩ m = lowF ⟨m0, ps, ss⟩ m by unfold lowAt; rw [g1, g2]; rfl)
    have hm : 0 ≤ m ∧ m ≤ 2880 := by have := g2; simp [inB] at this; exact this
    have HOK := hide g1
    obtain ⟨hm0, hm1⟩ := hm
    obtain ⟨l, hl⟩ : ∃ l, lowF ⟨m0, ps, ss⟩ m = l := ⟨_, rfl⟩
    have HL := hide hl
    rw [hl] at HV
    clear hl
    go_enter Try.func16, Try.ntmps16
    go_wp2_with (first
      | (go_at_call 54; with_reducible refine (impl_ForecastOk_any _ _ ⟨m0, ps, ss⟩ _ ((HFR.out.keep (B' := w.heap.size) (by repeat (first | exact Below.refl _ _ | assumption | refine Below.setCell ?_ (by first | omega | (simp <;> omega)) _ | refine Below.alloc ?_ (by first | omega | (simp <;> omega)) _ | refine below_drewN ?_ _ | refine Below.drew ?_ | refine Below.trans ?_ (Below.mono (by assumption) (by first | omega | (simp <;> omega))))) (Nat.le_refl _)).mono (by first | omega | (simp <;> omega)))).mono ?_; rintro e w1 ⟨rfl, hb'⟩; (first | have hb := bnext hb hb' | have hb := bnextA hb hb' | have hb := hb'); clear hb'; obtain ⟨hc, hf⟩ := bcell hb; have hz := hb.size; (try simp at hz))
      | (go_at_call 55; with_reducible refine (isMinute_any _ _).mono ?_; rintro e w1 ⟨rfl, hw⟩; obtain rfl := hw.symm)
      | (go_at_call 56; with_reducible refine (flow_any _ _ ⟨m0, ps, ss⟩ m _ ((HFR.out.keep (B' := w.heap.size) (by repeat (first | exact Below.refl _ _ | assumption | refine Below.setCell ?_ (by first | omega | (simp <;> omega)) _ | refine Below.alloc ?_ (by first | omega | (simp <;> omega)) _ | refine below_drewN ?_ _ | refine Below.drew ?_ | refine Below.trans ?_ (Below.mono (by assumption) (by first | omega | (simp <;> omega))))) (Nat.le_refl _)).mono (by first | omega | (simp <;> omega))) HOK.out hm0 hm1).mono ?_; rintro e w2 ⟨rfl, hb'⟩; rw [HL.out]; (first | have hb := bnext hb hb' | have hb := bnextA hb hb' | have hb := hb'); clear hb'; obtain ⟨hc, hf⟩ := bcell hb; have hz := hb.size; (try simp at hz)))
    go_ret
    exact ⟨ret_int (by rw [HV.out]), (by repeat (first | exact Below.refl _ _ | assumption | refine Below.setCell ?_ (by first | omega | (simp <;> omega)) _ | refine Below.alloc ?_ (by first | omega | (simp <;> omega)) _ | refine below_drewN ?_ _ | refine Below.drew ?_ | refine Below.trans ?_ (Below.mono (by assumption) (by first | omega | (simp <;> omega)))))⟩
  all_goals
    have HV := hide (show lowAt ⟨m0, ps, ss⟩ m = 0 by unfold lowAt; first | (rw [g1, g2]; rfl) | (rw [g1]; rfl))
    go_enter Try.func16, Try.ntmps16
    go_wp2_with (first
      | (go_at_call 54; with_reducible refine (impl_ForecastOk_any _ _ ⟨m0, ps, ss⟩ _ ((HFR.out.keep (B' := w.heap.size) (by repeat (first | exact Below.refl _ _ | assumption | refine Below.setCell ?_ (by first | omega | (simp <;> omega)) _ | refine Below.alloc ?_ (by first | omega | (simp <;> omega)) _ | refine below_drewN ?_ _ | refine Below.drew ?_ | refine Below.trans ?_ (Below.mono (by assumption) (by first | omega | (simp <;> omega))))) (Nat.le_refl _)).mono (by first | omega | (simp <;> omega)))).mono ?_; rintro e w1 ⟨rfl, hb'⟩; (first | have hb := bnext hb hb' | have hb := bnextA hb hb' | have hb := hb'); clear hb'; obtain ⟨hc, hf⟩ := bcell hb; have hz := hb.size; (try simp at hz))
      | (go_at_call 55; with_reducible refine (isMinute_any _ _).mono ?_; rintro e w1 ⟨rfl, hw⟩; obtain rfl := hw.symm))
    go_ret
    exact ⟨ret_int (by rw [HV.out]), (by repeat (first | exact Below.refl _ _ | assumption | refine Below.setCell ?_ (by first | omega | (simp <;> omega)) _ | refine Below.alloc ?_ (by first | omega | (simp <;> omega)) _ | refine below_drewN ?_ _ | refine Below.drew ?_ | refine Below.trans ?_ (Below.mono (by assumption) (by first | omega | (simp <;> omega)))))⟩
theorem PartIs.ok {x : PartD} (h : PartIs x) : partOk x = true := by
  obtain ⟨h1, h2, h3, h4⟩ := h
  unfold partOk isPer
  simp only [List.mem_cons, List.not_mem_nil, or_false] at h2
  simp only [inB, Bool.and_eq_true, decide_eq_true_eq]
  rcases h2 with e | e | e | e | e <;> rw [e] at h4 ⊢ <;> omega
theorem fore_ok {m0 a : Int} {ps : List PartD} {ss : List SurgeD} (h0 : 0 ≤ m0 ∧ m0 < 300) (h1 : 1 ≤ ps.length ∧ ps.length ≤ 2) (h2 : ∀ x ∈ ps, PartIs x) (h3 : 1 ≤ ss.length ∧ ss.length ≤ 3) (h4 : a ≤ 2400) (h5 : SurgesIs a ss) : foreOk ⟨m0, ps, ss⟩ = true := by
  obtain ⟨s1, s2, s3, s4⟩ := h5
  unfold foreOk tideOk
  simp only [Bool.and_eq_true, decide_eq_true_eq, allUpTo_iff]
  refine ⟨⟨⟨⟨⟨by simp [inB]; omega, by omega⟩, ?_⟩, by simp [inB]; omega⟩, ?_⟩, fun i hi => ?_⟩
  · rw [List.all_eq_true]; exact fun x hx => (h2 x hx).ok
  · rw [getD_at (show 0 < ss.length by omega)]; exact s3 (by omega)
  · have a1 := s1 i hi
    unfold surgeRow surgeOk
    rw [getD_at hi]
    simp only [Bool.and_eq_true, Bool.or_eq_true, decide_eq_true_eq]
    refine ⟨⟨⟨⟨by simp [inB]; omega, by omega⟩, by omega⟩, by omega⟩, ?_⟩
    rcases Nat.eq_zero_or_pos i with e | e
    · exact .inl e
    · obtain ⟨j, rfl⟩ : ∃ j, i = j + 1 := ⟨i - 1, by omega⟩
      refine .inr ?_
      rw [show j + 1 - 1 = j from rfl, getD_at (show j < ss.length by omega)]
      exact s2 j hi
def MkForeRes (w : World) (e : Ending) (w' : World) : Prop := ∃ (v1 v2 : Value) (f : ForeD), e = .returned (.agg #[.int .i64 f.m0, v1, v2]) ∧ foreOk f = true ∧ RdFore w' w'.heap.size v1 v2 f ∧ Below w.heap.size w w'
set_option maxRecDepth 100000 in
set_option maxHeartbeats 8000000 in
theorem MakeForecast_any (v : Value) (bs : List Int) (w : World) (h : RdB w w.heap.size 1 enc8 v bs) (hby : Byt bs) (hn : bs.length ≤ 1048576) :
    Calls Try.prog 8 #[v] w (MkForeRes w) := by
  have HR := hide h; have HBY := hide hby; have HN := hide hn; clear hby hn
  obtain ⟨A0, cc0, rfl, hc0, hm0, -⟩ := h
  go_enter Try.func8, Try.ntmps8
  go_wp2_with fail
  obtain ⟨W0, hW0⟩ : ∃ W, w.alloc (.cells #[.int .i64 0, .slice none 0 0, .slice none 0 0] 28) = W := ⟨_, rfl⟩
  have hb0 : Below w.heap.size w W0 := by rw [← hW0]; exact (by repeat (first | exact Below.refl _ _ | assumption | refine Below.setCell ?_ (by first | omega | (simp <;> omega)) _ | refine Below.alloc ?_ (by first | omega | (simp <;> omega)) _ | refine below_drewN ?_ _ | refine Below.drew ?_ | refine Below.trans ?_ (Below.mono (by assumption) (by first | omega | (simp <;> omega)))))
  have hl0 : w.heap.size < W0.heap.size := by rw [← hW0]; simp
  have Z := hide (show (W0.cell? ⟨w.heap.size, 0, none⟩ = some (.int .i64 0) ∧ W0.cell? ⟨w.heap.size, 1, none⟩ = some (.slice none 0 0) ∧ W0.cell? ⟨w.heap.size, 2, none⟩ = some (.slice none 0 0)) ∧ W0.frozen? ⟨w.heap.size, 0, none⟩ = false ∧ W0.frozen? ⟨w.heap.size, 1, none⟩ = false ∧ W0.frozen? ⟨w.heap.size, 2, none⟩ = false by rw [← hW0]; exact ⟨⟨by simp [go_sem], by simp [go_sem], by simp [go_sem]⟩, by simp [go_sem], by simp [go_sem], by simp [go_sem]⟩)
  rw [hW0]
  clear hW0
  refine (l01New_any _ bs _ ((RdB.keep HR.out hb0 (Nat.le_refl _)).mono hb0.size) HBY.out HN.out).mono ?_
  rintro e w2 ⟨g, rfl, hg, hcur, hb2⟩
  have HC := hide hcur; clear hcur
  have hs2 := hb2.size
  go_wp2_with fail
  refine (l03Draw_any _ g _ bs _ HC.out).mono ?_
  rintro e w3 ⟨m0, at_, vp, vs, ps, ss, rfl, hm0, hpl, hps, hsl, hat, hsu, hop, hos, hcur, hw3⟩
  have hb3 := hb2.trans (hw3.below hg hs2)
  have r0 := cellKeep hb3 (Z.out.1.1) hl0
  have r1 := cellKeep hb3 (Z.out.1.2.1) hl0
  have r2 := cellKeep hb3 (Z.out.1.2.2) hl0
  have t0 := frozenKeep hb3 (Z.out.2.1) hl0
  have t1 := frozenKeep hb3 (Z.out.2.2.1) hl0
  have t2 := frozenKeep hb3 (Z.out.2.2.2) hl0
  have hb4 := hb0.trans (hb3.mono hb0.size)
  have hwx : w.heap.size < w3.heap.size := Nat.lt_of_lt_of_le hl0 hb3.size
  have hw0 := hb0.size
  have hok := fore_ok hm0 hpl hps hsl hat hsu
  have HP := hide hop; have HS := hide hos
  have HOK := hide hok
  obtain ⟨A1, c1, rfl, -, -, -⟩ := Own.rd PartD.enc_len hop
  obtain ⟨A2, c2, rfl, -, -, -⟩ := Own.rd SurgeD.enc_len hos
  clear hcur hop hos hm0 hpl hps hsl hat hsu hok
  go_wp2
  refine bodyPost_ret (v := .agg #[.int .i64 m0, .slice A1 ps.length c1, .slice A2 ss.length c2]) (by simp [results, Try.results8, go_sem, r0, r1, r2]) rfl ⟨_, _, ⟨m0, ps, ss⟩, rfl, HOK.out, ⟨?_, ?_⟩, (by repeat (first | exact Below.refl _ _ | assumption | refine Below.setCell ?_ (by first | omega | (simp <;> omega)) _ | refine Below.alloc ?_ (by first | omega | (simp <;> omega)) _ | refine below_drewN ?_ _ | refine Below.drew ?_ | refine Below.trans ?_ (Below.mono (by assumption) (by first | omega | (simp <;> omega)))))⟩
  · refine Own.rd PartD.enc_len (base := w2.heap.size) (T := 151) ?_
    refine Own.setFar (Own.setFar (Own.setFar HP.out ?_ _) ?_ _) ?_ _
    all_goals (intro e; have := (World.ownsRow.lt HP.out _ e).1; simp at this; omega)
  · refine Own.rd SurgeD.enc_len (base := w2.heap.size) (T := 119) ?_
    refine Own.setFar (Own.setFar (Own.setFar HS.out ?_ _) ?_ _) ?_ _
    all_goals (intro e; have := (World.ownsRow.lt HS.out _ e).1; simp at this; omega)
def MkChartRes (w : World) (e : Ending) (w' : World) : Prop := ∃ (v1 v2 : Value) (c : ChartD), e = .returned (.agg #[v1, v2]) ∧ ChartIs c ∧ RdChart w' w'.heap.size v1 v2 c ∧ Below w.heap.size w w'
set_option maxRecDepth 100000 in
set_option maxHeartbeats 8000000 in
theorem MakeChart_any (v : Value) (bs : List Int) (n : Nat) (w : World) (h : RdB w w.heap.size 1 enc8 v bs) (hby : Byt bs) (hn : bs.length ≤ 1048576) (hn2 : n ≤ 100000) :
    Calls Try.prog 9 #[v, .int .i64 n] w (MkChartRes w) := by
  have HR := hide h; have HBY := hide hby; have HN := hide hn; clear hby hn
  obtain ⟨A0, cc0, rfl, hc0, hm0, -⟩ := h
  go_enter Try.func9, Try.ntmps9
  go_wp2_with fail
  obtain ⟨W0, hW0⟩ : ∃ W, w.alloc (.cells #[.slice none 0 0, .slice none 0 0] 33) = W := ⟨_, rfl⟩
  have hb0 : Below w.heap.size w W0 := by rw [← hW0]; exact (by repeat (first | exact Below.refl _ _ | assumption | refine Below.setCell ?_ (by first | omega | (simp <;> omega)) _ | refine Below.alloc ?_ (by first | omega | (simp <;> omega)) _ | refine below_drewN ?_ _ | refine Below.drew ?_ | refine Below.trans ?_ (Below.mono (by assumption) (by first | omega | (simp <;> omega)))))
  have hl0 : w.heap.size < W0.heap.size := by rw [← hW0]; simp
  have Z := hide (show (W0.cell? ⟨w.heap.size, 0, none⟩ = some (.slice none 0 0) ∧ W0.cell? ⟨w.heap.size, 1, none⟩ = some (.slice none 0 0)) ∧ W0.frozen? ⟨w.heap.size, 0, none⟩ = false ∧ W0.frozen? ⟨w.heap.size, 1, none⟩ = false by rw [← hW0]; exact ⟨⟨by simp [go_sem], by simp [go_sem]⟩, by simp [go_sem], by simp [go_sem]⟩)
  rw [hW0]
  clear hW0
  refine (l28New_any _ bs n _ ((RdB.keep HR.out hb0 (Nat.le_refl _)).mono hb0.size) HBY.out HN.out hn2).mono ?_
  rintro e w2 ⟨g, rfl, hg, hcur, hb2⟩
  have HC := hide hcur; clear hcur
  have hs2 := hb2.size
  go_wp2_with fail
  refine (l05Draw_any _ g _ bs _ HC.out).mono ?_
  rintro e w3 ⟨vp, vs, c, rfl, hci, hop, hos, hcur, hw3⟩
  have hb3 := hb2.trans (hw3.below hg hs2)
  have r0 := cellKeep hb3 (Z.out.1.1) hl0
  have r1 := cellKeep hb3 (Z.out.1.2) hl0
  have t0 := frozenKeep hb3 (Z.out.2.1) hl0
  have t1 := frozenKeep hb3 (Z.out.2.2) hl0
  have hb4 := hb0.trans (hb3.mono hb0.size)
  have hwx : w.heap.size < w3.heap.size := Nat.lt_of_lt_of_le hl0 hb3.size
  have hw0 := hb0.size
  have HP := hide hop; have HS := hide hos
  have HCI := hide hci
  obtain ⟨A1, c1, rfl, -, -, -⟩ := Own.rd PointD.enc_len hop
  obtain ⟨A2, c2, rfl, -, -, -⟩ := Own.rd SegmentD.enc_len hos
  clear hcur hop hos hci
  go_wp2
  refine bodyPost_ret (v := .agg #[.slice A1 c.points.length c1, .slice A2 c.segs.length c2]) (by simp [results, Try.results9, go_sem, r0, r1]) rfl ⟨_, _, c, rfl, HCI.out, ⟨?_, ?_⟩, (by repeat (first | exact Below.refl _ _ | assumption | refine Below.setCell ?_ (by first | omega | (simp <;> omega)) _ | refine Below.alloc ?_ (by first | omega | (simp <;> omega)) _ | refine below_drewN ?_ _ | refine Below.drew ?_ | refine Below.trans ?_ (Below.mono (by assumption) (by first | omega | (simp <;> omega)))))⟩
  · refine Own.rd PointD.enc_len (base := w2.heap.size) (T := 123) ?_
    refine Own.setFar (Own.setFar HP.out ?_ _) ?_ _
    all_goals (intro e; have := (World.ownsRow.lt HP.out _ e).1; simp at this; omega)
  · refine Own.rd SegmentD.enc_len (base := w2.heap.size) (T := 49) ?_
    refine Own.setFar (Own.setFar HS.out ?_ _) ?_ _
    all_goals (intro e; have := (World.ownsRow.lt HS.out _ e).1; simp at this; omega)
def MkShipRes (w : World) (e : Ending) (w' : World) : Prop := ∃ s : ShipD, e = .returned s.val ∧ shipOk s = true ∧ s.name.size ≤ maxLen ∧ Below w.heap.size w w'
set_option maxRecDepth 100000 in
set_option maxHeartbeats 8000000 in
theorem MakeShip_any (v : Value) (bs : List Int) (n : Nat) (w : World) (h : RdB w w.heap.size 1 enc8 v bs) (hby : Byt bs) (hn : bs.length ≤ 1048576) (hn2 : n ≤ 100000) :
    Calls Try.prog 10 #[v, .int .i64 n] w (MkShipRes w) := by
  have HR := hide h; have HBY := hide hby; have HN := hide hn; clear hby hn
  obtain ⟨A0, cc0, rfl, hc0, hm0, -⟩ := h
  go_enter Try.func10, Try.ntmps10
  go_wp2_with fail
  obtain ⟨W0, hW0⟩ : ∃ W, w.alloc (.cells #[.string ⟨#[]⟩, .int .i64 0, .int .i64 0, .int .i64 0, .int .i64 0, .bool false] 36) = W := ⟨_, rfl⟩
  have hb0 : Below w.heap.size w W0 := by rw [← hW0]; exact (by repeat (first | exact Below.refl _ _ | assumption | refine Below.setCell ?_ (by first | omega | (simp <;> omega)) _ | refine Below.alloc ?_ (by first | omega | (simp <;> omega)) _ | refine below_drewN ?_ _ | refine Below.drew ?_ | refine Below.trans ?_ (Below.mono (by assumption) (by first | omega | (simp <;> omega)))))
  have hl0 : w.heap.size < W0.heap.size := by rw [← hW0]; simp
  have Z := hide (show (W0.cell? ⟨w.heap.size, 0, none⟩ = some (.string ⟨#[]⟩) ∧ W0.cell? ⟨w.heap.size, 1, none⟩ = some (.int .i64 0) ∧ W0.cell? ⟨w.heap.size, 2, none⟩ = some (.int .i64 0) ∧ W0.cell? ⟨w.heap.size, 3, none⟩ = some (.int .i64 0) ∧ W0.cell? ⟨w.heap.size, 4, none⟩ = some (.int .i64 0) ∧ W0.cell? ⟨w.heap.size, 5, none⟩ = some (.bool false)) ∧ W0.frozen? ⟨w.heap.size, 0, none⟩ = false ∧ W0.frozen? ⟨w.heap.size, 1, none⟩ = false ∧ W0.frozen? ⟨w.heap.size, 2, none⟩ = false ∧ W0.frozen? ⟨w.heap.size, 3, none⟩ = false ∧ W0.frozen? ⟨w.heap.size, 4, none⟩ = false ∧ W0.frozen? ⟨w.heap.size, 5, none⟩ = false by rw [← hW0]; exact ⟨⟨by simp [go_sem], by simp [go_sem], by simp [go_sem], by simp [go_sem], by simp [go_sem], by simp [go_sem]⟩, by simp [go_sem], by simp [go_sem], by simp [go_sem], by simp [go_sem], by simp [go_sem], by simp [go_sem]⟩)
  rw [hW0]
  clear hW0
  refine (l28New_any _ bs n _ ((RdB.keep HR.out hb0 (Nat.le_refl _)).mono hb0.size) HBY.out HN.out hn2).mono ?_
  rintro e w2 ⟨g, rfl, hg, hcur, hb2⟩
  have HC := hide hcur; clear hcur
  have hs2 := hb2.size
  go_wp2_with fail
  refine (l06Ship_any _ g _ bs 0 (by omega) _ HC.out).mono ?_
  rintro e w3 ⟨x1, x2, x3, x4, x5, rfl, a0, a1, a2, a3, a4, a5, a6, a7, hcur, hw3⟩
  have hb3 := hb2.trans (hw3.below hg hs2)
  have r0 := cellKeep hb3 (Z.out.1.1) hl0
  have r1 := cellKeep hb3 (Z.out.1.2.1) hl0
  have r2 := cellKeep hb3 (Z.out.1.2.2.1) hl0
  have r3 := cellKeep hb3 (Z.out.1.2.2.2.1) hl0
  have r4 := cellKeep hb3 (Z.out.1.2.2.2.2.1) hl0
  have r5 := cellKeep hb3 (Z.out.1.2.2.2.2.2) hl0
  have t0 := frozenKeep hb3 (Z.out.2.1) hl0
  have t1 := frozenKeep hb3 (Z.out.2.2.1) hl0
  have t2 := frozenKeep hb3 (Z.out.2.2.2.1) hl0
  have t3 := frozenKeep hb3 (Z.out.2.2.2.2.1) hl0
  have t4 := frozenKeep hb3 (Z.out.2.2.2.2.2.1) hl0
  have t5 := frozenKeep hb3 (Z.out.2.2.2.2.2.2) hl0
  have hb4 := hb0.trans (hb3.mono hb0.size)
  have hwx : w.heap.size < w3.heap.size := Nat.lt_of_lt_of_le hl0 hb3.size
  have hw0 := hb0.size
  have hok : shipOk ⟨shipNm 0, x1, x2, x3, x4, x5⟩ = true := by
    unfold shipOk
    simp only
    rw [shipNm_name 0 (by omega)]
    simp only [inB, Bool.true_and, Bool.and_eq_true, decide_eq_true_eq]
    omega
  have hsz : (shipNm 0).size ≤ maxLen := by rw [shipNm_size 0 (by omega)]; unfold maxLen; omega
  have HOK := hide hok; have HSZ := hide hsz
  clear hcur hok hsz
  generalize shipNm 0 = nm at *
  go_wp2
  refine bodyPost_ret (v := .agg #[.string nm, .int .i64 x1, .int .i64 x2, .int .i64 x3, .int .i64 x4, .bool x5]) (by simp [results, Try.results10, go_sem, r0, r1, r2, r3, r4, r5]) rfl ⟨⟨nm, x1, x2, x3, x4, x5⟩, rfl, HOK.out, HSZ.out, (by repeat (first | exact Below.refl _ _ | assumption | refine Below.setCell ?_ (by first | omega | (simp <;> omega)) _ | refine Below.alloc ?_ (by first | omega | (simp <;> omega)) _ | refine below_drewN ?_ _ | refine Below.drew ?_ | refine Below.trans ?_ (Below.mono (by assumption) (by first | omega | (simp <;> omega)))))⟩
end Go.Proofs.Ytpbcbdjjpkenjaa
