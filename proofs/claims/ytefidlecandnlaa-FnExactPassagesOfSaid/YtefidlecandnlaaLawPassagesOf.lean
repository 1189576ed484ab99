/- The law FnExactPassagesOf: for every input it returns true and leaves its arguments as they were. No condition. -/
import Derived.Test.YtefidlecandnlaaPaso2
import Derived.Test.YtefidlecandnlaaChartM
import Derived.Test.YtefidlecandnlaaLaw2
namespace Go.Proofs.Ytefidlecandnlaa
open Go.RowKit Go.WideShapes Go.ChangeShapes Go.ChangeAt Go.Joins Go.Deep
set_option linter.unusedVariables false
set_option maxRecDepth 100000 in
set_option maxHeartbeats 4000000 in
theorem FnExactPassagesOf_walk (w : World) (vc1 vc2 : Value) (c : ChartD) (rc : RdChart w w.heap.size vc1 vc2 c) (hokc : ∀ x ∈ c.points, x.name.size ≤ maxLen) (hoksc : ∀ x ∈ c.segs, x.ok) (n : Int) (hwn : (Lit.int .i64 n).wf = true) (s : ShipD) (hoks : s.ok) (p : Int) (hwp : (Lit.int .i64 p).wf = true) (va : Value) (a : List Int) (ra : RdI w va a) (hoka : ∀ x ∈ a, (Lit.int .i64 x).wf = true) (vb : Value) (b : List Int) (rb : RdI w vb b) (hokb : ∀ x ∈ b, (Lit.int .i64 x).wf = true) :
    Calls Try.prog 13 #[.agg #[vc1, vc2], .int .i64 n, s.val, .int .i64 p, va, vb] w fun e w' => e = .returned (.bool true) ∧ Below w.heap.size w w' := by
  obtain ⟨Ac, cc, Bc, dc, rfl, rfl⟩ : ∃ Az cz Bz dz, vc1 = .slice Az c.points.length cz ∧ vc2 = .slice Bz c.segs.length dz := by obtain ⟨⟨Az, cz, h, _⟩, ⟨Bz, dz, h2, _⟩⟩ := rc; exact ⟨Az, cz, Bz, dz, h, h2⟩
  obtain ⟨Aa, ca, rfl, hca, hma, hha⟩ : ∃ Az cz, va = .slice Az a.length cz ∧ a.length ≤ cz ∧ cz ≤ maxLen ∧ RdI w (.slice Az a.length cz) a := by obtain ⟨Az, cz, rfl, hc, hm, h⟩ := ra; exact ⟨Az, cz, rfl, hc, hm, ⟨Az, cz, rfl, hc, hm, h⟩⟩
  unfold maxLen at hma
  replace ra := hha; clear hha
  obtain ⟨Ab, cb, rfl, hcb, hmb, hhb⟩ : ∃ Az cz, vb = .slice Az b.length cz ∧ b.length ≤ cz ∧ cz ≤ maxLen ∧ RdI w (.slice Az b.length cz) b := by obtain ⟨Az, cz, rfl, hc, hm, h⟩ := rb; exact ⟨Az, cz, rfl, hc, hm, ⟨Az, cz, rfl, hc, hm, h⟩⟩
  unfold maxLen at hmb
  replace rb := hhb; clear hhb
  go_enter Try.func13, Try.ntmps13
  by_cases hbiga : (1048576 : Int) < (a.length : Int)
  · go_wp2_with fail
    go_ret
    exact ⟨rfl, (by repeat (first | exact Below.refl _ _ | assumption | refine Below.setCell ?_ (by first | omega | (simp <;> omega)) _ | refine Below.alloc ?_ (by first | omega | (simp <;> omega)) _ | refine below_drewN ?_ _ | refine Below.drew ?_ | refine Below.trans ?_ (Below.mono (by assumption) (by first | omega | (simp <;> omega)))))⟩
  have hbiga' : (a.length : Int) ≤ 1048576 := by omega
  have hlena : a.length ≤ 1048576 := by omega
  clear hbiga
  by_cases hbigb : (1048576 : Int) < (b.length : Int)
  · go_wp2_with fail
    go_ret
    exact ⟨rfl, (by repeat (first | exact Below.refl _ _ | assumption | refine Below.setCell ?_ (by first | omega | (simp <;> omega)) _ | refine Below.alloc ?_ (by first | omega | (simp <;> omega)) _ | refine below_drewN ?_ _ | refine Below.drew ?_ | refine Below.trans ?_ (Below.mono (by assumption) (by first | omega | (simp <;> omega)))))⟩
  have hbigb' : (b.length : Int) ≤ 1048576 := by omega
  have hlenb : b.length ≤ 1048576 := by omega
  clear hbigb
  go_wp2_with fail
  generalize hW0 : ((w.alloc (.cells #[.slice Ac c.points.length cc, .slice Bc c.segs.length dc] 25)).alloc (.cells #[.string s.name, .int .i64 s.length, .int .i64 s.draught, .int .i64 s.line, .int .i64 s.tugs, .bool s.slow] 27)) = W0
  have hB0 : Below w.heap.size w W0 := by rw [← hW0]; exact (by repeat (first | exact Below.refl _ _ | assumption | refine Below.setCell ?_ (by first | omega | (simp <;> omega)) _ | refine Below.alloc ?_ (by first | omega | (simp <;> omega)) _ | refine below_drewN ?_ _ | refine Below.drew ?_ | refine Below.trans ?_ (Below.mono (by assumption) (by first | omega | (simp <;> omega)))))
  have hl0 : w.heap.size < W0.heap.size := by rw [← hW0]; simp <;> omega
  have hx0_0 : W0.cell? ⟨w.heap.size, 0, none⟩ = some (.slice Ac c.points.length cc) := by rw [← hW0]; simp [go_sem]
  have hx0_1 : W0.cell? ⟨w.heap.size, 1, none⟩ = some (.slice Bc c.segs.length dc) := by rw [← hW0]; simp [go_sem]
  have hl1 : w.heap.size + 1 < W0.heap.size := by rw [← hW0]; simp <;> omega
  have hx1_0 : W0.cell? ⟨w.heap.size + 1, 0, none⟩ = some (.string s.name) := by rw [← hW0]; simp [go_sem]
  have hx1_1 : W0.cell? ⟨w.heap.size + 1, 1, none⟩ = some (.int .i64 s.length) := by rw [← hW0]; simp [go_sem]
  have hx1_2 : W0.cell? ⟨w.heap.size + 1, 2, none⟩ = some (.int .i64 s.draught) := by rw [← hW0]; simp [go_sem]
  have hx1_3 : W0.cell? ⟨w.heap.size + 1, 3, none⟩ = some (.int .i64 s.line) := by rw [← hW0]; simp [go_sem]
  have hx1_4 : W0.cell? ⟨w.heap.size + 1, 4, none⟩ = some (.int .i64 s.tugs) := by rw [← hW0]; simp [go_sem]
  have hx1_5 : W0.cell? ⟨w.heap.size + 1, 5, none⟩ = some (.bool s.slow) := by rw [← hW0]; simp [go_sem]
  have s0 := hB0.size
  clear hW0
  replace rc := rc.keep hB0 (by omega)
  replace ra := ra.keep hB0 (by omega)
  replace rb := rb.keep hB0 (by omega)
  have hBB0 := Below.refl W0.heap.size W0
  obtain ⟨hc0, hf0⟩ := bcell hBB0
  go_wp2_with fail
  refine (szChart_any _ _ c 1048576 _ (rc.mono (by omega)) hokc (by omega) (by omega)).mono ?_; rintro e w1 ⟨z1, rfl, hz1, hm1, hb1⟩
  have s1 := hb1.size
  replace rc := rc.keep hb1 (by omega)
  replace ra := ra.keep hb1 (by omega)
  replace rb := rb.keep hb1 (by omega)
  have hB1 := bnext hB0 hb1 (Nat.le_refl _)
  have hBB0_1 := bnext hBB0 hb1 (Nat.le_refl _)
  clear hc0 hf0; obtain ⟨hc0, hf0⟩ := bcell hBB0_1
  have hm0_0 : w.heap.size < w1.heap.size := by omega
  have hm0_1 : w.heap.size + 1 < w1.heap.size := by omega
  by_cases hn1 : z1 < 0
  · clear hz1
    go_wp2_with fail
    go_ret
    exact ⟨rfl, hB1⟩
  obtain ⟨p1, q1⟩ := hz1 (by omega)
  have hpc : c.points.length ≤ 1048576 := by omega
  have hsc : c.segs.length ≤ 1048576 := by omega
  go_wp2_with fail
  refine (szShip_any s.name s.length s.draught s.line s.tugs s.slow z1 _ (ShipD.ok_size hoks) (by omega) (by omega)).mono ?_; rintro e w2 ⟨z2, rfl, hz2, hm2, hb2⟩
  have s2 := hb2.size
  replace rc := rc.keep hb2 (by omega)
  replace ra := ra.keep hb2 (by omega)
  replace rb := rb.keep hb2 (by omega)
  have hB2 := bnext hB1 hb2 (Nat.le_refl _)
  have hBB0_2 := bnext hBB0_1 hb2 (Nat.le_refl _)
  clear hc0 hf0; obtain ⟨hc0, hf0⟩ := bcell hBB0_2
  have hm0_0 : w.heap.size < w2.heap.size := by omega
  have hm0_1 : w.heap.size + 1 < w2.heap.size := by omega
  by_cases hn2 : z2 < 0
  · clear hz2
    go_wp2_with fail
    go_ret
    exact ⟨rfl, hB2⟩
  obtain ⟨p2, q2⟩ := hz2 (by omega)
  have hLp := pas_len c n s p a b
  have hy0_0_0 : w2.cell? ⟨w.heap.size, 0, none⟩ = some (.slice Ac c.points.length cc) := by rw [hBB0_2.cell (p := ⟨w.heap.size, 0, none⟩) (by omega)]; exact hx0_0
  have hy0_0_1 : w2.cell? ⟨w.heap.size, 1, none⟩ = some (.slice Bc c.segs.length dc) := by rw [hBB0_2.cell (p := ⟨w.heap.size, 1, none⟩) (by omega)]; exact hx0_1
  have hy0_1_0 : w2.cell? ⟨w.heap.size + 1, 0, none⟩ = some (.string s.name) := by rw [hBB0_2.cell (p := ⟨w.heap.size + 1, 0, none⟩) (by omega)]; exact hx1_0
  have hy0_1_1 : w2.cell? ⟨w.heap.size + 1, 1, none⟩ = some (.int .i64 s.length) := by rw [hBB0_2.cell (p := ⟨w.heap.size + 1, 1, none⟩) (by omega)]; exact hx1_1
  have hy0_1_2 : w2.cell? ⟨w.heap.size + 1, 2, none⟩ = some (.int .i64 s.draught) := by rw [hBB0_2.cell (p := ⟨w.heap.size + 1, 2, none⟩) (by omega)]; exact hx1_2
  have hy0_1_3 : w2.cell? ⟨w.heap.size + 1, 3, none⟩ = some (.int .i64 s.line) := by rw [hBB0_2.cell (p := ⟨w.heap.size + 1, 3, none⟩) (by omega)]; exact hx1_3
  have hy0_1_4 : w2.cell? ⟨w.heap.size + 1, 4, none⟩ = some (.int .i64 s.tugs) := by rw [hBB0_2.cell (p := ⟨w.heap.size + 1, 4, none⟩) (by omega)]; exact hx1_4
  have hy0_1_5 : w2.cell? ⟨w.heap.size + 1, 5, none⟩ = some (.bool s.slow) := by rw [hBB0_2.cell (p := ⟨w.heap.size + 1, 5, none⟩) (by omega)]; exact hx1_5
  clear hc0 hf0
  have hlw0 : w.heap.size < w2.heap.size := by omega
  have hlw1 : w.heap.size + 1 < w2.heap.size := by omega
  have urc := rc.mono (show _ ≤ w2.heap.size by omega)
  have ura := ra.mono (show _ ≤ w2.heap.size by omega)
  have urb := rb.mono (show _ ≤ w2.heap.size by omega)
  have hle_a : a.length ≤ 1048576 := by omega
  have hle_b : b.length ≤ 1048576 := by omega
  go_wp2_with fail
  go_region_held3 (fun w' => w'.cell? ⟨w.heap.size, 0, none⟩ = some (.slice Ac c.points.length cc) ∧ w'.cell? ⟨w.heap.size, 1, none⟩ = some (.slice Bc c.segs.length dc) ∧ w'.cell? ⟨w.heap.size + 1, 0, none⟩ = some (.string s.name) ∧ w'.cell? ⟨w.heap.size + 1, 1, none⟩ = some (.int .i64 s.length) ∧ w'.cell? ⟨w.heap.size + 1, 2, none⟩ = some (.int .i64 s.draught) ∧ w'.cell? ⟨w.heap.size + 1, 3, none⟩ = some (.int .i64 s.line) ∧ w'.cell? ⟨w.heap.size + 1, 4, none⟩ = some (.int .i64 s.tugs) ∧ w'.cell? ⟨w.heap.size + 1, 5, none⟩ = some (.bool s.slow) ∧ w.heap.size < w'.heap.size ∧ w.heap.size + 1 < w'.heap.size ∧ Below w2.heap.size w2 w')
    (first | exact ⟨hy0_0_0, hy0_0_1, hy0_1_0, hy0_1_1, hy0_1_2, hy0_1_3, hy0_1_4, hy0_1_5, hlw0, hlw1, Below.drew (Below.refl _ _)⟩ | exact ⟨cellKeepL hb' g0_0_0 hlz0, cellKeepL hb' g0_0_1 hlz0, cellKeepL hb' g0_1_0 hlz1, cellKeepL hb' g0_1_1 hlz1, cellKeepL hb' g0_1_2 hlz1, cellKeepL hb' g0_1_3 hlz1, cellKeepL hb' g0_1_4 hlz1, cellKeepL hb' g0_1_5 hlz1, Nat.lt_of_lt_of_le hlz0 hb'.size, Nat.lt_of_lt_of_le hlz1 hb'.size, hBz⟩ | ((repeat' apply And.intro) <;> first | assumption | omega | (rw [hc _ _ (by omega)]; assumption) | (simp [*]; done) | exact Below.drew (Below.refl _ _)))
    (first | (go_at_call 18; obtain ⟨g0_0_0, g0_0_1, g0_1_0, g0_1_1, g0_1_2, g0_1_3, g0_1_4, g0_1_5, hlz0, hlz1, hBz⟩ := (by with_reducible assumption : _ ∧ _); with_reducible refine (toChart_any _ _ c _ ((urc.keep hBz (Nat.le_refl _)).mono hBz.size) hpc hsc).mono ?_; rintro e wz ⟨gz1, gz2, rfl, hrc, hb'⟩; obtain ⟨hc, hf⟩ := bcell hb'; have hBz := bnext hBz hb' (Nat.le_refl _); (try replace hr0 := Rd.below hr0 hb'); (try replace hr0 := RdChart.below hr0 hb'); (try replace hr1 := Rd.below hr1 hb'); (try replace hr1 := RdChart.below hr1 hb'); (try replace hr2 := Rd.below hr2 hb'); (try replace hr2 := RdChart.below hr2 hb'); have hr0 := hrc) | (go_at_call 19; obtain ⟨g0_0_0, g0_0_1, g0_1_0, g0_1_1, g0_1_2, g0_1_3, g0_1_4, g0_1_5, hlz0, hlz1, hBz⟩ := (by with_reducible assumption : _ ∧ _); with_reducible refine (toShip_any _ _ _ _ _ _ _).mono ?_; rintro e wz ⟨rfl, hb'⟩; obtain ⟨hc, hf⟩ := bcell hb'; have hBz := bnext hBz hb' (Nat.le_refl _); (try replace hr0 := Rd.below hr0 hb'); (try replace hr0 := RdChart.below hr0 hb'); (try replace hr1 := Rd.below hr1 hb'); (try replace hr1 := RdChart.below hr1 hb'); (try replace hr2 := Rd.below hr2 hb'); (try replace hr2 := RdChart.below hr2 hb')) | (go_at_call 31; obtain ⟨g0_0_0, g0_0_1, g0_1_0, g0_1_1, g0_1_2, g0_1_3, g0_1_4, g0_1_5, hlz0, hlz1, hBz⟩ := (by with_reducible assumption : _ ∧ _); with_reducible refine (toIntS_at _ a _ ((ura.keep hBz (Nat.le_refl _)).mono hBz.size) hle_a).mono ?_; rintro e wz ⟨rfl, ho, hb'⟩; obtain ⟨hc, hf⟩ := bcell hb'; have hBz := bnext hBz hb' (Nat.le_refl _); (try replace hr0 := Rd.below hr0 hb'); (try replace hr0 := RdChart.below hr0 hb'); (try replace hr1 := Rd.below hr1 hb'); (try replace hr1 := RdChart.below hr1 hb'); (try replace hr2 := Rd.below hr2 hb'); (try replace hr2 := RdChart.below hr2 hb'); have hr1 := Own.rd encI_len ho) | (go_at_call 31; obtain ⟨g0_0_0, g0_0_1, g0_1_0, g0_1_1, g0_1_2, g0_1_3, g0_1_4, g0_1_5, hlz0, hlz1, hBz⟩ := (by with_reducible assumption : _ ∧ _); with_reducible refine (toIntS_at _ b _ ((urb.keep hBz (Nat.le_refl _)).mono hBz.size) hle_b).mono ?_; rintro e wz ⟨rfl, ho, hb'⟩; obtain ⟨hc, hf⟩ := bcell hb'; have hBz := bnext hBz hb' (Nat.le_refl _); (try replace hr0 := Rd.below hr0 hb'); (try replace hr0 := RdChart.below hr0 hb'); (try replace hr1 := Rd.below hr1 hb'); (try replace hr1 := RdChart.below hr1 hb'); (try replace hr2 := Rd.below hr2 hb'); (try replace hr2 := RdChart.below hr2 hb'); have hr2 := Own.rd encI_len ho) | (go_at_call 50; obtain ⟨g0_0_0, g0_0_1, g0_1_0, g0_1_1, g0_1_2, g0_1_3, g0_1_4, g0_1_5, hlz0, hlz1, hBz⟩ := (by with_reducible assumption : _ ∧ _); with_reducible refine (spec_PassagesOf_any _ _ _ _ c n s p a b _ hr0 hr1 hr2 hlena hokc (ShipD.ok_size hoks)).mono ?_; rintro e wz ⟨vx, rfl, hPas, hb'⟩; obtain ⟨hc, hf⟩ := bcell hb'; have hBz := bnext hBz hb' (Nat.le_refl _); (try replace hr0 := Rd.below hr0 hb'); (try replace hr0 := RdChart.below hr0 hb'); (try replace hr1 := Rd.below hr1 hb'); (try replace hr1 := RdChart.below hr1 hb'); (try replace hr2 := Rd.below hr2 hb'); (try replace hr2 := RdChart.below hr2 hb')))
  rename World => w3
  have hb3 := hBz
  clear hc hf hBz urc ura urb hle_a hle_b
  have s3 := hb3.size
  replace rc := rc.keep hb3 (by omega)
  replace ra := ra.keep hb3 (by omega)
  replace rb := rb.keep hb3 (by omega)
  have hB3 := bnext hB2 hb3 (Nat.le_refl _)
  have hBB0_3 := bnext hBB0_2 hb3 (Nat.le_refl _)
  obtain ⟨hc0, hf0⟩ := bcell hBB0_3
  have hm0_0 : w.heap.size < w3.heap.size := by omega
  have hm0_1 : w.heap.size + 1 < w3.heap.size := by omega
  have rx := Own.rd PassageD.enc_len hPas
  clear hPas
  go_wp2_with fail
  refine (toChartO_any _ _ c _ (rc.mono (by omega)) hpc hsc).mono ?_; rintro e w4 ⟨g1d, g2d, rfl, hoP4, hoS4, hb4⟩
  have s4 := hb4.size
  replace rc := rc.keep hb4 (by omega)
  replace ra := ra.keep hb4 (by omega)
  replace rb := rb.keep hb4 (by omega)
  replace rx := rx.keep hb4 (by omega)
  have hB4 := bnext hB3 hb4 (Nat.le_refl _)
  have hBB0_4 := bnext hBB0_3 hb4 (Nat.le_refl _)
  clear hc0 hf0; obtain ⟨hc0, hf0⟩ := bcell hBB0_4
  have hm0_0 : w.heap.size < w4.heap.size := by omega
  have hm0_1 : w.heap.size + 1 < w4.heap.size := by omega
  have odp := hoP4.b
  have ods := hoS4.b
  have rd : RdChart _ _ _ _ c := ⟨odp.rdB PointD.enc_len, ods.rdB SegmentD.enc_len⟩
  clear hoP4 hoS4
  go_wp2_with fail
  generalize hW5 : w4.alloc (.cells #[.slice (some ⟨g1d, 0, none⟩) c.points.length c.points.length, .slice (some ⟨g2d, 0, none⟩) c.segs.length c.segs.length] 34) = w5
  have hb5 : Below w4.heap.size w4 w5 := by rw [← hW5]; exact (Below.refl _ _).alloc (Nat.le_refl _) _
  have hl1x : w4.heap.size < w5.heap.size := by rw [← hW5]; simp
  have hz1_0 : w5.cell? ⟨w4.heap.size, 0, none⟩ = some (.slice (some ⟨g1d, 0, none⟩) c.points.length c.points.length) := by rw [← hW5]; simp [go_sem]
  have hz1_1 : w5.cell? ⟨w4.heap.size, 1, none⟩ = some (.slice (some ⟨g2d, 0, none⟩) c.segs.length c.segs.length) := by rw [← hW5]; simp [go_sem]
  clear hW5
  have s5 := hb5.size
  replace rc := rc.keep hb5 (by omega)
  replace ra := ra.keep hb5 (by omega)
  replace rb := rb.keep hb5 (by omega)
  replace rx := rx.keep hb5 (by omega)
  replace rd := rd.keep hb5 (by omega)
  replace odp := odp.keep hb5 (by omega)
  replace ods := ods.keep hb5 (by omega)
  have hB5 := bnext hB4 hb5 (Nat.le_refl _)
  have hBB0_5 := bnext hBB0_4 hb5 (Nat.le_refl _)
  clear hc0 hf0; obtain ⟨hc0, hf0⟩ := bcell hBB0_5
  have hm0_0 : w.heap.size < w5.heap.size := by omega
  have hm0_1 : w.heap.size + 1 < w5.heap.size := by omega
  have hBB1 := Below.refl w5.heap.size w5
  obtain ⟨hc1, hf1⟩ := bcell hBB1
  go_wp2_with fail
  refine (toIntS_any _ _ _ (ra.mono (by omega)) (by omega)).mono ?_; rintro e w6 ⟨v6, rfl, ho6, hb6⟩
  have s6 := hb6.size
  replace rc := rc.keep hb6 (by omega)
  replace ra := ra.keep hb6 (by omega)
  replace rb := rb.keep hb6 (by omega)
  replace rx := rx.keep hb6 (by omega)
  replace rd := rd.keep hb6 (by omega)
  replace odp := odp.keep hb6 (by omega)
  replace ods := ods.keep hb6 (by omega)
  have hB6 := bnext hB5 hb6 (Nat.le_refl _)
  have hBB0_6 := bnext hBB0_5 hb6 (Nat.le_refl _)
  clear hc0 hf0; obtain ⟨hc0, hf0⟩ := bcell hBB0_6
  have hm0_0 : w.heap.size < w6.heap.size := by omega
  have hm0_1 : w.heap.size + 1 < w6.heap.size := by omega
  have hBB1_6 := bnext hBB1 hb6 (Nat.le_refl _)
  clear hc1 hf1; obtain ⟨hc1, hf1⟩ := bcell hBB1_6
  have hm1_0 : w4.heap.size < w6.heap.size := by omega
  have oe := ho6.b
  have re := oe.rdB encI_len
  clear ho6
  go_wp2_with fail
  refine (toIntS_any _ _ _ (rb.mono (by omega)) (by omega)).mono ?_; rintro e w7 ⟨v7, rfl, ho7, hb7⟩
  have s7 := hb7.size
  replace rc := rc.keep hb7 (by omega)
  replace ra := ra.keep hb7 (by omega)
  replace rb := rb.keep hb7 (by omega)
  replace rx := rx.keep hb7 (by omega)
  replace rd := rd.keep hb7 (by omega)
  replace odp := odp.keep hb7 (by omega)
  replace ods := ods.keep hb7 (by omega)
  replace re := re.keep hb7 (by omega)
  replace oe := oe.keep hb7 (by omega)
  have hB7 := bnext hB6 hb7 (Nat.le_refl _)
  have hBB0_7 := bnext hBB0_6 hb7 (Nat.le_refl _)
  clear hc0 hf0; obtain ⟨hc0, hf0⟩ := bcell hBB0_7
  have hm0_0 : w.heap.size < w7.heap.size := by omega
  have hm0_1 : w.heap.size + 1 < w7.heap.size := by omega
  have hBB1_7 := bnext hBB1_6 hb7 (Nat.le_refl _)
  clear hc1 hf1; obtain ⟨hc1, hf1⟩ := bcell hBB1_7
  have hm1_0 : w4.heap.size < w7.heap.size := by omega
  have of := ho7.b
  have rf := of.rdB encI_len
  clear ho7
  have hy0_0_0 : w7.cell? ⟨w.heap.size, 0, none⟩ = some (.slice Ac c.points.length cc) := by rw [hBB0_7.cell (p := ⟨w.heap.size, 0, none⟩) (by omega)]; exact hx0_0
  have hy0_0_1 : w7.cell? ⟨w.heap.size, 1, none⟩ = some (.slice Bc c.segs.length dc) := by rw [hBB0_7.cell (p := ⟨w.heap.size, 1, none⟩) (by omega)]; exact hx0_1
  have hy0_1_0 : w7.cell? ⟨w.heap.size + 1, 0, none⟩ = some (.string s.name) := by rw [hBB0_7.cell (p := ⟨w.heap.size + 1, 0, none⟩) (by omega)]; exact hx1_0
  have hy0_1_1 : w7.cell? ⟨w.heap.size + 1, 1, none⟩ = some (.int .i64 s.length) := by rw [hBB0_7.cell (p := ⟨w.heap.size + 1, 1, none⟩) (by omega)]; exact hx1_1
  have hy0_1_2 : w7.cell? ⟨w.heap.size + 1, 2, none⟩ = some (.int .i64 s.draught) := by rw [hBB0_7.cell (p := ⟨w.heap.size + 1, 2, none⟩) (by omega)]; exact hx1_2
  have hy0_1_3 : w7.cell? ⟨w.heap.size + 1, 3, none⟩ = some (.int .i64 s.line) := by rw [hBB0_7.cell (p := ⟨w.heap.size + 1, 3, none⟩) (by omega)]; exact hx1_3
  have hy0_1_4 : w7.cell? ⟨w.heap.size + 1, 4, none⟩ = some (.int .i64 s.tugs) := by rw [hBB0_7.cell (p := ⟨w.heap.size + 1, 4, none⟩) (by omega)]; exact hx1_4
  have hy0_1_5 : w7.cell? ⟨w.heap.size + 1, 5, none⟩ = some (.bool s.slow) := by rw [hBB0_7.cell (p := ⟨w.heap.size + 1, 5, none⟩) (by omega)]; exact hx1_5
  have hy1_0_0 : w7.cell? ⟨w4.heap.size, 0, none⟩ = some (.slice (some ⟨g1d, 0, none⟩) c.points.length c.points.length) := by rw [hBB1_7.cell (p := ⟨w4.heap.size, 0, none⟩) (by omega)]; exact hz1_0
  have hy1_0_1 : w7.cell? ⟨w4.heap.size, 1, none⟩ = some (.slice (some ⟨g2d, 0, none⟩) c.segs.length c.segs.length) := by rw [hBB1_7.cell (p := ⟨w4.heap.size, 1, none⟩) (by omega)]; exact hz1_1
  clear hc0 hf0 hc1 hf1
  have hlw0 : w.heap.size < w7.heap.size := by omega
  have hlw1 : w.heap.size + 1 < w7.heap.size := by omega
  have hlw2 : w4.heap.size < w7.heap.size := by omega
  have urd := rd.mono (show _ ≤ w7.heap.size by omega)
  have ure := re.mono (show _ ≤ w7.heap.size by omega)
  have urf := rf.mono (show _ ≤ w7.heap.size by omega)
  go_wp2_with fail
  go_region_held3 (fun w' => w'.cell? ⟨w.heap.size, 0, none⟩ = some (.slice Ac c.points.length cc) ∧ w'.cell? ⟨w.heap.size, 1, none⟩ = some (.slice Bc c.segs.length dc) ∧ w'.cell? ⟨w.heap.size + 1, 0, none⟩ = some (.string s.name) ∧ w'.cell? ⟨w.heap.size + 1, 1, none⟩ = some (.int .i64 s.length) ∧ w'.cell? ⟨w.heap.size + 1, 2, none⟩ = some (.int .i64 s.draught) ∧ w'.cell? ⟨w.heap.size + 1, 3, none⟩ = some (.int .i64 s.line) ∧ w'.cell? ⟨w.heap.size + 1, 4, none⟩ = some (.int .i64 s.tugs) ∧ w'.cell? ⟨w.heap.size + 1, 5, none⟩ = some (.bool s.slow) ∧ w'.cell? ⟨w4.heap.size, 0, none⟩ = some (.slice (some ⟨g1d, 0, none⟩) c.points.length c.points.length) ∧ w'.cell? ⟨w4.heap.size, 1, none⟩ = some (.slice (some ⟨g2d, 0, none⟩) c.segs.length c.segs.length) ∧ w.heap.size < w'.heap.size ∧ w.heap.size + 1 < w'.heap.size ∧ w4.heap.size < w'.heap.size ∧ Below w7.heap.size w7 w')
    (first | exact ⟨hy0_0_0, hy0_0_1, hy0_1_0, hy0_1_1, hy0_1_2, hy0_1_3, hy0_1_4, hy0_1_5, hy1_0_0, hy1_0_1, hlw0, hlw1, hlw2, Below.drew (Below.refl _ _)⟩ | exact ⟨cellKeepL hb' g0_0_0 hlz0, cellKeepL hb' g0_0_1 hlz0, cellKeepL hb' g0_1_0 hlz1, cellKeepL hb' g0_1_1 hlz1, cellKeepL hb' g0_1_2 hlz1, cellKeepL hb' g0_1_3 hlz1, cellKeepL hb' g0_1_4 hlz1, cellKeepL hb' g0_1_5 hlz1, cellKeepL hb' g1_0_0 hlz2, cellKeepL hb' g1_0_1 hlz2, Nat.lt_of_lt_of_le hlz0 hb'.size, Nat.lt_of_lt_of_le hlz1 hb'.size, Nat.lt_of_lt_of_le hlz2 hb'.size, hBz⟩ | ((repeat' apply And.intro) <;> first | assumption | omega | (rw [hc _ _ (by omega)]; assumption) | (simp [*]; done) | exact Below.drew (Below.refl _ _)))
    (first | (go_at_call 19; obtain ⟨g0_0_0, g0_0_1, g0_1_0, g0_1_1, g0_1_2, g0_1_3, g0_1_4, g0_1_5, g1_0_0, g1_0_1, hlz0, hlz1, hlz2, hBz⟩ := (by with_reducible assumption : _ ∧ _); with_reducible refine (toShip_any _ _ _ _ _ _ _).mono ?_; rintro e wz ⟨rfl, hb'⟩; obtain ⟨hc, hf⟩ := bcell hb'; have hBz := bnext hBz hb' (Nat.le_refl _)) | (go_at_call 51; obtain ⟨g0_0_0, g0_0_1, g0_1_0, g0_1_1, g0_1_2, g0_1_3, g0_1_4, g0_1_5, g1_0_0, g1_0_1, hlz0, hlz1, hlz2, hBz⟩ := (by with_reducible assumption : _ ∧ _); with_reducible refine (impl_PassagesOf_any _ _ _ _ c n s p a b _ ((urd.keep hBz (Nat.le_refl _)).mono hBz.size) ((ure.keep hBz (Nat.le_refl _)).mono hBz.size) ((urf.keep hBz (Nat.le_refl _)).mono hBz.size) hlena hokc (ShipD.ok_size hoks)).mono ?_; rintro e wz ⟨vy, rfl, hPas, hb'⟩; have hMy := hPas.mono hBz.size; obtain ⟨hc, hf⟩ := bcell hb'; have hBz := bnext hBz hb' (Nat.le_refl _)))
  rename World => w8
  have hb8 := hBz
  clear hc hf hBz urd ure urf
  have s8 := hb8.size
  replace rc := rc.keep hb8 (by omega)
  replace ra := ra.keep hb8 (by omega)
  replace rb := rb.keep hb8 (by omega)
  replace rx := rx.keep hb8 (by omega)
  replace rd := rd.keep hb8 (by omega)
  replace odp := odp.keep hb8 (by omega)
  replace ods := ods.keep hb8 (by omega)
  replace re := re.keep hb8 (by omega)
  replace oe := oe.keep hb8 (by omega)
  replace rf := rf.keep hb8 (by omega)
  replace of := of.keep hb8 (by omega)
  have hB8 := bnext hB7 hb8 (Nat.le_refl _)
  have hBB0_8 := bnext hBB0_7 hb8 (Nat.le_refl _)
  obtain ⟨hc0, hf0⟩ := bcell hBB0_8
  have hm0_0 : w.heap.size < w8.heap.size := by omega
  have hm0_1 : w.heap.size + 1 < w8.heap.size := by omega
  have hBB1_8 := bnext hBB1_7 hb8 (Nat.le_refl _)
  obtain ⟨hc1, hf1⟩ := bcell hBB1_8
  have hm1_0 : w4.heap.size < w8.heap.size := by omega
  clear hPas
  have oy := hMy.b
  have ry := oy.rdB PassageD.enc_len
  clear hMy
  go_wp2_with fail
  refine (eqPassageS_any _ _ _ _ _ (ry.mono (by omega)) (rx.mono (by omega))).mono ?_; rintro e w9 ⟨rfl, hb9⟩
  have s9 := hb9.size
  replace rc := rc.keep hb9 (by omega)
  replace ra := ra.keep hb9 (by omega)
  replace rb := rb.keep hb9 (by omega)
  replace rx := rx.keep hb9 (by omega)
  replace rd := rd.keep hb9 (by omega)
  replace odp := odp.keep hb9 (by omega)
  replace ods := ods.keep hb9 (by omega)
  replace re := re.keep hb9 (by omega)
  replace oe := oe.keep hb9 (by omega)
  replace rf := rf.keep hb9 (by omega)
  replace of := of.keep hb9 (by omega)
  replace ry := ry.keep hb9 (by omega)
  replace oy := oy.keep hb9 (by omega)
  have hB9 := bnext hB8 hb9 (Nat.le_refl _)
  have hBB0_9 := bnext hBB0_8 hb9 (Nat.le_refl _)
  clear hc0 hf0; obtain ⟨hc0, hf0⟩ := bcell hBB0_9
  have hm0_0 : w.heap.size < w9.heap.size := by omega
  have hm0_1 : w.heap.size + 1 < w9.heap.size := by omega
  have hBB1_9 := bnext hBB1_8 hb9 (Nat.le_refl _)
  clear hc1 hf1; obtain ⟨hc1, hf1⟩ := bcell hBB1_9
  have hm1_0 : w4.heap.size < w9.heap.size := by omega
  have hy0_0_0 : w9.cell? ⟨w.heap.size, 0, none⟩ = some (.slice Ac c.points.length cc) := by rw [hBB0_9.cell (p := ⟨w.heap.size, 0, none⟩) (by omega)]; exact hx0_0
  have hy0_0_1 : w9.cell? ⟨w.heap.size, 1, none⟩ = some (.slice Bc c.segs.length dc) := by rw [hBB0_9.cell (p := ⟨w.heap.size, 1, none⟩) (by omega)]; exact hx0_1
  have hy0_1_0 : w9.cell? ⟨w.heap.size + 1, 0, none⟩ = some (.string s.name) := by rw [hBB0_9.cell (p := ⟨w.heap.size + 1, 0, none⟩) (by omega)]; exact hx1_0
  have hy0_1_1 : w9.cell? ⟨w.heap.size + 1, 1, none⟩ = some (.int .i64 s.length) := by rw [hBB0_9.cell (p := ⟨w.heap.size + 1, 1, none⟩) (by omega)]; exact hx1_1
  have hy0_1_2 : w9.cell? ⟨w.heap.size + 1, 2, none⟩ = some (.int .i64 s.draught) := by rw [hBB0_9.cell (p := ⟨w.heap.size + 1, 2, none⟩) (by omega)]; exact hx1_2
  have hy0_1_3 : w9.cell? ⟨w.heap.size + 1, 3, none⟩ = some (.int .i64 s.line) := by rw [hBB0_9.cell (p := ⟨w.heap.size + 1, 3, none⟩) (by omega)]; exact hx1_3
  have hy0_1_4 : w9.cell? ⟨w.heap.size + 1, 4, none⟩ = some (.int .i64 s.tugs) := by rw [hBB0_9.cell (p := ⟨w.heap.size + 1, 4, none⟩) (by omega)]; exact hx1_4
  have hy0_1_5 : w9.cell? ⟨w.heap.size + 1, 5, none⟩ = some (.bool s.slow) := by rw [hBB0_9.cell (p := ⟨w.heap.size + 1, 5, none⟩) (by omega)]; exact hx1_5
  have hy1_0_0 : w9.cell? ⟨w4.heap.size, 0, none⟩ = some (.slice (some ⟨g1d, 0, none⟩) c.points.length c.points.length) := by rw [hBB1_9.cell (p := ⟨w4.heap.size, 0, none⟩) (by omega)]; exact hz1_0
  have hy1_0_1 : w9.cell? ⟨w4.heap.size, 1, none⟩ = some (.slice (some ⟨g2d, 0, none⟩) c.segs.length c.segs.length) := by rw [hBB1_9.cell (p := ⟨w4.heap.size, 1, none⟩) (by omega)]; exact hz1_1
  clear hc0 hf0 hc1 hf1
  have hlw0 : w.heap.size < w9.heap.size := by omega
  have hlw1 : w.heap.size + 1 < w9.heap.size := by omega
  have hlw2 : w4.heap.size < w9.heap.size := by omega
  have urc := rc.mono (show _ ≤ w9.heap.size by omega)
  have urd := rd.mono (show _ ≤ w9.heap.size by omega)
  go_wp2_with fail
  go_region_held3 (fun w' => w'.cell? ⟨w.heap.size, 0, none⟩ = some (.slice Ac c.points.length cc) ∧ w'.cell? ⟨w.heap.size, 1, none⟩ = some (.slice Bc c.segs.length dc) ∧ w'.cell? ⟨w.heap.size + 1, 0, none⟩ = some (.string s.name) ∧ w'.cell? ⟨w.heap.size + 1, 1, none⟩ = some (.int .i64 s.length) ∧ w'.cell? ⟨w.heap.size + 1, 2, none⟩ = some (.int .i64 s.draught) ∧ w'.cell? ⟨w.heap.size + 1, 3, none⟩ = some (.int .i64 s.line) ∧ w'.cell? ⟨w.heap.size + 1, 4, none⟩ = some (.int .i64 s.tugs) ∧ w'.cell? ⟨w.heap.size + 1, 5, none⟩ = some (.bool s.slow) ∧ w'.cell? ⟨w4.heap.size, 0, none⟩ = some (.slice (some ⟨g1d, 0, none⟩) c.points.length c.points.length) ∧ w'.cell? ⟨w4.heap.size, 1, none⟩ = some (.slice (some ⟨g2d, 0, none⟩) c.segs.length c.segs.length) ∧ w.heap.size < w'.heap.size ∧ w.heap.size + 1 < w'.heap.size ∧ w4.heap.size < w'.heap.size ∧ Below w9.heap.size w9 w')
    (first | exact ⟨hy0_0_0, hy0_0_1, hy0_1_0, hy0_1_1, hy0_1_2, hy0_1_3, hy0_1_4, hy0_1_5, hy1_0_0, hy1_0_1, hlw0, hlw1, hlw2, Below.drew (Below.refl _ _)⟩ | exact ⟨cellKeepL hb' g0_0_0 hlz0, cellKeepL hb' g0_0_1 hlz0, cellKeepL hb' g0_1_0 hlz1, cellKeepL hb' g0_1_1 hlz1, cellKeepL hb' g0_1_2 hlz1, cellKeepL hb' g0_1_3 hlz1, cellKeepL hb' g0_1_4 hlz1, cellKeepL hb' g0_1_5 hlz1, cellKeepL hb' g1_0_0 hlz2, cellKeepL hb' g1_0_1 hlz2, Nat.lt_of_lt_of_le hlz0 hb'.size, Nat.lt_of_lt_of_le hlz1 hb'.size, Nat.lt_of_lt_of_le hlz2 hb'.size, hBz⟩ | ((repeat' apply And.intro) <;> first | assumption | omega | (rw [hc _ _ (by omega)]; assumption) | (simp [*]; done) | exact Below.drew (Below.refl _ _)))
    (first | (go_at_call 18; obtain ⟨g0_0_0, g0_0_1, g0_1_0, g0_1_1, g0_1_2, g0_1_3, g0_1_4, g0_1_5, g1_0_0, g1_0_1, hlz0, hlz1, hlz2, hBz⟩ := (by with_reducible assumption : _ ∧ _); with_reducible refine (toChart_any _ _ c _ ((urc.keep hBz (Nat.le_refl _)).mono hBz.size) hpc hsc).mono ?_; rintro e wz ⟨gz1, gz2, rfl, hrc, hb'⟩; obtain ⟨hc, hf⟩ := bcell hb'; have hBz := bnext hBz hb' (Nat.le_refl _); (try replace hr0 := Rd.below hr0 hb'); (try replace hr0 := RdChart.below hr0 hb'); have hr0 := hrc) | (go_at_call 21; obtain ⟨g0_0_0, g0_0_1, g0_1_0, g0_1_1, g0_1_2, g0_1_3, g0_1_4, g0_1_5, g1_0_0, g1_0_1, hlz0, hlz1, hlz2, hBz⟩ := (by with_reducible assumption : _ ∧ _); with_reducible refine (eqChart_any _ _ _ _ c c _ ((urd.keep hBz (Nat.le_refl _)).mono hBz.size) hr0).mono ?_; rintro e wz ⟨rfl, hb'⟩; obtain ⟨hc, hf⟩ := bcell hb'; have hBz := bnext hBz hb' (Nat.le_refl _); (try replace hr0 := Rd.below hr0 hb'); (try replace hr0 := RdChart.below hr0 hb')))
  rename World => w10
  have hb10 := hBz
  clear hc hf hBz urc urd
  have s10 := hb10.size
  replace rc := rc.keep hb10 (by omega)
  replace ra := ra.keep hb10 (by omega)
  replace rb := rb.keep hb10 (by omega)
  replace rx := rx.keep hb10 (by omega)
  replace rd := rd.keep hb10 (by omega)
  replace odp := odp.keep hb10 (by omega)
  replace ods := ods.keep hb10 (by omega)
  replace re := re.keep hb10 (by omega)
  replace oe := oe.keep hb10 (by omega)
  replace rf := rf.keep hb10 (by omega)
  replace of := of.keep hb10 (by omega)
  replace ry := ry.keep hb10 (by omega)
  replace oy := oy.keep hb10 (by omega)
  have hB10 := bnext hB9 hb10 (Nat.le_refl _)
  have hBB0_10 := bnext hBB0_9 hb10 (Nat.le_refl _)
  obtain ⟨hc0, hf0⟩ := bcell hBB0_10
  have hm0_0 : w.heap.size < w10.heap.size := by omega
  have hm0_1 : w.heap.size + 1 < w10.heap.size := by omega
  have hBB1_10 := bnext hBB1_9 hb10 (Nat.le_refl _)
  obtain ⟨hc1, hf1⟩ := bcell hBB1_10
  have hm1_0 : w4.heap.size < w10.heap.size := by omega
  try rw [decide_eq_true rfl]
  go_wp2_with fail
  refine (toIntS_any _ _ _ (ra.mono (by omega)) (by omega)).mono ?_; rintro e w11 ⟨v11, rfl, ho11, hb11⟩
  have s11 := hb11.size
  replace rc := rc.keep hb11 (by omega)
  replace ra := ra.keep hb11 (by omega)
  replace rb := rb.keep hb11 (by omega)
  replace rx := rx.keep hb11 (by omega)
  replace rd := rd.keep hb11 (by omega)
  replace odp := odp.keep hb11 (by omega)
  replace ods := ods.keep hb11 (by omega)
  replace re := re.keep hb11 (by omega)
  replace oe := oe.keep hb11 (by omega)
  replace rf := rf.keep hb11 (by omega)
  replace of := of.keep hb11 (by omega)
  replace ry := ry.keep hb11 (by omega)
  replace oy := oy.keep hb11 (by omega)
  have hB11 := bnext hB10 hb11 (Nat.le_refl _)
  have hBB0_11 := bnext hBB0_10 hb11 (Nat.le_refl _)
  clear hc0 hf0; obtain ⟨hc0, hf0⟩ := bcell hBB0_11
  have hm0_0 : w.heap.size < w11.heap.size := by omega
  have hm0_1 : w.heap.size + 1 < w11.heap.size := by omega
  have hBB1_11 := bnext hBB1_10 hb11 (Nat.le_refl _)
  clear hc1 hf1; obtain ⟨hc1, hf1⟩ := bcell hBB1_11
  have hm1_0 : w4.heap.size < w11.heap.size := by omega
  have og := ho11.b
  have rg := og.rdB encI_len
  clear ho11
  clear og
  go_wp2_with fail
  refine (eqIntS_any _ _ _ _ _ (re.mono (by omega)) (rg.mono (by omega))).mono ?_; rintro e w12 ⟨rfl, hb12⟩
  have s12 := hb12.size
  replace rc := rc.keep hb12 (by omega)
  replace ra := ra.keep hb12 (by omega)
  replace rb := rb.keep hb12 (by omega)
  replace rx := rx.keep hb12 (by omega)
  replace rd := rd.keep hb12 (by omega)
  replace odp := odp.keep hb12 (by omega)
  replace ods := ods.keep hb12 (by omega)
  replace re := re.keep hb12 (by omega)
  replace oe := oe.keep hb12 (by omega)
  replace rf := rf.keep hb12 (by omega)
  replace of := of.keep hb12 (by omega)
  replace ry := ry.keep hb12 (by omega)
  replace oy := oy.keep hb12 (by omega)
  replace rg := rg.keep hb12 (by omega)
  have hB12 := bnext hB11 hb12 (Nat.le_refl _)
  have hBB0_12 := bnext hBB0_11 hb12 (Nat.le_refl _)
  clear hc0 hf0; obtain ⟨hc0, hf0⟩ := bcell hBB0_12
  have hm0_0 : w.heap.size < w12.heap.size := by omega
  have hm0_1 : w.heap.size + 1 < w12.heap.size := by omega
  have hBB1_12 := bnext hBB1_11 hb12 (Nat.le_refl _)
  clear hc1 hf1; obtain ⟨hc1, hf1⟩ := bcell hBB1_12
  have hm1_0 : w4.heap.size < w12.heap.size := by omega
  clear rg
  go_wp2_with fail
  refine (toIntS_any _ _ _ (rb.mono (by omega)) (by omega)).mono ?_; rintro e w13 ⟨v13, rfl, ho13, hb13⟩
  have s13 := hb13.size
  replace rc := rc.keep hb13 (by omega)
  replace ra := ra.keep hb13 (by omega)
  replace rb := rb.keep hb13 (by omega)
  replace rx := rx.keep hb13 (by omega)
  replace rd := rd.keep hb13 (by omega)
  replace odp := odp.keep hb13 (by omega)
  replace ods := ods.keep hb13 (by omega)
  replace re := re.keep hb13 (by omega)
  replace oe := oe.keep hb13 (by omega)
  replace rf := rf.keep hb13 (by omega)
  replace of := of.keep hb13 (by omega)
  replace ry := ry.keep hb13 (by omega)
  replace oy := oy.keep hb13 (by omega)
  have hB13 := bnext hB12 hb13 (Nat.le_refl _)
  have hBB0_13 := bnext hBB0_12 hb13 (Nat.le_refl _)
  clear hc0 hf0; obtain ⟨hc0, hf0⟩ := bcell hBB0_13
  have hm0_0 : w.heap.size < w13.heap.size := by omega
  have hm0_1 : w.heap.size + 1 < w13.heap.size := by omega
  have hBB1_13 := bnext hBB1_12 hb13 (Nat.le_refl _)
  clear hc1 hf1; obtain ⟨hc1, hf1⟩ := bcell hBB1_13
  have hm1_0 : w4.heap.size < w13.heap.size := by omega
  have oh := ho13.b
  have rh := oh.rdB encI_len
  clear ho13
  clear oh
  go_wp2_with fail
  refine (eqIntS_any _ _ _ _ _ (rf.mono (by omega)) (rh.mono (by omega))).mono ?_; rintro e w14 ⟨rfl, hb14⟩
  have s14 := hb14.size
  replace rc := rc.keep hb14 (by omega)
  replace ra := ra.keep hb14 (by omega)
  replace rb := rb.keep hb14 (by omega)
  replace rx := rx.keep hb14 (by omega)
  replace rd := rd.keep hb14 (by omega)
  replace odp := odp.keep hb14 (by omega)
  replace ods := ods.keep hb14 (by omega)
  replace re := re.keep hb14 (by omega)
  replace oe := oe.keep hb14 (by omega)
  replace rf := rf.keep hb14 (by omega)
  replace of := of.keep hb14 (by omega)
  replace ry := ry.keep hb14 (by omega)
  replace oy := oy.keep hb14 (by omega)
  replace rh := rh.keep hb14 (by omega)
  have hB14 := bnext hB13 hb14 (Nat.le_refl _)
  have hBB0_14 := bnext hBB0_13 hb14 (Nat.le_refl _)
  clear hc0 hf0; obtain ⟨hc0, hf0⟩ := bcell hBB0_14
  have hm0_0 : w.heap.size < w14.heap.size := by omega
  have hm0_1 : w.heap.size + 1 < w14.heap.size := by omega
  have hBB1_14 := bnext hBB1_13 hb14 (Nat.le_refl _)
  clear hc1 hf1; obtain ⟨hc1, hf1⟩ := bcell hBB1_14
  have hm1_0 : w4.heap.size < w14.heap.size := by omega
  clear rh
  go_wp2_with fail
  refine (markChart_any _ _ c 1 _ _ _ odp ods (by omega) (by omega) (by omega) hpc hsc).mono ?_; rintro e w15 ⟨rfl, ht15⟩
  clear rd
  clear odp
  clear ods
  have s15 := ht15.size
  replace oe := oe.tou ht15 (by omega)
  replace of := of.tou ht15 (by omega)
  replace oy := oy.tou ht15 (by omega)
  replace rc := rc.keep (ht15.below (by omega)) (by omega)
  replace ra := ra.keep (ht15.below (by omega)) (by omega)
  replace rb := rb.keep (ht15.below (by omega)) (by omega)
  replace rx := rx.keep (ht15.below (by omega)) (by omega)
  replace re := oe.rdB encI_len
  replace rf := of.rdB encI_len
  replace ry := oy.rdB PassageD.enc_len
  have hB15 := hB14.trans ((ht15.below (by omega)).mono (by omega))
  clear hc1 hf1
  have hBB0_15 := hBB0_14.trans ((ht15.below (by omega)).mono (by omega))
  clear hc0 hf0; obtain ⟨hc0, hf0⟩ := bcell hBB0_15
  have hm0_0 : w.heap.size < w15.heap.size := by omega
  have hm0_1 : w.heap.size + 1 < w15.heap.size := by omega
  go_wp2_with fail
  refine (markIntS_any _ _ _ _ _ oe.1 (by omega) (by omega) (by omega)).mono ?_; rintro e w16 ⟨rfl, ho16, hg16⟩
  have ht16 := Tou.grown hg16 (fun k hk => ⟨(World.ownsRow.lt oe.1 k hk).1, oe.2 k hk⟩)
  replace oe := oe.again ho16; clear ho16 hg16
  have s16 := ht16.size
  replace of := of.tou ht16 (by omega)
  replace oy := oy.tou ht16 (by omega)
  replace rc := rc.keep (ht16.below (by omega)) (by omega)
  replace ra := ra.keep (ht16.below (by omega)) (by omega)
  replace rb := rb.keep (ht16.below (by omega)) (by omega)
  replace rx := rx.keep (ht16.below (by omega)) (by omega)
  replace re := oe.rdB encI_len
  replace rf := of.rdB encI_len
  replace ry := oy.rdB PassageD.enc_len
  have hB16 := hB15.trans ((ht16.below (by omega)).mono (by omega))
  have hBB0_16 := hBB0_15.trans ((ht16.below (by omega)).mono (by omega))
  clear hc0 hf0; obtain ⟨hc0, hf0⟩ := bcell hBB0_16
  have hm0_0 : w.heap.size < w16.heap.size := by omega
  have hm0_1 : w.heap.size + 1 < w16.heap.size := by omega
  go_wp2_with fail
  refine (markIntS_any _ _ _ _ _ of.1 (by omega) (by omega) (by omega)).mono ?_; rintro e w17 ⟨rfl, ho17, hg17⟩
  have ht17 := Tou.grown hg17 (fun k hk => ⟨(World.ownsRow.lt of.1 k hk).1, of.2 k hk⟩)
  replace of := of.again ho17; clear ho17 hg17
  have s17 := ht17.size
  replace oe := oe.tou ht17 (by omega)
  replace oy := oy.tou ht17 (by omega)
  replace rc := rc.keep (ht17.below (by omega)) (by omega)
  replace ra := ra.keep (ht17.below (by omega)) (by omega)
  replace rb := rb.keep (ht17.below (by omega)) (by omega)
  replace rx := rx.keep (ht17.below (by omega)) (by omega)
  replace re := oe.rdB encI_len
  replace rf := of.rdB encI_len
  replace ry := oy.rdB PassageD.enc_len
  have hB17 := hB16.trans ((ht17.below (by omega)).mono (by omega))
  have hBB0_17 := hBB0_16.trans ((ht17.below (by omega)).mono (by omega))
  clear hc0 hf0; obtain ⟨hc0, hf0⟩ := bcell hBB0_17
  have hm0_0 : w.heap.size < w17.heap.size := by omega
  have hm0_1 : w.heap.size + 1 < w17.heap.size := by omega
  clear re
  clear oe
  clear rf
  clear of
  go_wp2_with fail
  refine (eqPassageS_any _ _ _ _ _ (ry.mono (by omega)) (rx.mono (by omega))).mono ?_; rintro e w18 ⟨rfl, hb18⟩
  have s18 := hb18.size
  replace rc := rc.keep hb18 (by omega)
  replace ra := ra.keep hb18 (by omega)
  replace rb := rb.keep hb18 (by omega)
  replace rx := rx.keep hb18 (by omega)
  replace ry := ry.keep hb18 (by omega)
  replace oy := oy.keep hb18 (by omega)
  have hB18 := bnext hB17 hb18 (Nat.le_refl _)
  have hBB0_18 := bnext hBB0_17 hb18 (Nat.le_refl _)
  clear hc0 hf0; obtain ⟨hc0, hf0⟩ := bcell hBB0_18
  have hm0_0 : w.heap.size < w18.heap.size := by omega
  have hm0_1 : w.heap.size + 1 < w18.heap.size := by omega
  go_wp2_with fail
  refine (markPassageS_any _ _ _ _ _ oy.1 (by omega) (by omega) (by omega)).mono ?_; rintro e w19 ⟨rfl, ho19, hg19⟩
  have ht19 := Tou.grown hg19 (fun k hk => ⟨(World.ownsRow.lt oy.1 k hk).1, oy.2 k hk⟩)
  replace oy := oy.again ho19; clear ho19 hg19
  have s19 := ht19.size
  replace rc := rc.keep (ht19.below (by omega)) (by omega)
  replace ra := ra.keep (ht19.below (by omega)) (by omega)
  replace rb := rb.keep (ht19.below (by omega)) (by omega)
  replace rx := rx.keep (ht19.below (by omega)) (by omega)
  replace ry := oy.rdB PassageD.enc_len
  have hB19 := hB18.trans ((ht19.below (by omega)).mono (by omega))
  have hBB0_19 := hBB0_18.trans ((ht19.below (by omega)).mono (by omega))
  clear hc0 hf0; obtain ⟨hc0, hf0⟩ := bcell hBB0_19
  have hm0_0 : w.heap.size < w19.heap.size := by omega
  have hm0_1 : w.heap.size + 1 < w19.heap.size := by omega
  go_wp2_with fail
  refine (heldPassageS_any _ _ _ _ (ry.mono (by omega)) (by omega) (by omega) (by omega)).mono ?_; rintro e w20 ⟨rfl, hb20⟩
  have s20 := hb20.size
  replace rc := rc.keep hb20 (by omega)
  replace ra := ra.keep hb20 (by omega)
  replace rb := rb.keep hb20 (by omega)
  replace rx := rx.keep hb20 (by omega)
  replace ry := ry.keep hb20 (by omega)
  replace oy := oy.keep hb20 (by omega)
  have hB20 := bnext hB19 hb20 (Nat.le_refl _)
  have hBB0_20 := bnext hBB0_19 hb20 (Nat.le_refl _)
  clear hc0 hf0; obtain ⟨hc0, hf0⟩ := bcell hBB0_20
  have hm0_0 : w.heap.size < w20.heap.size := by omega
  have hm0_1 : w.heap.size + 1 < w20.heap.size := by omega
  have hy0_0_0 : w20.cell? ⟨w.heap.size, 0, none⟩ = some (.slice Ac c.points.length cc) := by rw [hBB0_20.cell (p := ⟨w.heap.size, 0, none⟩) (by omega)]; exact hx0_0
  have hy0_0_1 : w20.cell? ⟨w.heap.size, 1, none⟩ = some (.slice Bc c.segs.length dc) := by rw [hBB0_20.cell (p := ⟨w.heap.size, 1, none⟩) (by omega)]; exact hx0_1
  have hy0_1_0 : w20.cell? ⟨w.heap.size + 1, 0, none⟩ = some (.string s.name) := by rw [hBB0_20.cell (p := ⟨w.heap.size + 1, 0, none⟩) (by omega)]; exact hx1_0
  have hy0_1_1 : w20.cell? ⟨w.heap.size + 1, 1, none⟩ = some (.int .i64 s.length) := by rw [hBB0_20.cell (p := ⟨w.heap.size + 1, 1, none⟩) (by omega)]; exact hx1_1
  have hy0_1_2 : w20.cell? ⟨w.heap.size + 1, 2, none⟩ = some (.int .i64 s.draught) := by rw [hBB0_20.cell (p := ⟨w.heap.size + 1, 2, none⟩) (by omega)]; exact hx1_2
  have hy0_1_3 : w20.cell? ⟨w.heap.size + 1, 3, none⟩ = some (.int .i64 s.line) := by rw [hBB0_20.cell (p := ⟨w.heap.size + 1, 3, none⟩) (by omega)]; exact hx1_3
  have hy0_1_4 : w20.cell? ⟨w.heap.size + 1, 4, none⟩ = some (.int .i64 s.tugs) := by rw [hBB0_20.cell (p := ⟨w.heap.size + 1, 4, none⟩) (by omega)]; exact hx1_4
  have hy0_1_5 : w20.cell? ⟨w.heap.size + 1, 5, none⟩ = some (.bool s.slow) := by rw [hBB0_20.cell (p := ⟨w.heap.size + 1, 5, none⟩) (by omega)]; exact hx1_5
  clear hc0 hf0
  have hlw0 : w.heap.size < w20.heap.size := by omega
  have hlw1 : w.heap.size + 1 < w20.heap.size := by omega
  have urc := rc.mono (show _ ≤ w20.heap.size by omega)
  have ura := ra.mono (show _ ≤ w20.heap.size by omega)
  have urb := rb.mono (show _ ≤ w20.heap.size by omega)
  have hle_a : a.length ≤ 1048576 := by omega
  have hle_b : b.length ≤ 1048576 := by omega
  go_wp2_with fail
  go_region_held3 (fun w' => w'.cell? ⟨w.heap.size, 0, none⟩ = some (.slice Ac c.points.length cc) ∧ w'.cell? ⟨w.heap.size, 1, none⟩ = some (.slice Bc c.segs.length dc) ∧ w'.cell? ⟨w.heap.size + 1, 0, none⟩ = some (.string s.name) ∧ w'.cell? ⟨w.heap.size + 1, 1, none⟩ = some (.int .i64 s.length) ∧ w'.cell? ⟨w.heap.size + 1, 2, none⟩ = some (.int .i64 s.draught) ∧ w'.cell? ⟨w.heap.size + 1, 3, none⟩ = some (.int .i64 s.line) ∧ w'.cell? ⟨w.heap.size + 1, 4, none⟩ = some (.int .i64 s.tugs) ∧ w'.cell? ⟨w.heap.size + 1, 5, none⟩ = some (.bool s.slow) ∧ w.heap.size < w'.heap.size ∧ w.heap.size + 1 < w'.heap.size ∧ Below w20.heap.size w20 w')
    (first | exact ⟨hy0_0_0, hy0_0_1, hy0_1_0, hy0_1_1, hy0_1_2, hy0_1_3, hy0_1_4, hy0_1_5, hlw0, hlw1, Below.drew (Below.refl _ _)⟩ | exact ⟨cellKeepL hb' g0_0_0 hlz0, cellKeepL hb' g0_0_1 hlz0, cellKeepL hb' g0_1_0 hlz1, cellKeepL hb' g0_1_1 hlz1, cellKeepL hb' g0_1_2 hlz1, cellKeepL hb' g0_1_3 hlz1, cellKeepL hb' g0_1_4 hlz1, cellKeepL hb' g0_1_5 hlz1, Nat.lt_of_lt_of_le hlz0 hb'.size, Nat.lt_of_lt_of_le hlz1 hb'.size, hBz⟩ | ((repeat' apply And.intro) <;> first | assumption | omega | (rw [hc _ _ (by omega)]; assumption) | (simp [*]; done) | exact Below.drew (Below.refl _ _)))
    (first | (go_at_call 18; obtain ⟨g0_0_0, g0_0_1, g0_1_0, g0_1_1, g0_1_2, g0_1_3, g0_1_4, g0_1_5, hlz0, hlz1, hBz⟩ := (by with_reducible assumption : _ ∧ _); with_reducible refine (toChart_any _ _ c _ ((urc.keep hBz (Nat.le_refl _)).mono hBz.size) hpc hsc).mono ?_; rintro e wz ⟨gz1, gz2, rfl, hrc, hb'⟩; obtain ⟨hc, hf⟩ := bcell hb'; have hBz := bnext hBz hb' (Nat.le_refl _); (try replace hr0 := Rd.below hr0 hb'); (try replace hr0 := RdChart.below hr0 hb'); (try replace hr1 := Rd.below hr1 hb'); (try replace hr1 := RdChart.below hr1 hb'); (try replace hr2 := Rd.below hr2 hb'); (try replace hr2 := RdChart.below hr2 hb'); have hr0 := hrc) | (go_at_call 19; obtain ⟨g0_0_0, g0_0_1, g0_1_0, g0_1_1, g0_1_2, g0_1_3, g0_1_4, g0_1_5, hlz0, hlz1, hBz⟩ := (by with_reducible assumption : _ ∧ _); with_reducible refine (toShip_any _ _ _ _ _ _ _).mono ?_; rintro e wz ⟨rfl, hb'⟩; obtain ⟨hc, hf⟩ := bcell hb'; have hBz := bnext hBz hb' (Nat.le_refl _); (try replace hr0 := Rd.below hr0 hb'); (try replace hr0 := RdChart.below hr0 hb'); (try replace hr1 := Rd.below hr1 hb'); (try replace hr1 := RdChart.below hr1 hb'); (try replace hr2 := Rd.below hr2 hb'); (try replace hr2 := RdChart.below hr2 hb')) | (go_at_call 31; obtain ⟨g0_0_0, g0_0_1, g0_1_0, g0_1_1, g0_1_2, g0_1_3, g0_1_4, g0_1_5, hlz0, hlz1, hBz⟩ := (by with_reducible assumption : _ ∧ _); with_reducible refine (toIntS_at _ a _ ((ura.keep hBz (Nat.le_refl _)).mono hBz.size) hle_a).mono ?_; rintro e wz ⟨rfl, ho, hb'⟩; obtain ⟨hc, hf⟩ := bcell hb'; have hBz := bnext hBz hb' (Nat.le_refl _); (try replace hr0 := Rd.below hr0 hb'); (try replace hr0 := RdChart.below hr0 hb'); (try replace hr1 := Rd.below hr1 hb'); (try replace hr1 := RdChart.below hr1 hb'); (try replace hr2 := Rd.below hr2 hb'); (try replace hr2 := RdChart.below hr2 hb'); have hr1 := Own.rd encI_len ho) | (go_at_call 31; obtain ⟨g0_0_0, g0_0_1, g0_1_0, g0_1_1, g0_1_2, g0_1_3, g0_1_4, g0_1_5, hlz0, hlz1, hBz⟩ := (by with_reducible assumption : _ ∧ _); with_reducible refine (toIntS_at _ b _ ((urb.keep hBz (Nat.le_refl _)).mono hBz.size) hle_b).mono ?_; rintro e wz ⟨rfl, ho, hb'⟩; obtain ⟨hc, hf⟩ := bcell hb'; have hBz := bnext hBz hb' (Nat.le_refl _); (try replace hr0 := Rd.below hr0 hb'); (try replace hr0 := RdChart.below hr0 hb'); (try replace hr1 := Rd.below hr1 hb'); (try replace hr1 := RdChart.below hr1 hb'); (try replace hr2 := Rd.below hr2 hb'); (try replace hr2 := RdChart.below hr2 hb'); have hr2 := Own.rd encI_len ho) | (go_at_call 51; obtain ⟨g0_0_0, g0_0_1, g0_1_0, g0_1_1, g0_1_2, g0_1_3, g0_1_4, g0_1_5, hlz0, hlz1, hBz⟩ := (by with_reducible assumption : _ ∧ _); with_reducible refine (impl_PassagesOf_any _ _ _ _ c n s p a b _ hr0 hr1 hr2 hlena hokc (ShipD.ok_size hoks)).mono ?_; rintro e wz ⟨vz, rfl, hPas, hb'⟩; obtain ⟨hc, hf⟩ := bcell hb'; have hBz := bnext hBz hb' (Nat.le_refl _); (try replace hr0 := Rd.below hr0 hb'); (try replace hr0 := RdChart.below hr0 hb'); (try replace hr1 := Rd.below hr1 hb'); (try replace hr1 := RdChart.below hr1 hb'); (try replace hr2 := Rd.below hr2 hb'); (try replace hr2 := RdChart.below hr2 hb')))
  rename World => w21
  have hb21 := hBz
  clear hc hf hBz urc ura urb hle_a hle_b
  have s21 := hb21.size
  replace rc := rc.keep hb21 (by omega)
  replace ra := ra.keep hb21 (by omega)
  replace rb := rb.keep hb21 (by omega)
  replace rx := rx.keep hb21 (by omega)
  replace ry := ry.keep hb21 (by omega)
  replace oy := oy.keep hb21 (by omega)
  have hB21 := bnext hB20 hb21 (Nat.le_refl _)
  have hBB0_21 := bnext hBB0_20 hb21 (Nat.le_refl _)
  obtain ⟨hc0, hf0⟩ := bcell hBB0_21
  have hm0_0 : w.heap.size < w21.heap.size := by omega
  have hm0_1 : w.heap.size + 1 < w21.heap.size := by omega
  have rz := Own.rd PassageD.enc_len hPas
  clear hPas
  go_wp2_with fail
  refine (eqPassageS_any _ _ _ _ _ (rz.mono (by omega)) (rx.mono (by omega))).mono ?_; rintro e w22 ⟨rfl, hb22⟩
  have s22 := hb22.size
  replace rc := rc.keep hb22 (by omega)
  replace ra := ra.keep hb22 (by omega)
  replace rb := rb.keep hb22 (by omega)
  replace rx := rx.keep hb22 (by omega)
  replace ry := ry.keep hb22 (by omega)
  replace oy := oy.keep hb22 (by omega)
  replace rz := rz.keep hb22 (by omega)
  have hB22 := bnext hB21 hb22 (Nat.le_refl _)
  have hBB0_22 := bnext hBB0_21 hb22 (Nat.le_refl _)
  clear hc0 hf0; obtain ⟨hc0, hf0⟩ := bcell hBB0_22
  have hm0_0 : w.heap.size < w22.heap.size := by omega
  have hm0_1 : w.heap.size + 1 < w22.heap.size := by omega
  go_wp2_with fail
  refine (heldPassageS_any _ _ _ _ (ry.mono (by omega)) (by omega) (by omega) (by omega)).mono ?_; rintro e w23 ⟨rfl, hb23⟩
  have s23 := hb23.size
  replace rc := rc.keep hb23 (by omega)
  replace ra := ra.keep hb23 (by omega)
  replace rb := rb.keep hb23 (by omega)
  replace rx := rx.keep hb23 (by omega)
  replace ry := ry.keep hb23 (by omega)
  replace oy := oy.keep hb23 (by omega)
  replace rz := rz.keep hb23 (by omega)
  have hB23 := bnext hB22 hb23 (Nat.le_refl _)
  have hBB0_23 := bnext hBB0_22 hb23 (Nat.le_refl _)
  clear hc0 hf0; obtain ⟨hc0, hf0⟩ := bcell hBB0_23
  have hm0_0 : w.heap.size < w23.heap.size := by omega
  have hm0_1 : w.heap.size + 1 < w23.heap.size := by omega
  go_wp2_with fail
  go_ret
  exact ⟨rfl, hB23⟩
namespace fnExactPassagesOf
set_option maxRecDepth 100000 in
theorem lifted (os : Os) (started : os.Started) (H : Type) (enc : TypeId × Value → H) :
    ReturnsInHanded {} Try.checked os 13 .any (Rows.fnExactPassagesOfSpec.pre6 enc Try.prog Try.f13 Rows.fnExactPassagesOfRow.domain false) (Rows.fnExactPassagesOfSpec.post enc Try.prog Try.f13 false true false false) := by
  refine returnsInHanded_of_change (C := Try.checked) own started (by kernel_rfl) Try.func13
    (ChangeSpec.witness6 (enc := enc) (C := Try.checked) false ⟨#[], #[.agg #[.slice none 0 0, .slice none 0 0], .int .i64 0, .agg #[.string ⟨#[]⟩, .int .i64 0, .int .i64 0, .int .i64 0, .int .i64 0, .bool false], .int .i64 0, .slice none 0 0, .slice none 0 0], []⟩ 8 (by kernel_rfl) (by kernel_rfl) (by kernel_rfl) (by kernel_rfl)) ?_
  intro W base args ds gs before hval0 hW hcnd _
  have hval : ∀ (j : Nat) t v, Try.f13.params[j]? = some t → args[j]? = some v → Value.okWide Try.prog W .any base t v := hval0
  have hW' := hW
  obtain ⟨p, q, hA0, hV, hbef, hfz, hnd⟩ := hW
  have hA : DataW.TrodAll enc Try.prog W 0 (fun _ => true) true Try.f13.params.toList args.toList ds p := hA0
  rw [Try.params13] at hA hval
  obtain ⟨v0, vs0, d0, ds0, p0, q0, hargs, rfl, hp0, h0, r0⟩ := trodAll_cons hA
  obtain ⟨v1, vs1, d1, ds1, p1, q1, rfl, rfl, hp1, h1, r1⟩ := trodAll_cons r0
  obtain ⟨v2, vs2, d2, ds2, p2, q2, rfl, rfl, hp2, h2, r2⟩ := trodAll_cons r1
  obtain ⟨v3, vs3, d3, ds3, p3, q3, rfl, rfl, hp3, h3, r3⟩ := trodAll_cons r2
  obtain ⟨v4, vs4, d4, ds4, p4, q4, rfl, rfl, hp4, h4, r4⟩ := trodAll_cons r3
  obtain ⟨v5, vs5, d5, ds5, p5, q5, rfl, rfl, hp5, h5, r5⟩ := trodAll_cons r4
  obtain ⟨rfl, rfl, hpn⟩ := trodAll_nil r5
  obtain rfl : args = #[v0, v1, v2, v3, v4, v5] := by cases args; simp_all
  obtain ⟨rfl, rfl⟩ := trodVars_none hV
  obtain ⟨b0, c0, a0, rfl, g0, w0, x0⟩ := openChart (hval 0 25 v0 rfl rfl) h0
  obtain ⟨a1, rfl, -, -, w1⟩ := open_int Try.underlying3 (hval 1 3 v1 rfl rfl) h1
  obtain ⟨a2, rfl, w2⟩ := openShip (hval 2 27 v2 rfl rfl) h2
  obtain ⟨a3, rfl, -, -, w3⟩ := open_int Try.underlying3 (hval 3 3 v3 rfl rfl) h3
  obtain ⟨a4, g4, w4⟩ := open_rowsI Try.underlying52 Try.underlying3 (by kernel_rfl) (hval 4 52 v4 rfl rfl) h4
  obtain ⟨a5, g5, w5⟩ := open_rowsI Try.underlying52 Try.underlying3 (by kernel_rfl) (hval 5 52 v5 rfl rfl) h5
  refine (FnExactPassagesOf_walk W b0 c0 a0 g0 w0 x0 a1 w1 a2 w2 a3 w3 _ a4 g4 w4 _ a5 g5 w5).mono fun e W' ⟨he, hg⟩ => ?_
  subst he
  exact ⟨_, rfl, post_law laidOut (by kernel_rfl) rfl Try.underlying4 rfl ⟨rfl, rfl, rfl⟩ hW' hg⟩
theorem proved : Rows.FnExactPassagesOfSaid :=
  OpenClaim.holds_of_wide 13 Try.f13 rfl rfl rfl rfl rfl rfl rfl ⟨rfl, rfl, rfl, rfl, rfl⟩ rfl rfl rfl rfl rfl (by kernel_rfl) Try.func13 (by kernel_rfl)
    (of_decide_eq_true (by kernel_rfl)) (by unfold Func.isWrapper; first | (rw [if_pos (by decide +kernel)]; kernel_rfl) | (rw [if_neg (by decide +kernel)]; exact ⟨rfl, rfl⟩))
    (fun os started H enc _ => lifted os started H enc)
end fnExactPassagesOf
end Go.Proofs.Ytefidlecandnlaa
