/- The law FnExactFirstSail: for every input it returns true and leaves its arguments as they were. No condition. -/
import Derived.Test.YtpbcbdjjpkenjaaGreatVoyAll
import Derived.Test.YtpbcbdjjpkenjaaGreatForeM
import Derived.Test.YtpbcbdjjpkenjaaGreatLaw2
namespace Go.Proofs.YtpbcbdjjpkenjaaGreat
open Go.RowKit Go.WideShapes Go.ChangeShapes Go.ChangeAt Go.Joins Go.Deep
set_option linter.unusedVariables false
set_option maxRecDepth 100000 in
set_option maxHeartbeats 4000000 in
theorem FnExactFirstSail_walk (w : World) (vf1 vf2 : Value) (f : ForeD) (rf : RdFore w w.heap.size vf1 vf2 f) (hwf : (Lit.int .i64 f.m0).wf = true) (hokpf : ∀ x ∈ f.parts, x.ok) (hoksf : ∀ x ∈ f.surges, x.ok) (vc1 vc2 : Value) (c : ChartD) (rc : RdChart w w.heap.size vc1 vc2 c) (hokc : ∀ x ∈ c.points, x.name.size ≤ maxLen) (hoksc : ∀ x ∈ c.segs, x.ok) (s : ShipD) (hoks : s.ok) (p : Int) (hwp : (Lit.int .i64 p).wf = true) (va : Value) (a : List Int) (ra : RdI w va a) (hoka : ∀ x ∈ a, (Lit.int .i64 x).wf = true) (m : Int) (hwm : (Lit.int .i64 m).wf = true) :
    Calls Tryz.prog 6 #[.agg #[.int .i64 f.m0, vf1, vf2], .agg #[vc1, vc2], s.val, .int .i64 p, va, .int .i64 m] w fun e w' => e = .returned (.bool true) ∧ Below w.heap.size w w' := by
  obtain ⟨Af, cf, Bf, df, rfl, rfl⟩ : ∃ Az cz Bz dz, vf1 = .slice Az f.parts.length cz ∧ vf2 = .slice Bz f.surges.length dz := by obtain ⟨⟨Az, cz, h, _⟩, ⟨Bz, dz, h2, _⟩⟩ := rf; exact ⟨Az, cz, Bz, dz, h, h2⟩
  obtain ⟨Ac, cc, Bc, dc, rfl, rfl⟩ : ∃ Az cz Bz dz, vc1 = .slice Az c.points.length cz ∧ vc2 = .slice Bz c.segs.length dz := by obtain ⟨⟨Az, cz, h, _⟩, ⟨Bz, dz, h2, _⟩⟩ := rc; exact ⟨Az, cz, Bz, dz, h, h2⟩
  obtain ⟨Aa, ca, rfl, hca, hma, hha⟩ : ∃ Az cz, va = .slice Az a.length cz ∧ a.length ≤ cz ∧ cz ≤ maxLen ∧ RdI w (.slice Az a.length cz) a := by obtain ⟨Az, cz, rfl, hc, hm, h⟩ := ra; exact ⟨Az, cz, rfl, hc, hm, ⟨Az, cz, rfl, hc, hm, h⟩⟩
  unfold maxLen at hma
  replace ra := hha; clear hha
  go_enter Tryz.func6, Tryz.ntmps6
  by_cases hbiga : (1048576 : Int) < (a.length : Int)
  · go_wp2_with fail
    go_ret
    exact ⟨rfl, (by repeat (first | exact Below.refl _ _ | assumption | refine Below.setCell ?_ (by first | omega | (simp <;> omega)) _ | refine Below.alloc ?_ (by first | omega | (simp <;> omega)) _ | refine below_drewN ?_ _ | refine Below.drew ?_ | refine Below.trans ?_ (Below.mono (by assumption) (by first | omega | (simp <;> omega)))))⟩
  have hbiga' : (a.length : Int) ≤ 1048576 := by omega
  have hlena : a.length ≤ 1048576 := by omega
  clear hbiga
  go_wp2_with fail
  generalize hW0 : (((w.alloc (.cells #[.int .i64 f.m0, .slice Af f.parts.length cf, .slice Bf f.surges.length df] 27)).alloc (.cells #[.slice Ac c.points.length cc, .slice Bc c.segs.length dc] 31)).alloc (.cells #[.string s.name, .int .i64 s.length, .int .i64 s.draught, .int .i64 s.line, .int .i64 s.tugs, .bool s.slow] 33)) = W0
  have hB0 : Below w.heap.size w W0 := by rw [← hW0]; exact (by repeat (first | exact Below.refl _ _ | assumption | refine Below.setCell ?_ (by first | omega | (simp <;> omega)) _ | refine Below.alloc ?_ (by first | omega | (simp <;> omega)) _ | refine below_drewN ?_ _ | refine Below.drew ?_ | refine Below.trans ?_ (Below.mono (by assumption) (by first | omega | (simp <;> omega)))))
  have hl0 : w.heap.size < W0.heap.size := by rw [← hW0]; simp <;> omega
  have hx0_0 : W0.cell? ⟨w.heap.size, 0, none⟩ = some (.int .i64 f.m0) := by rw [← hW0]; simp [go_sem]
  have hx0_1 : W0.cell? ⟨w.heap.size, 1, none⟩ = some (.slice Af f.parts.length cf) := by rw [← hW0]; simp [go_sem]
  have hx0_2 : W0.cell? ⟨w.heap.size, 2, none⟩ = some (.slice Bf f.surges.length df) := by rw [← hW0]; simp [go_sem]
  have hl1 : w.heap.size + 1 < W0.heap.size := by rw [← hW0]; simp <;> omega
  have hx1_0 : W0.cell? ⟨w.heap.size + 1, 0, none⟩ = some (.slice Ac c.points.length cc) := by rw [← hW0]; simp [go_sem]
  have hx1_1 : W0.cell? ⟨w.heap.size + 1, 1, none⟩ = some (.slice Bc c.segs.length dc) := by rw [← hW0]; simp [go_sem]
  have hl2 : w.heap.size + 1 + 1 < W0.heap.size := by rw [← hW0]; simp <;> omega
  have hx2_0 : W0.cell? ⟨w.heap.size + 1 + 1, 0, none⟩ = some (.string s.name) := by rw [← hW0]; simp [go_sem]
  have hx2_1 : W0.cell? ⟨w.heap.size + 1 + 1, 1, none⟩ = some (.int .i64 s.length) := by rw [← hW0]; simp [go_sem]
  have hx2_2 : W0.cell? ⟨w.heap.size + 1 + 1, 2, none⟩ = some (.int .i64 s.draught) := by rw [← hW0]; simp [go_sem]
  have hx2_3 : W0.cell? ⟨w.heap.size + 1 + 1, 3, none⟩ = some (.int .i64 s.line) := by rw [← hW0]; simp [go_sem]
  have hx2_4 : W0.cell? ⟨w.heap.size + 1 + 1, 4, none⟩ = some (.int .i64 s.tugs) := by rw [← hW0]; simp [go_sem]
  have hx2_5 : W0.cell? ⟨w.heap.size + 1 + 1, 5, none⟩ = some (.bool s.slow) := by rw [← hW0]; simp [go_sem]
  have s0 := hB0.size
  clear hW0
  replace rf := rf.keep hB0 (by omega)
  replace rc := rc.keep hB0 (by omega)
  replace ra := ra.keep hB0 (by omega)
  have hBB0 := Below.refl W0.heap.size W0
  obtain ⟨hc0, hf0⟩ := bcell hBB0
  go_wp2_with fail
  refine (szForecast_any _ _ f 1048576 _ (rf.mono (by omega)) (by omega) (by omega)).mono ?_; rintro e w1 ⟨z1, rfl, hz1, hm1, hb1⟩
  have s1 := hb1.size
  replace rf := rf.keep hb1 (by omega)
  replace rc := rc.keep hb1 (by omega)
  replace ra := ra.keep hb1 (by omega)
  have hB1 := bnext hB0 hb1 (Nat.le_refl _)
  have hBB0_1 := bnext hBB0 hb1 (Nat.le_refl _)
  clear hc0 hf0; obtain ⟨hc0, hf0⟩ := bcell hBB0_1
  have hm0_0 : w.heap.size < w1.heap.size := by omega
  have hm0_1 : w.heap.size + 1 < w1.heap.size := by omega
  have hm0_2 : w.heap.size + 1 + 1 < w1.heap.size := by omega
  by_cases hn1 : z1 < 0
  · clear hz1
    go_wp2_with fail
    go_ret
    exact ⟨rfl, hB1⟩
  obtain ⟨p1, q1⟩ := hz1 (by omega)
  have hpf : f.parts.length ≤ 1048576 := by omega
  have hsf : f.surges.length ≤ 1048576 := by omega
  go_wp2_with fail
  refine (szChart_any _ _ c z1 _ (rc.mono (by omega)) hokc (by omega) (by omega)).mono ?_; rintro e w2 ⟨z2, rfl, hz2, hm2, hb2⟩
  have s2 := hb2.size
  replace rf := rf.keep hb2 (by omega)
  replace rc := rc.keep hb2 (by omega)
  replace ra := ra.keep hb2 (by omega)
  have hB2 := bnext hB1 hb2 (Nat.le_refl _)
  have hBB0_2 := bnext hBB0_1 hb2 (Nat.le_refl _)
  clear hc0 hf0; obtain ⟨hc0, hf0⟩ := bcell hBB0_2
  have hm0_0 : w.heap.size < w2.heap.size := by omega
  have hm0_1 : w.heap.size + 1 < w2.heap.size := by omega
  have hm0_2 : w.heap.size + 1 + 1 < w2.heap.size := by omega
  by_cases hn2 : z2 < 0
  · clear hz2
    go_wp2_with fail
    go_ret
    exact ⟨rfl, hB2⟩
  obtain ⟨p2, q2⟩ := hz2 (by omega)
  have hpc : c.points.length ≤ 1048576 := by omega
  have hsc : c.segs.length ≤ 1048576 := by omega
  go_wp2_with fail
  refine (szShip_any s.name s.length s.draught s.line s.tugs s.slow z2 _ (ShipD.ok_size hoks) (by omega) (by omega)).mono ?_; rintro e w3 ⟨z3, rfl, hz3, hm3, hb3⟩
  have s3 := hb3.size
  replace rf := rf.keep hb3 (by omega)
  replace rc := rc.keep hb3 (by omega)
  replace ra := ra.keep hb3 (by omega)
  have hB3 := bnext hB2 hb3 (Nat.le_refl _)
  have hBB0_3 := bnext hBB0_2 hb3 (Nat.le_refl _)
  clear hc0 hf0; obtain ⟨hc0, hf0⟩ := bcell hBB0_3
  have hm0_0 : w.heap.size < w3.heap.size := by omega
  have hm0_1 : w.heap.size + 1 < w3.heap.size := by omega
  have hm0_2 : w.heap.size + 1 + 1 < w3.heap.size := by omega
  by_cases hn3 : z3 < 0
  · clear hz3
    go_wp2_with fail
    go_ret
    exact ⟨rfl, hB3⟩
  obtain ⟨p3, q3⟩ := hz3 (by omega)
  have hLq := firstSail_len f c s p a m
  obtain ⟨xb, hXb⟩ : ∃ b, (firstSail f c s p a m).isSome = b := ⟨_, rfl⟩
  obtain ⟨xl, hXl⟩ : ∃ b, (firstSail f c s p a m).getD [] = b := ⟨_, rfl⟩
  rw [hXl] at hLq
  have hLp : xl.length ≤ 1048576 := by omega
  have HXb := hide hXb; have HXl := hide hXl; clear hXb hXl hLq
  have hy0_0_0 : w3.cell? ⟨w.heap.size, 0, none⟩ = some (.int .i64 f.m0) := by rw [hBB0_3.cell (p := ⟨w.heap.size, 0, none⟩) (by omega)]; exact hx0_0
  have hy0_0_1 : w3.cell? ⟨w.heap.size, 1, none⟩ = some (.slice Af f.parts.length cf) := by rw [hBB0_3.cell (p := ⟨w.heap.size, 1, none⟩) (by omega)]; exact hx0_1
  have hy0_0_2 : w3.cell? ⟨w.heap.size, 2, none⟩ = some (.slice Bf f.surges.length df) := by rw [hBB0_3.cell (p := ⟨w.heap.size, 2, none⟩) (by omega)]; exact hx0_2
  have hy0_1_0 : w3.cell? ⟨w.heap.size + 1, 0, none⟩ = some (.slice Ac c.points.length cc) := by rw [hBB0_3.cell (p := ⟨w.heap.size + 1, 0, none⟩) (by omega)]; exact hx1_0
  have hy0_1_1 : w3.cell? ⟨w.heap.size + 1, 1, none⟩ = some (.slice Bc c.segs.length dc) := by rw [hBB0_3.cell (p := ⟨w.heap.size + 1, 1, none⟩) (by omega)]; exact hx1_1
  have hy0_2_0 : w3.cell? ⟨w.heap.size + 1 + 1, 0, none⟩ = some (.string s.name) := by rw [hBB0_3.cell (p := ⟨w.heap.size + 1 + 1, 0, none⟩) (by omega)]; exact hx2_0
  have hy0_2_1 : w3.cell? ⟨w.heap.size + 1 + 1, 1, none⟩ = some (.int .i64 s.length) := by rw [hBB0_3.cell (p := ⟨w.heap.size + 1 + 1, 1, none⟩) (by omega)]; exact hx2_1
  have hy0_2_2 : w3.cell? ⟨w.heap.size + 1 + 1, 2, none⟩ = some (.int .i64 s.draught) := by rw [hBB0_3.cell (p := ⟨w.heap.size + 1 + 1, 2, none⟩) (by omega)]; exact hx2_2
  have hy0_2_3 : w3.cell? ⟨w.heap.size + 1 + 1, 3, none⟩ = some (.int .i64 s.line) := by rw [hBB0_3.cell (p := ⟨w.heap.size + 1 + 1, 3, none⟩) (by omega)]; exact hx2_3
  have hy0_2_4 : w3.cell? ⟨w.heap.size + 1 + 1, 4, none⟩ = some (.int .i64 s.tugs) := by rw [hBB0_3.cell (p := ⟨w.heap.size + 1 + 1, 4, none⟩) (by omega)]; exact hx2_4
  have hy0_2_5 : w3.cell? ⟨w.heap.size + 1 + 1, 5, none⟩ = some (.bool s.slow) := by rw [hBB0_3.cell (p := ⟨w.heap.size + 1 + 1, 5, none⟩) (by omega)]; exact hx2_5
  clear hc0 hf0
  have hlw0 : w.heap.size < w3.heap.size := by omega
  have hlw1 : w.heap.size + 1 < w3.heap.size := by omega
  have hlw2 : w.heap.size + 1 + 1 < w3.heap.size := by omega
  have urf := rf.mono (show _ ≤ w3.heap.size by omega)
  have urc := rc.mono (show _ ≤ w3.heap.size by omega)
  have ura := ra.mono (show _ ≤ w3.heap.size by omega)
  have hle_a : a.length ≤ 1048576 := by omega
  go_wp2_with fail
  go_region_held3 (fun w' => w'.cell? ⟨w.heap.size, 0, none⟩ = some (.int .i64 f.m0) ∧ w'.cell? ⟨w.heap.size, 1, none⟩ = some (.slice Af f.parts.length cf) ∧ w'.cell? ⟨w.heap.size, 2, none⟩ = some (.slice Bf f.surges.length df) ∧ w'.cell? ⟨w.heap.size + 1, 0, none⟩ = some (.slice Ac c.points.length cc) ∧ w'.cell? ⟨w.heap.size + 1, 1, none⟩ = some (.slice Bc c.segs.length dc) ∧ w'.cell? ⟨w.heap.size + 1 + 1, 0, none⟩ = some (.string s.name) ∧ w'.cell? ⟨w.heap.size + 1 + 1, 1, none⟩ = some (.int .i64 s.length) ∧ w'.cell? ⟨w.heap.size + 1 + 1, 2, none⟩ = some (.int .i64 s.draught) ∧ w'.cell? ⟨w.heap.size + 1 + 1, 3, none⟩ = some (.int .i64 s.line) ∧ w'.cell? ⟨w.heap.size + 1 + 1, 4, none⟩ = some (.int .i64 s.tugs) ∧ w'.cell? ⟨w.heap.size + 1 + 1, 5, none⟩ = some (.bool s.slow) ∧ w.heap.size < w'.heap.size ∧ w.heap.size + 1 < w'.heap.size ∧ w.heap.size + 1 + 1 < w'.heap.size ∧ Below w3.heap.size w3 w')
    (first | exact ⟨hy0_0_0, hy0_0_1, hy0_0_2, hy0_1_0, hy0_1_1, hy0_2_0, hy0_2_1, hy0_2_2, hy0_2_3, hy0_2_4, hy0_2_5, hlw0, hlw1, hlw2, Below.drew (Below.refl _ _)⟩ | exact ⟨cellKeepL hb' g0_0_0 hlz0, cellKeepL hb' g0_0_1 hlz0, cellKeepL hb' g0_0_2 hlz0, cellKeepL hb' g0_1_0 hlz1, cellKeepL hb' g0_1_1 hlz1, cellKeepL hb' g0_2_0 hlz2, cellKeepL hb' g0_2_1 hlz2, cellKeepL hb' g0_2_2 hlz2, cellKeepL hb' g0_2_3 hlz2, cellKeepL hb' g0_2_4 hlz2, cellKeepL hb' g0_2_5 hlz2, Nat.lt_of_lt_of_le hlz0 hb'.size, Nat.lt_of_lt_of_le hlz1 hb'.size, Nat.lt_of_lt_of_le hlz2 hb'.size, hBz⟩ | ((repeat' apply And.intro) <;> first | assumption | omega | (rw [hc _ _ (by omega)]; assumption) | (simp [*]; done) | exact Below.drew (Below.refl _ _)))
    (first | (go_at_call 11; obtain ⟨g0_0_0, g0_0_1, g0_0_2, g0_1_0, g0_1_1, g0_2_0, g0_2_1, g0_2_2, g0_2_3, g0_2_4, g0_2_5, hlz0, hlz1, hlz2, hBz⟩ := (by with_reducible assumption : _ ∧ _); with_reducible refine (toForecastR_any _ _ f _ ((urf.keep hBz (Nat.le_refl _)).mono hBz.size) hpf hsf).mono ?_; rintro e wz ⟨gf1, gf2, rfl, hro, hb'⟩; obtain ⟨hc, hf⟩ := bcell hb'; have hBz := bnext hBz hb' (Nat.le_refl _); (try replace hr0 := Rd.below hr0 hb'); (try replace hr0 := RdChart.below hr0 hb'); (try replace hr0 := RdFore.below hr0 hb'); (try replace hr1 := Rd.below hr1 hb'); (try replace hr1 := RdChart.below hr1 hb'); (try replace hr1 := RdFore.below hr1 hb'); (try replace hr2 := Rd.below hr2 hb'); (try replace hr2 := RdChart.below hr2 hb'); (try replace hr2 := RdFore.below hr2 hb'); have hr0 := hro) | (go_at_call 12; obtain ⟨g0_0_0, g0_0_1, g0_0_2, g0_1_0, g0_1_1, g0_2_0, g0_2_1, g0_2_2, g0_2_3, g0_2_4, g0_2_5, hlz0, hlz1, hlz2, hBz⟩ := (by with_reducible assumption : _ ∧ _); with_reducible refine (toChart_any _ _ c _ ((urc.keep hBz (Nat.le_refl _)).mono hBz.size) hpc hsc).mono ?_; rintro e wz ⟨gz1, gz2, rfl, hrc, hb'⟩; obtain ⟨hc, hf⟩ := bcell hb'; have hBz := bnext hBz hb' (Nat.le_refl _); (try replace hr0 := Rd.below hr0 hb'); (try replace hr0 := RdChart.below hr0 hb'); (try replace hr0 := RdFore.below hr0 hb'); (try replace hr1 := Rd.below hr1 hb'); (try replace hr1 := RdChart.below hr1 hb'); (try replace hr1 := RdFore.below hr1 hb'); (try replace hr2 := Rd.below hr2 hb'); (try replace hr2 := RdChart.below hr2 hb'); (try replace hr2 := RdFore.below hr2 hb'); have hr1 := hrc) | (go_at_call 13; obtain ⟨g0_0_0, g0_0_1, g0_0_2, g0_1_0, g0_1_1, g0_2_0, g0_2_1, g0_2_2, g0_2_3, g0_2_4, g0_2_5, hlz0, hlz1, hlz2, hBz⟩ := (by with_reducible assumption : _ ∧ _); with_reducible refine (toShip_any _ _ _ _ _ _ _).mono ?_; rintro e wz ⟨rfl, hb'⟩; obtain ⟨hc, hf⟩ := bcell hb'; have hBz := bnext hBz hb' (Nat.le_refl _); (try replace hr0 := Rd.below hr0 hb'); (try replace hr0 := RdChart.below hr0 hb'); (try replace hr0 := RdFore.below hr0 hb'); (try replace hr1 := Rd.below hr1 hb'); (try replace hr1 := RdChart.below hr1 hb'); (try replace hr1 := RdFore.below hr1 hb'); (try replace hr2 := Rd.below hr2 hb'); (try replace hr2 := RdChart.below hr2 hb'); (try replace hr2 := RdFore.below hr2 hb')) | (go_at_call 29; obtain ⟨g0_0_0, g0_0_1, g0_0_2, g0_1_0, g0_1_1, g0_2_0, g0_2_1, g0_2_2, g0_2_3, g0_2_4, g0_2_5, hlz0, hlz1, hlz2, hBz⟩ := (by with_reducible assumption : _ ∧ _); with_reducible refine (toIntS_at _ a _ ((ura.keep hBz (Nat.le_refl _)).mono hBz.size) hle_a).mono ?_; rintro e wz ⟨rfl, ho, hb'⟩; obtain ⟨hc, hf⟩ := bcell hb'; have hBz := bnext hBz hb' (Nat.le_refl _); (try replace hr0 := Rd.below hr0 hb'); (try replace hr0 := RdChart.below hr0 hb'); (try replace hr0 := RdFore.below hr0 hb'); (try replace hr1 := Rd.below hr1 hb'); (try replace hr1 := RdChart.below hr1 hb'); (try replace hr1 := RdFore.below hr1 hb'); (try replace hr2 := Rd.below hr2 hb'); (try replace hr2 := RdChart.below hr2 hb'); (try replace hr2 := RdFore.below hr2 hb'); have hr2 := Own.rd encI_len ho) | (go_at_call 34; obtain ⟨g0_0_0, g0_0_1, g0_0_2, g0_1_0, g0_1_1, g0_2_0, g0_2_1, g0_2_2, g0_2_3, g0_2_4, g0_2_5, hlz0, hlz1, hlz2, hBz⟩ := (by with_reducible assumption : _ ∧ _); with_reducible refine (sailRes_at (spec_FirstSail_any _ _ _ _ _ f c s p a m _ hr0 hr1 hr2 hlena hokc (ShipD.ok_size hoks)) HXb.out HXl.out).mono ?_; rintro e wz ⟨vx, rfl, hPas, hb'⟩; obtain ⟨hc, hf⟩ := bcell hb'; have hBz := bnext hBz hb' (Nat.le_refl _); (try replace hr0 := Rd.below hr0 hb'); (try replace hr0 := RdChart.below hr0 hb'); (try replace hr0 := RdFore.below hr0 hb'); (try replace hr1 := Rd.below hr1 hb'); (try replace hr1 := RdChart.below hr1 hb'); (try replace hr1 := RdFore.below hr1 hb'); (try replace hr2 := Rd.below hr2 hb'); (try replace hr2 := RdChart.below hr2 hb'); (try replace hr2 := RdFore.below hr2 hb')))
  rename World => w4
  have hb4 := hBz
  clear hc hf hBz urf urc ura hle_a
  have s4 := hb4.size
  replace rf := rf.keep hb4 (by omega)
  replace rc := rc.keep hb4 (by omega)
  replace ra := ra.keep hb4 (by omega)
  have hB4 := bnext hB3 hb4 (Nat.le_refl _)
  have hBB0_4 := bnext hBB0_3 hb4 (Nat.le_refl _)
  obtain ⟨hc0, hf0⟩ := bcell hBB0_4
  have hm0_0 : w.heap.size < w4.heap.size := by omega
  have hm0_1 : w.heap.size + 1 < w4.heap.size := by omega
  have hm0_2 : w.heap.size + 1 + 1 < w4.heap.size := by omega
  have rx := Own.rd encI_len hPas
  clear hPas
  go_wp2_with fail
  refine (toForecast_any _ _ f _ (rf.mono (by omega)) hpf hsf).mono ?_; rintro e w5 ⟨g1d, g2d, rfl, hoP5, hoS5, hb5⟩
  have s5 := hb5.size
  replace rf := rf.keep hb5 (by omega)
  replace rc := rc.keep hb5 (by omega)
  replace ra := ra.keep hb5 (by omega)
  replace rx := rx.keep hb5 (by omega)
  have hB5 := bnext hB4 hb5 (Nat.le_refl _)
  have hBB0_5 := bnext hBB0_4 hb5 (Nat.le_refl _)
  clear hc0 hf0; obtain ⟨hc0, hf0⟩ := bcell hBB0_5
  have hm0_0 : w.heap.size < w5.heap.size := by omega
  have hm0_1 : w.heap.size + 1 < w5.heap.size := by omega
  have hm0_2 : w.heap.size + 1 + 1 < w5.heap.size := by omega
  have odp := hoP5.b
  have ods := hoS5.b
  have rd : RdFore _ _ _ _ f := ⟨odp.rdB PartD.enc_len, ods.rdB SurgeD.enc_len⟩
  clear hoP5 hoS5
  go_wp2_with fail
  generalize hW6 : w5.alloc (.cells #[.int .i64 f.m0, .slice (some ⟨g1d, 0, none⟩) f.parts.length f.parts.length, .slice (some ⟨g2d, 0, none⟩) f.surges.length f.surges.length] 44) = w6
  have hb6 : Below w5.heap.size w5 w6 := by rw [← hW6]; exact (Below.refl _ _).alloc (Nat.le_refl _) _
  have hl1x : w5.heap.size < w6.heap.size := by rw [← hW6]; simp
  have hz1_0 : w6.cell? ⟨w5.heap.size, 0, none⟩ = some (.int .i64 f.m0) := by rw [← hW6]; simp [go_sem]
  have hz1_1 : w6.cell? ⟨w5.heap.size, 1, none⟩ = some (.slice (some ⟨g1d, 0, none⟩) f.parts.length f.parts.length) := by rw [← hW6]; simp [go_sem]
  have hz1_2 : w6.cell? ⟨w5.heap.size, 2, none⟩ = some (.slice (some ⟨g2d, 0, none⟩) f.surges.length f.surges.length) := by rw [← hW6]; simp [go_sem]
  clear hW6
  have s6 := hb6.size
  replace rf := rf.keep hb6 (by omega)
  replace rc := rc.keep hb6 (by omega)
  replace ra := ra.keep hb6 (by omega)
  replace rx := rx.keep hb6 (by omega)
  replace rd := rd.keep hb6 (by omega)
  replace odp := odp.keep hb6 (by omega)
  replace ods := ods.keep hb6 (by omega)
  have hB6 := bnext hB5 hb6 (Nat.le_refl _)
  have hBB0_6 := bnext hBB0_5 hb6 (Nat.le_refl _)
  clear hc0 hf0; obtain ⟨hc0, hf0⟩ := bcell hBB0_6
  have hm0_0 : w.heap.size < w6.heap.size := by omega
  have hm0_1 : w.heap.size + 1 < w6.heap.size := by omega
  have hm0_2 : w.heap.size + 1 + 1 < w6.heap.size := by omega
  have hBB1 := Below.refl w6.heap.size w6
  obtain ⟨hc1, hf1⟩ := bcell hBB1
  go_wp2_with fail
  refine (toChartO_any _ _ c _ (rc.mono (by omega)) hpc hsc).mono ?_; rintro e w7 ⟨g1e, g2e, rfl, hoP7, hoS7, hb7⟩
  have s7 := hb7.size
  replace rf := rf.keep hb7 (by omega)
  replace rc := rc.keep hb7 (by omega)
  replace ra := ra.keep hb7 (by omega)
  replace rx := rx.keep hb7 (by omega)
  replace rd := rd.keep hb7 (by omega)
  replace odp := odp.keep hb7 (by omega)
  replace ods := ods.keep hb7 (by omega)
  have hB7 := bnext hB6 hb7 (Nat.le_refl _)
  have hBB0_7 := bnext hBB0_6 hb7 (Nat.le_refl _)
  clear hc0 hf0; obtain ⟨hc0, hf0⟩ := bcell hBB0_7
  have hm0_0 : w.heap.size < w7.heap.size := by omega
  have hm0_1 : w.heap.size + 1 < w7.heap.size := by omega
  have hm0_2 : w.heap.size + 1 + 1 < w7.heap.size := by omega
  have hBB1_7 := bnext hBB1 hb7 (Nat.le_refl _)
  clear hc1 hf1; obtain ⟨hc1, hf1⟩ := bcell hBB1_7
  have hm1_0 : w5.heap.size < w7.heap.size := by omega
  have oep := hoP7.b
  have oes := hoS7.b
  have re : RdChart _ _ _ _ c := ⟨oep.rdB PointD.enc_len, oes.rdB SegmentD.enc_len⟩
  clear hoP7 hoS7
  go_wp2_with fail
  generalize hW8 : w7.alloc (.cells #[.slice (some ⟨g1e, 0, none⟩) c.points.length c.points.length, .slice (some ⟨g2e, 0, none⟩) c.segs.length c.segs.length] 49) = w8
  have hb8 : Below w7.heap.size w7 w8 := by rw [← hW8]; exact (Below.refl _ _).alloc (Nat.le_refl _) _
  have hl2x : w7.heap.size < w8.heap.size := by rw [← hW8]; simp
  have hz2_0 : w8.cell? ⟨w7.heap.size, 0, none⟩ = some (.slice (some ⟨g1e, 0, none⟩) c.points.length c.points.length) := by rw [← hW8]; simp [go_sem]
  have hz2_1 : w8.cell? ⟨w7.heap.size, 1, none⟩ = some (.slice (some ⟨g2e, 0, none⟩) c.segs.length c.segs.length) := by rw [← hW8]; simp [go_sem]
  clear hW8
  have s8 := hb8.size
  replace rf := rf.keep hb8 (by omega)
  replace rc := rc.keep hb8 (by omega)
  replace ra := ra.keep hb8 (by omega)
  replace rx := rx.keep hb8 (by omega)
  replace rd := rd.keep hb8 (by omega)
  replace odp := odp.keep hb8 (by omega)
  replace ods := ods.keep hb8 (by omega)
  replace re := re.keep hb8 (by omega)
  replace oep := oep.keep hb8 (by omega)
  replace oes := oes.keep hb8 (by omega)
  have hB8 := bnext hB7 hb8 (Nat.le_refl _)
  have hBB0_8 := bnext hBB0_7 hb8 (Nat.le_refl _)
  clear hc0 hf0; obtain ⟨hc0, hf0⟩ := bcell hBB0_8
  have hm0_0 : w.heap.size < w8.heap.size := by omega
  have hm0_1 : w.heap.size + 1 < w8.heap.size := by omega
  have hm0_2 : w.heap.size + 1 + 1 < w8.heap.size := by omega
  have hBB1_8 := bnext hBB1_7 hb8 (Nat.le_refl _)
  clear hc1 hf1; obtain ⟨hc1, hf1⟩ := bcell hBB1_8
  have hm1_0 : w5.heap.size < w8.heap.size := by omega
  have hBB2 := Below.refl w8.heap.size w8
  obtain ⟨hc2, hf2⟩ := bcell hBB2
  go_wp2_with fail
  refine (toIntS_any _ _ _ (ra.mono (by omega)) (by omega)).mono ?_; rintro e w9 ⟨v9, rfl, ho9, hb9⟩
  have s9 := hb9.size
  replace rf := rf.keep hb9 (by omega)
  replace rc := rc.keep hb9 (by omega)
  replace ra := ra.keep hb9 (by omega)
  replace rx := rx.keep hb9 (by omega)
  replace rd := rd.keep hb9 (by omega)
  replace odp := odp.keep hb9 (by omega)
  replace ods := ods.keep hb9 (by omega)
  replace re := re.keep hb9 (by omega)
  replace oep := oep.keep hb9 (by omega)
  replace oes := oes.keep hb9 (by omega)
  have hB9 := bnext hB8 hb9 (Nat.le_refl _)
  have hBB0_9 := bnext hBB0_8 hb9 (Nat.le_refl _)
  clear hc0 hf0; obtain ⟨hc0, hf0⟩ := bcell hBB0_9
  have hm0_0 : w.heap.size < w9.heap.size := by omega
  have hm0_1 : w.heap.size + 1 < w9.heap.size := by omega
  have hm0_2 : w.heap.size + 1 + 1 < w9.heap.size := by omega
  have hBB1_9 := bnext hBB1_8 hb9 (Nat.le_refl _)
  clear hc1 hf1; obtain ⟨hc1, hf1⟩ := bcell hBB1_9
  have hm1_0 : w5.heap.size < w9.heap.size := by omega
  have hBB2_9 := bnext hBB2 hb9 (Nat.le_refl _)
  clear hc2 hf2; obtain ⟨hc2, hf2⟩ := bcell hBB2_9
  have hm2_0 : w7.heap.size < w9.heap.size := by omega
  have oh := ho9.b
  have rh := oh.rdB encI_len
  clear ho9
  have hy0_0_0 : w9.cell? ⟨w.heap.size, 0, none⟩ = some (.int .i64 f.m0) := by rw [hBB0_9.cell (p := ⟨w.heap.size, 0, none⟩) (by omega)]; exact hx0_0
  have hy0_0_1 : w9.cell? ⟨w.heap.size, 1, none⟩ = some (.slice Af f.parts.length cf) := by rw [hBB0_9.cell (p := ⟨w.heap.size, 1, none⟩) (by omega)]; exact hx0_1
  have hy0_0_2 : w9.cell? ⟨w.heap.size, 2, none⟩ = some (.slice Bf f.surges.length df) := by rw [hBB0_9.cell (p := ⟨w.heap.size, 2, none⟩) (by omega)]; exact hx0_2
  have hy0_1_0 : w9.cell? ⟨w.heap.size + 1, 0, none⟩ = some (.slice Ac c.points.length cc) := by rw [hBB0_9.cell (p := ⟨w.heap.size + 1, 0, none⟩) (by omega)]; exact hx1_0
  have hy0_1_1 : w9.cell? ⟨w.heap.size + 1, 1, none⟩ = some (.slice Bc c.segs.length dc) := by rw [hBB0_9.cell (p := ⟨w.heap.size + 1, 1, none⟩) (by omega)]; exact hx1_1
  have hy0_2_0 : w9.cell? ⟨w.heap.size + 1 + 1, 0, none⟩ = some (.string s.name) := by rw [hBB0_9.cell (p := ⟨w.heap.size + 1 + 1, 0, none⟩) (by omega)]; exact hx2_0
  have hy0_2_1 : w9.cell? ⟨w.heap.size + 1 + 1, 1, none⟩ = some (.int .i64 s.length) := by rw [hBB0_9.cell (p := ⟨w.heap.size + 1 + 1, 1, none⟩) (by omega)]; exact hx2_1
  have hy0_2_2 : w9.cell? ⟨w.heap.size + 1 + 1, 2, none⟩ = some (.int .i64 s.draught) := by rw [hBB0_9.cell (p := ⟨w.heap.size + 1 + 1, 2, none⟩) (by omega)]; exact hx2_2
  have hy0_2_3 : w9.cell? ⟨w.heap.size + 1 + 1, 3, none⟩ = some (.int .i64 s.line) := by rw [hBB0_9.cell (p := ⟨w.heap.size + 1 + 1, 3, none⟩) (by omega)]; exact hx2_3
  have hy0_2_4 : w9.cell? ⟨w.heap.size + 1 + 1, 4, none⟩ = some (.int .i64 s.tugs) := by rw [hBB0_9.cell (p := ⟨w.heap.size + 1 + 1, 4, none⟩) (by omega)]; exact hx2_4
  have hy0_2_5 : w9.cell? ⟨w.heap.size + 1 + 1, 5, none⟩ = some (.bool s.slow) := by rw [hBB0_9.cell (p := ⟨w.heap.size + 1 + 1, 5, none⟩) (by omega)]; exact hx2_5
  have hy1_0_0 : w9.cell? ⟨w5.heap.size, 0, none⟩ = some (.int .i64 f.m0) := by rw [hBB1_9.cell (p := ⟨w5.heap.size, 0, none⟩) (by omega)]; exact hz1_0
  have hy1_0_1 : w9.cell? ⟨w5.heap.size, 1, none⟩ = some (.slice (some ⟨g1d, 0, none⟩) f.parts.length f.parts.length) := by rw [hBB1_9.cell (p := ⟨w5.heap.size, 1, none⟩) (by omega)]; exact hz1_1
  have hy1_0_2 : w9.cell? ⟨w5.heap.size, 2, none⟩ = some (.slice (some ⟨g2d, 0, none⟩) f.surges.length f.surges.length) := by rw [hBB1_9.cell (p := ⟨w5.heap.size, 2, none⟩) (by omega)]; exact hz1_2
  have hy2_0_0 : w9.cell? ⟨w7.heap.size, 0, none⟩ = some (.slice (some ⟨g1e, 0, none⟩) c.points.length c.points.length) := by rw [hBB2_9.cell (p := ⟨w7.heap.size, 0, none⟩) (by omega)]; exact hz2_0
  have hy2_0_1 : w9.cell? ⟨w7.heap.size, 1, none⟩ = some (.slice (some ⟨g2e, 0, none⟩) c.segs.length c.segs.length) := by rw [hBB2_9.cell (p := ⟨w7.heap.size, 1, none⟩) (by omega)]; exact hz2_1
  clear hc0 hf0 hc1 hf1 hc2 hf2
  have hlw0 : w.heap.size < w9.heap.size := by omega
  have hlw1 : w.heap.size + 1 < w9.heap.size := by omega
  have hlw2 : w.heap.size + 1 + 1 < w9.heap.size := by omega
  have hlw3 : w5.heap.size < w9.heap.size := by omega
  have hlw4 : w7.heap.size < w9.heap.size := by omega
  have urd := rd.mono (show _ ≤ w9.heap.size by omega)
  have ure := re.mono (show _ ≤ w9.heap.size by omega)
  have urh := rh.mono (show _ ≤ w9.heap.size by omega)
  go_wp2_with fail
  go_region_held3 (fun w' => w'.cell? ⟨w.heap.size, 0, none⟩ = some (.int .i64 f.m0) ∧ w'.cell? ⟨w.heap.size, 1, none⟩ = some (.slice Af f.parts.length cf) ∧ w'.cell? ⟨w.heap.size, 2, none⟩ = some (.slice Bf f.surges.length df) ∧ w'.cell? ⟨w.heap.size + 1, 0, none⟩ = some (.slice Ac c.points.length cc) ∧ w'.cell? ⟨w.heap.size + 1, 1, none⟩ = some (.slice Bc c.segs.length dc) ∧ w'.cell? ⟨w.heap.size + 1 + 1, 0, none⟩ = some (.string s.name) ∧ w'.cell? ⟨w.heap.size + 1 + 1, 1, none⟩ = some (.int .i64 s.length) ∧ w'.cell? ⟨w.heap.size + 1 + 1, 2, none⟩ = some (.int .i64 s.draught) ∧ w'.cell? ⟨w.heap.size + 1 + 1, 3, none⟩ = some (.int .i64 s.line) ∧ w'.cell? ⟨w.heap.size + 1 + 1, 4, none⟩ = some (.int .i64 s.tugs) ∧ w'.cell? ⟨w.heap.size + 1 + 1, 5, none⟩ = some (.bool s.slow) ∧ w'.cell? ⟨w5.heap.size, 0, none⟩ = some (.int .i64 f.m0) ∧ w'.cell? ⟨w5.heap.size, 1, none⟩ = some (.slice (some ⟨g1d, 0, none⟩) f.parts.length f.parts.length) ∧ w'.cell? ⟨w5.heap.size, 2, none⟩ = some (.slice (some ⟨g2d, 0, none⟩) f.surges.length f.surges.length) ∧ w'.cell? ⟨w7.heap.size, 0, none⟩ = some (.slice (some ⟨g1e, 0, none⟩) c.points.length c.points.length) ∧ w'.cell? ⟨w7.heap.size, 1, none⟩ = some (.slice (some ⟨g2e, 0, none⟩) c.segs.length c.segs.length) ∧ w.heap.size < w'.heap.size ∧ w.heap.size + 1 < w'.heap.size ∧ w.heap.size + 1 + 1 < w'.heap.size ∧ w5.heap.size < w'.heap.size ∧ w7.heap.size < w'.heap.size ∧ Below w9.heap.size w9 w')
    (first | exact ⟨hy0_0_0, hy0_0_1, hy0_0_2, hy0_1_0, hy0_1_1, hy0_2_0, hy0_2_1, hy0_2_2, hy0_2_3, hy0_2_4, hy0_2_5, hy1_0_0, hy1_0_1, hy1_0_2, hy2_0_0, hy2_0_1, hlw0, hlw1, hlw2, hlw3, hlw4, Below.drew (Below.refl _ _)⟩ | exact ⟨cellKeepL hb' g0_0_0 hlz0, cellKeepL hb' g0_0_1 hlz0, cellKeepL hb' g0_0_2 hlz0, cellKeepL hb' g0_1_0 hlz1, cellKeepL hb' g0_1_1 hlz1, cellKeepL hb' g0_2_0 hlz2, cellKeepL hb' g0_2_1 hlz2, cellKeepL hb' g0_2_2 hlz2, cellKeepL hb' g0_2_3 hlz2, cellKeepL hb' g0_2_4 hlz2, cellKeepL hb' g0_2_5 hlz2, cellKeepL hb' g1_0_0 hlz3, cellKeepL hb' g1_0_1 hlz3, cellKeepL hb' g1_0_2 hlz3, cellKeepL hb' g2_0_0 hlz4, cellKeepL hb' g2_0_1 hlz4, Nat.lt_of_lt_of_le hlz0 hb'.size, Nat.lt_of_lt_of_le hlz1 hb'.size, Nat.lt_of_lt_of_le hlz2 hb'.size, Nat.lt_of_lt_of_le hlz3 hb'.size, Nat.lt_of_lt_of_le hlz4 hb'.size, hBz⟩ | ((repeat' apply And.intro) <;> first | assumption | omega | (rw [hc _ _ (by omega)]; assumption) | (simp [*]; done) | exact Below.drew (Below.refl _ _)))
    (first | (go_at_call 13; obtain ⟨g0_0_0, g0_0_1, g0_0_2, g0_1_0, g0_1_1, g0_2_0, g0_2_1, g0_2_2, g0_2_3, g0_2_4, g0_2_5, g1_0_0, g1_0_1, g1_0_2, g2_0_0, g2_0_1, hlz0, hlz1, hlz2, hlz3, hlz4, hBz⟩ := (by with_reducible assumption : _ ∧ _); with_reducible refine (toShip_any _ _ _ _ _ _ _).mono ?_; rintro e wz ⟨rfl, hb'⟩; obtain ⟨hc, hf⟩ := bcell hb'; have hBz := bnext hBz hb' (Nat.le_refl _)) | (go_at_call 35; obtain ⟨g0_0_0, g0_0_1, g0_0_2, g0_1_0, g0_1_1, g0_2_0, g0_2_1, g0_2_2, g0_2_3, g0_2_4, g0_2_5, g1_0_0, g1_0_1, g1_0_2, g2_0_0, g2_0_1, hlz0, hlz1, hlz2, hlz3, hlz4, hBz⟩ := (by with_reducible assumption : _ ∧ _); with_reducible refine (sailRes_at (impl_FirstSail_any _ _ _ _ _ f c s p a m _ ((urd.keep hBz (Nat.le_refl _)).mono hBz.size) ((ure.keep hBz (Nat.le_refl _)).mono hBz.size) ((urh.keep hBz (Nat.le_refl _)).mono hBz.size) hlena hokc (ShipD.ok_size hoks)) HXb.out HXl.out).mono ?_; rintro e wz ⟨vy, rfl, hPas, hb'⟩; have hMy := hPas.mono hBz.size; obtain ⟨hc, hf⟩ := bcell hb'; have hBz := bnext hBz hb' (Nat.le_refl _)))
  rename World => w10
  have hb10 := hBz
  clear hc hf hBz urd ure urh
  have s10 := hb10.size
  replace rf := rf.keep hb10 (by omega)
  replace rc := rc.keep hb10 (by omega)
  replace ra := ra.keep hb10 (by omega)
  replace rx := rx.keep hb10 (by omega)
  replace rd := rd.keep hb10 (by omega)
  replace odp := odp.keep hb10 (by omega)
  replace ods := ods.keep hb10 (by omega)
  replace re := re.keep hb10 (by omega)
  replace oep := oep.keep hb10 (by omega)
  replace oes := oes.keep hb10 (by omega)
  replace rh := rh.keep hb10 (by omega)
  replace oh := oh.keep hb10 (by omega)
  have hB10 := bnext hB9 hb10 (Nat.le_refl _)
  have hBB0_10 := bnext hBB0_9 hb10 (Nat.le_refl _)
  obtain ⟨hc0, hf0⟩ := bcell hBB0_10
  have hm0_0 : w.heap.size < w10.heap.size := by omega
  have hm0_1 : w.heap.size + 1 < w10.heap.size := by omega
  have hm0_2 : w.heap.size + 1 + 1 < w10.heap.size := by omega
  have hBB1_10 := bnext hBB1_9 hb10 (Nat.le_refl _)
  obtain ⟨hc1, hf1⟩ := bcell hBB1_10
  have hm1_0 : w5.heap.size < w10.heap.size := by omega
  have hBB2_10 := bnext hBB2_9 hb10 (Nat.le_refl _)
  obtain ⟨hc2, hf2⟩ := bcell hBB2_10
  have hm2_0 : w7.heap.size < w10.heap.size := by omega
  clear hPas
  have oy := hMy.b
  have ry := oy.rdB encI_len
  clear hMy
  go_wp2_with fail
  refine (eqIntS_any _ _ _ _ _ (ry.mono (by omega)) (rx.mono (by omega))).mono ?_; rintro e w11 ⟨rfl, hb11⟩
  have s11 := hb11.size
  replace rf := rf.keep hb11 (by omega)
  replace rc := rc.keep hb11 (by omega)
  replace ra := ra.keep hb11 (by omega)
  replace rx := rx.keep hb11 (by omega)
  replace rd := rd.keep hb11 (by omega)
  replace odp := odp.keep hb11 (by omega)
  replace ods := ods.keep hb11 (by omega)
  replace re := re.keep hb11 (by omega)
  replace oep := oep.keep hb11 (by omega)
  replace oes := oes.keep hb11 (by omega)
  replace rh := rh.keep hb11 (by omega)
  replace oh := oh.keep hb11 (by omega)
  replace ry := ry.keep hb11 (by omega)
  replace oy := oy.keep hb11 (by omega)
  have hB11 := bnext hB10 hb11 (Nat.le_refl _)
  have hBB0_11 := bnext hBB0_10 hb11 (Nat.le_refl _)
  clear hc0 hf0; obtain ⟨hc0, hf0⟩ := bcell hBB0_11
  have hm0_0 : w.heap.size < w11.heap.size := by omega
  have hm0_1 : w.heap.size + 1 < w11.heap.size := by omega
  have hm0_2 : w.heap.size + 1 + 1 < w11.heap.size := by omega
  have hBB1_11 := bnext hBB1_10 hb11 (Nat.le_refl _)
  clear hc1 hf1; obtain ⟨hc1, hf1⟩ := bcell hBB1_11
  have hm1_0 : w5.heap.size < w11.heap.size := by omega
  have hBB2_11 := bnext hBB2_10 hb11 (Nat.le_refl _)
  clear hc2 hf2; obtain ⟨hc2, hf2⟩ := bcell hBB2_11
  have hm2_0 : w7.heap.size < w11.heap.size := by omega
  have hy0_0_0 : w11.cell? ⟨w.heap.size, 0, none⟩ = some (.int .i64 f.m0) := by rw [hBB0_11.cell (p := ⟨w.heap.size, 0, none⟩) (by omega)]; exact hx0_0
  have hy0_0_1 : w11.cell? ⟨w.heap.size, 1, none⟩ = some (.slice Af f.parts.length cf) := by rw [hBB0_11.cell (p := ⟨w.heap.size, 1, none⟩) (by omega)]; exact hx0_1
  have hy0_0_2 : w11.cell? ⟨w.heap.size, 2, none⟩ = some (.slice Bf f.surges.length df) := by rw [hBB0_11.cell (p := ⟨w.heap.size, 2, none⟩) (by omega)]; exact hx0_2
  have hy0_1_0 : w11.cell? ⟨w.heap.size + 1, 0, none⟩ = some (.slice Ac c.points.length cc) := by rw [hBB0_11.cell (p := ⟨w.heap.size + 1, 0, none⟩) (by omega)]; exact hx1_0
  have hy0_1_1 : w11.cell? ⟨w.heap.size + 1, 1, none⟩ = some (.slice Bc c.segs.length dc) := by rw [hBB0_11.cell (p := ⟨w.heap.size + 1, 1, none⟩) (by omega)]; exact hx1_1
  have hy0_2_0 : w11.cell? ⟨w.heap.size + 1 + 1, 0, none⟩ = some (.string s.name) := by rw [hBB0_11.cell (p := ⟨w.heap.size + 1 + 1, 0, none⟩) (by omega)]; exact hx2_0
  have hy0_2_1 : w11.cell? ⟨w.heap.size + 1 + 1, 1, none⟩ = some (.int .i64 s.length) := by rw [hBB0_11.cell (p := ⟨w.heap.size + 1 + 1, 1, none⟩) (by omega)]; exact hx2_1
  have hy0_2_2 : w11.cell? ⟨w.heap.size + 1 + 1, 2, none⟩ = some (.int .i64 s.draught) := by rw [hBB0_11.cell (p := ⟨w.heap.size + 1 + 1, 2, none⟩) (by omega)]; exact hx2_2
  have hy0_2_3 : w11.cell? ⟨w.heap.size + 1 + 1, 3, none⟩ = some (.int .i64 s.line) := by rw [hBB0_11.cell (p := ⟨w.heap.size + 1 + 1, 3, none⟩) (by omega)]; exact hx2_3
  have hy0_2_4 : w11.cell? ⟨w.heap.size + 1 + 1, 4, none⟩ = some (.int .i64 s.tugs) := by rw [hBB0_11.cell (p := ⟨w.heap.size + 1 + 1, 4, none⟩) (by omega)]; exact hx2_4
  have hy0_2_5 : w11.cell? ⟨w.heap.size + 1 + 1, 5, none⟩ = some (.bool s.slow) := by rw [hBB0_11.cell (p := ⟨w.heap.size + 1 + 1, 5, none⟩) (by omega)]; exact hx2_5
  have hy1_0_0 : w11.cell? ⟨w5.heap.size, 0, none⟩ = some (.int .i64 f.m0) := by rw [hBB1_11.cell (p := ⟨w5.heap.size, 0, none⟩) (by omega)]; exact hz1_0
  have hy1_0_1 : w11.cell? ⟨w5.heap.size, 1, none⟩ = some (.slice (some ⟨g1d, 0, none⟩) f.parts.length f.parts.length) := by rw [hBB1_11.cell (p := ⟨w5.heap.size, 1, none⟩) (by omega)]; exact hz1_1
  have hy1_0_2 : w11.cell? ⟨w5.heap.size, 2, none⟩ = some (.slice (some ⟨g2d, 0, none⟩) f.surges.length f.surges.length) := by rw [hBB1_11.cell (p := ⟨w5.heap.size, 2, none⟩) (by omega)]; exact hz1_2
  have hy2_0_0 : w11.cell? ⟨w7.heap.size, 0, none⟩ = some (.slice (some ⟨g1e, 0, none⟩) c.points.length c.points.length) := by rw [hBB2_11.cell (p := ⟨w7.heap.size, 0, none⟩) (by omega)]; exact hz2_0
  have hy2_0_1 : w11.cell? ⟨w7.heap.size, 1, none⟩ = some (.slice (some ⟨g2e, 0, none⟩) c.segs.length c.segs.length) := by rw [hBB2_11.cell (p := ⟨w7.heap.size, 1, none⟩) (by omega)]; exact hz2_1
  clear hc0 hf0 hc1 hf1 hc2 hf2
  have hlw0 : w.heap.size < w11.heap.size := by omega
  have hlw1 : w.heap.size + 1 < w11.heap.size := by omega
  have hlw2 : w.heap.size + 1 + 1 < w11.heap.size := by omega
  have hlw3 : w5.heap.size < w11.heap.size := by omega
  have hlw4 : w7.heap.size < w11.heap.size := by omega
  have urf := rf.mono (show _ ≤ w11.heap.size by omega)
  have urd := rd.mono (show _ ≤ w11.heap.size by omega)
  go_wp2_with fail
  go_region_held3 (fun w' => w'.cell? ⟨w.heap.size, 0, none⟩ = some (.int .i64 f.m0) ∧ w'.cell? ⟨w.heap.size, 1, none⟩ = some (.slice Af f.parts.length cf) ∧ w'.cell? ⟨w.heap.size, 2, none⟩ = some (.slice Bf f.surges.length df) ∧ w'.cell? ⟨w.heap.size + 1, 0, none⟩ = some (.slice Ac c.points.length cc) ∧ w'.cell? ⟨w.heap.size + 1, 1, none⟩ = some (.slice Bc c.segs.length dc) ∧ w'.cell? ⟨w.heap.size + 1 + 1, 0, none⟩ = some (.string s.name) ∧ w'.cell? ⟨w.heap.size + 1 + 1, 1, none⟩ = some (.int .i64 s.length) ∧ w'.cell? ⟨w.heap.size + 1 + 1, 2, none⟩ = some (.int .i64 s.draught) ∧ w'.cell? ⟨w.heap.size + 1 + 1, 3, none⟩ = some (.int .i64 s.line) ∧ w'.cell? ⟨w.heap.size + 1 + 1, 4, none⟩ = some (.int .i64 s.tugs) ∧ w'.cell? ⟨w.heap.size + 1 + 1, 5, none⟩ = some (.bool s.slow) ∧ w'.cell? ⟨w5.heap.size, 0, none⟩ = some (.int .i64 f.m0) ∧ w'.cell? ⟨w5.heap.size, 1, none⟩ = some (.slice (some ⟨g1d, 0, none⟩) f.parts.length f.parts.length) ∧ w'.cell? ⟨w5.heap.size, 2, none⟩ = some (.slice (some ⟨g2d, 0, none⟩) f.surges.length f.surges.length) ∧ w'.cell? ⟨w7.heap.size, 0, none⟩ = some (.slice (some ⟨g1e, 0, none⟩) c.points.length c.points.length) ∧ w'.cell? ⟨w7.heap.size, 1, none⟩ = some (.slice (some ⟨g2e, 0, none⟩) c.segs.length c.segs.length) ∧ w.heap.size < w'.heap.size ∧ w.heap.size + 1 < w'.heap.size ∧ w.heap.size + 1 + 1 < w'.heap.size ∧ w5.heap.size < w'.heap.size ∧ w7.heap.size < w'.heap.size ∧ Below w11.heap.size w11 w')
    (first | exact ⟨hy0_0_0, hy0_0_1, hy0_0_2, hy0_1_0, hy0_1_1, hy0_2_0, hy0_2_1, hy0_2_2, hy0_2_3, hy0_2_4, hy0_2_5, hy1_0_0, hy1_0_1, hy1_0_2, hy2_0_0, hy2_0_1, hlw0, hlw1, hlw2, hlw3, hlw4, Below.drew (Below.refl _ _)⟩ | exact ⟨cellKeepL hb' g0_0_0 hlz0, cellKeepL hb' g0_0_1 hlz0, cellKeepL hb' g0_0_2 hlz0, cellKeepL hb' g0_1_0 hlz1, cellKeepL hb' g0_1_1 hlz1, cellKeepL hb' g0_2_0 hlz2, cellKeepL hb' g0_2_1 hlz2, cellKeepL hb' g0_2_2 hlz2, cellKeepL hb' g0_2_3 hlz2, cellKeepL hb' g0_2_4 hlz2, cellKeepL hb' g0_2_5 hlz2, cellKeepL hb' g1_0_0 hlz3, cellKeepL hb' g1_0_1 hlz3, cellKeepL hb' g1_0_2 hlz3, cellKeepL hb' g2_0_0 hlz4, cellKeepL hb' g2_0_1 hlz4, Nat.lt_of_lt_of_le hlz0 hb'.size, Nat.lt_of_lt_of_le hlz1 hb'.size, Nat.lt_of_lt_of_le hlz2 hb'.size, Nat.lt_of_lt_of_le hlz3 hb'.size, Nat.lt_of_lt_of_le hlz4 hb'.size, hBz⟩ | ((repeat' apply And.intro) <;> first | assumption | omega | (rw [hc _ _ (by omega)]; assumption) | (simp [*]; done) | exact Below.drew (Below.refl _ _)))
    (first | (go_at_call 11; obtain ⟨g0_0_0, g0_0_1, g0_0_2, g0_1_0, g0_1_1, g0_2_0, g0_2_1, g0_2_2, g0_2_3, g0_2_4, g0_2_5, g1_0_0, g1_0_1, g1_0_2, g2_0_0, g2_0_1, hlz0, hlz1, hlz2, hlz3, hlz4, hBz⟩ := (by with_reducible assumption : _ ∧ _); with_reducible refine (toForecastR_any _ _ f _ ((urf.keep hBz (Nat.le_refl _)).mono hBz.size) hpf hsf).mono ?_; rintro e wz ⟨gf1, gf2, rfl, hro, hb'⟩; obtain ⟨hc, hf⟩ := bcell hb'; have hBz := bnext hBz hb' (Nat.le_refl _); (try replace hr0 := Rd.below hr0 hb'); (try replace hr0 := RdChart.below hr0 hb'); (try replace hr0 := RdFore.below hr0 hb'); have hr0 := hro) | (go_at_call 16; obtain ⟨g0_0_0, g0_0_1, g0_0_2, g0_1_0, g0_1_1, g0_2_0, g0_2_1, g0_2_2, g0_2_3, g0_2_4, g0_2_5, g1_0_0, g1_0_1, g1_0_2, g2_0_0, g2_0_1, hlz0, hlz1, hlz2, hlz3, hlz4, hBz⟩ := (by with_reducible assumption : _ ∧ _); with_reducible refine (eqForecast_any _ _ _ _ f f _ ((urd.keep hBz (Nat.le_refl _)).mono hBz.size) hr0).mono ?_; rintro e wz ⟨rfl, hb'⟩; obtain ⟨hc, hf⟩ := bcell hb'; have hBz := bnext hBz hb' (Nat.le_refl _); (try replace hr0 := Rd.below hr0 hb'); (try replace hr0 := RdChart.below hr0 hb'); (try replace hr0 := RdFore.below hr0 hb')))
  rename World => w12
  have hb12 := hBz
  clear hc hf hBz urf urd
  have s12 := hb12.size
  replace rf := rf.keep hb12 (by omega)
  replace rc := rc.keep hb12 (by omega)
  replace ra := ra.keep hb12 (by omega)
  replace rx := rx.keep hb12 (by omega)
  replace rd := rd.keep hb12 (by omega)
  replace odp := odp.keep hb12 (by omega)
  replace ods := ods.keep hb12 (by omega)
  replace re := re.keep hb12 (by omega)
  replace oep := oep.keep hb12 (by omega)
  replace oes := oes.keep hb12 (by omega)
  replace rh := rh.keep hb12 (by omega)
  replace oh := oh.keep hb12 (by omega)
  replace ry := ry.keep hb12 (by omega)
  replace oy := oy.keep hb12 (by omega)
  have hB12 := bnext hB11 hb12 (Nat.le_refl _)
  have hBB0_12 := bnext hBB0_11 hb12 (Nat.le_refl _)
  obtain ⟨hc0, hf0⟩ := bcell hBB0_12
  have hm0_0 : w.heap.size < w12.heap.size := by omega
  have hm0_1 : w.heap.size + 1 < w12.heap.size := by omega
  have hm0_2 : w.heap.size + 1 + 1 < w12.heap.size := by omega
  have hBB1_12 := bnext hBB1_11 hb12 (Nat.le_refl _)
  obtain ⟨hc1, hf1⟩ := bcell hBB1_12
  have hm1_0 : w5.heap.size < w12.heap.size := by omega
  have hBB2_12 := bnext hBB2_11 hb12 (Nat.le_refl _)
  obtain ⟨hc2, hf2⟩ := bcell hBB2_12
  have hm2_0 : w7.heap.size < w12.heap.size := by omega
  try rw [ForeD.eqB_self]
  have hy0_0_0 : w12.cell? ⟨w.heap.size, 0, none⟩ = some (.int .i64 f.m0) := by rw [hBB0_12.cell (p := ⟨w.heap.size, 0, none⟩) (by omega)]; exact hx0_0
  have hy0_0_1 : w12.cell? ⟨w.heap.size, 1, none⟩ = some (.slice Af f.parts.length cf) := by rw [hBB0_12.cell (p := ⟨w.heap.size, 1, none⟩) (by omega)]; exact hx0_1
  have hy0_0_2 : w12.cell? ⟨w.heap.size, 2, none⟩ = some (.slice Bf f.surges.length df) := by rw [hBB0_12.cell (p := ⟨w.heap.size, 2, none⟩) (by omega)]; exact hx0_2
  have hy0_1_0 : w12.cell? ⟨w.heap.size + 1, 0, none⟩ = some (.slice Ac c.points.length cc) := by rw [hBB0_12.cell (p := ⟨w.heap.size + 1, 0, none⟩) (by omega)]; exact hx1_0
  have hy0_1_1 : w12.cell? ⟨w.heap.size + 1, 1, none⟩ = some (.slice Bc c.segs.length dc) := by rw [hBB0_12.cell (p := ⟨w.heap.size + 1, 1, none⟩) (by omega)]; exact hx1_1
  have hy0_2_0 : w12.cell? ⟨w.heap.size + 1 + 1, 0, none⟩ = some (.string s.name) := by rw [hBB0_12.cell (p := ⟨w.heap.size + 1 + 1, 0, none⟩) (by omega)]; exact hx2_0
  have hy0_2_1 : w12.cell? ⟨w.heap.size + 1 + 1, 1, none⟩ = some (.int .i64 s.length) := by rw [hBB0_12.cell (p := ⟨w.heap.size + 1 + 1, 1, none⟩) (by omega)]; exact hx2_1
  have hy0_2_2 : w12.cell? ⟨w.heap.size + 1 + 1, 2, none⟩ = some (.int .i64 s.draught) := by rw [hBB0_12.cell (p := ⟨w.heap.size + 1 + 1, 2, none⟩) (by omega)]; exact hx2_2
  have hy0_2_3 : w12.cell? ⟨w.heap.size + 1 + 1, 3, none⟩ = some (.int .i64 s.line) := by rw [hBB0_12.cell (p := ⟨w.heap.size + 1 + 1, 3, none⟩) (by omega)]; exact hx2_3
  have hy0_2_4 : w12.cell? ⟨w.heap.size + 1 + 1, 4, none⟩ = some (.int .i64 s.tugs) := by rw [hBB0_12.cell (p := ⟨w.heap.size + 1 + 1, 4, none⟩) (by omega)]; exact hx2_4
  have hy0_2_5 : w12.cell? ⟨w.heap.size + 1 + 1, 5, none⟩ = some (.bool s.slow) := by rw [hBB0_12.cell (p := ⟨w.heap.size + 1 + 1, 5, none⟩) (by omega)]; exact hx2_5
  have hy1_0_0 : w12.cell? ⟨w5.heap.size, 0, none⟩ = some (.int .i64 f.m0) := by rw [hBB1_12.cell (p := ⟨w5.heap.size, 0, none⟩) (by omega)]; exact hz1_0
  have hy1_0_1 : w12.cell? ⟨w5.heap.size, 1, none⟩ = some (.slice (some ⟨g1d, 0, none⟩) f.parts.length f.parts.length) := by rw [hBB1_12.cell (p := ⟨w5.heap.size, 1, none⟩) (by omega)]; exact hz1_1
  have hy1_0_2 : w12.cell? ⟨w5.heap.size, 2, none⟩ = some (.slice (some ⟨g2d, 0, none⟩) f.surges.length f.surges.length) := by rw [hBB1_12.cell (p := ⟨w5.heap.size, 2, none⟩) (by omega)]; exact hz1_2
  have hy2_0_0 : w12.cell? ⟨w7.heap.size, 0, none⟩ = some (.slice (some ⟨g1e, 0, none⟩) c.points.length c.points.length) := by rw [hBB2_12.cell (p := ⟨w7.heap.size, 0, none⟩) (by omega)]; exact hz2_0
  have hy2_0_1 : w12.cell? ⟨w7.heap.size, 1, none⟩ = some (.slice (some ⟨g2e, 0, none⟩) c.segs.length c.segs.length) := by rw [hBB2_12.cell (p := ⟨w7.heap.size, 1, none⟩) (by omega)]; exact hz2_1
  clear hc0 hf0 hc1 hf1 hc2 hf2
  have hlw0 : w.heap.size < w12.heap.size := by omega
  have hlw1 : w.heap.size + 1 < w12.heap.size := by omega
  have hlw2 : w.heap.size + 1 + 1 < w12.heap.size := by omega
  have hlw3 : w5.heap.size < w12.heap.size := by omega
  have hlw4 : w7.heap.size < w12.heap.size := by omega
  have urc := rc.mono (show _ ≤ w12.heap.size by omega)
  have ure := re.mono (show _ ≤ w12.heap.size by omega)
  go_wp2_with fail
  go_region_held3 (fun w' => w'.cell? ⟨w.heap.size, 0, none⟩ = some (.int .i64 f.m0) ∧ w'.cell? ⟨w.heap.size, 1, none⟩ = some (.slice Af f.parts.length cf) ∧ w'.cell? ⟨w.heap.size, 2, none⟩ = some (.slice Bf f.surges.length df) ∧ w'.cell? ⟨w.heap.size + 1, 0, none⟩ = some (.slice Ac c.points.length cc) ∧ w'.cell? ⟨w.heap.size + 1, 1, none⟩ = some (.slice Bc c.segs.length dc) ∧ w'.cell? ⟨w.heap.size + 1 + 1, 0, none⟩ = some (.string s.name) ∧ w'.cell? ⟨w.heap.size + 1 + 1, 1, none⟩ = some (.int .i64 s.length) ∧ w'.cell? ⟨w.heap.size + 1 + 1, 2, none⟩ = some (.int .i64 s.draught) ∧ w'.cell? ⟨w.heap.size + 1 + 1, 3, none⟩ = some (.int .i64 s.line) ∧ w'.cell? ⟨w.heap.size + 1 + 1, 4, none⟩ = some (.int .i64 s.tugs) ∧ w'.cell? ⟨w.heap.size + 1 + 1, 5, none⟩ = some (.bool s.slow) ∧ w'.cell? ⟨w5.heap.size, 0, none⟩ = some (.int .i64 f.m0) ∧ w'.cell? ⟨w5.heap.size, 1, none⟩ = some (.slice (some ⟨g1d, 0, none⟩) f.parts.length f.parts.length) ∧ w'.cell? ⟨w5.heap.size, 2, none⟩ = some (.slice (some ⟨g2d, 0, none⟩) f.surges.length f.surges.length) ∧ w'.cell? ⟨w7.heap.size, 0, none⟩ = some (.slice (some ⟨g1e, 0, none⟩) c.points.length c.points.length) ∧ w'.cell? ⟨w7.heap.size, 1, none⟩ = some (.slice (some ⟨g2e, 0, none⟩) c.segs.length c.segs.length) ∧ w.heap.size < w'.heap.size ∧ w.heap.size + 1 < w'.heap.size ∧ w.heap.size + 1 + 1 < w'.heap.size ∧ w5.heap.size < w'.heap.size ∧ w7.heap.size < w'.heap.size ∧ Below w12.heap.size w12 w')
    (first | exact ⟨hy0_0_0, hy0_0_1, hy0_0_2, hy0_1_0, hy0_1_1, hy0_2_0, hy0_2_1, hy0_2_2, hy0_2_3, hy0_2_4, hy0_2_5, hy1_0_0, hy1_0_1, hy1_0_2, hy2_0_0, hy2_0_1, hlw0, hlw1, hlw2, hlw3, hlw4, Below.drew (Below.refl _ _)⟩ | exact ⟨cellKeepL hb' g0_0_0 hlz0, cellKeepL hb' g0_0_1 hlz0, cellKeepL hb' g0_0_2 hlz0, cellKeepL hb' g0_1_0 hlz1, cellKeepL hb' g0_1_1 hlz1, cellKeepL hb' g0_2_0 hlz2, cellKeepL hb' g0_2_1 hlz2, cellKeepL hb' g0_2_2 hlz2, cellKeepL hb' g0_2_3 hlz2, cellKeepL hb' g0_2_4 hlz2, cellKeepL hb' g0_2_5 hlz2, cellKeepL hb' g1_0_0 hlz3, cellKeepL hb' g1_0_1 hlz3, cellKeepL hb' g1_0_2 hlz3, cellKeepL hb' g2_0_0 hlz4, cellKeepL hb' g2_0_1 hlz4, Nat.lt_of_lt_of_le hlz0 hb'.size, Nat.lt_of_lt_of_le hlz1 hb'.size, Nat.lt_of_lt_of_le hlz2 hb'.size, Nat.lt_of_lt_of_le hlz3 hb'.size, Nat.lt_of_lt_of_le hlz4 hb'.size, hBz⟩ | ((repeat' apply And.intro) <;> first | assumption | omega | (rw [hc _ _ (by omega)]; assumption) | (simp [*]; done) | exact Below.drew (Below.refl _ _)))
    (first | (go_at_call 12; obtain ⟨g0_0_0, g0_0_1, g0_0_2, g0_1_0, g0_1_1, g0_2_0, g0_2_1, g0_2_2, g0_2_3, g0_2_4, g0_2_5, g1_0_0, g1_0_1, g1_0_2, g2_0_0, g2_0_1, hlz0, hlz1, hlz2, hlz3, hlz4, hBz⟩ := (by with_reducible assumption : _ ∧ _); with_reducible refine (toChart_any _ _ c _ ((urc.keep hBz (Nat.le_refl _)).mono hBz.size) hpc hsc).mono ?_; rintro e wz ⟨gz1, gz2, rfl, hrc, hb'⟩; obtain ⟨hc, hf⟩ := bcell hb'; have hBz := bnext hBz hb' (Nat.le_refl _); (try replace hr0 := Rd.below hr0 hb'); (try replace hr0 := RdChart.below hr0 hb'); (try replace hr0 := RdFore.below hr0 hb'); have hr0 := hrc) | (go_at_call 17; obtain ⟨g0_0_0, g0_0_1, g0_0_2, g0_1_0, g0_1_1, g0_2_0, g0_2_1, g0_2_2, g0_2_3, g0_2_4, g0_2_5, g1_0_0, g1_0_1, g1_0_2, g2_0_0, g2_0_1, hlz0, hlz1, hlz2, hlz3, hlz4, hBz⟩ := (by with_reducible assumption : _ ∧ _); with_reducible refine (eqChart_any _ _ _ _ c c _ ((ure.keep hBz (Nat.le_refl _)).mono hBz.size) hr0).mono ?_; rintro e wz ⟨rfl, hb'⟩; obtain ⟨hc, hf⟩ := bcell hb'; have hBz := bnext hBz hb' (Nat.le_refl _); (try replace hr0 := Rd.below hr0 hb'); (try replace hr0 := RdChart.below hr0 hb'); (try replace hr0 := RdFore.below hr0 hb')))
  rename World => w13
  have hb13 := hBz
  clear hc hf hBz urc ure
  have s13 := hb13.size
  replace rf := rf.keep hb13 (by omega)
  replace rc := rc.keep hb13 (by omega)
  replace ra := ra.keep hb13 (by omega)
  replace rx := rx.keep hb13 (by omega)
  replace rd := rd.keep hb13 (by omega)
  replace odp := odp.keep hb13 (by omega)
  replace ods := ods.keep hb13 (by omega)
  replace re := re.keep hb13 (by omega)
  replace oep := oep.keep hb13 (by omega)
  replace oes := oes.keep hb13 (by omega)
  replace rh := rh.keep hb13 (by omega)
  replace oh := oh.keep hb13 (by omega)
  replace ry := ry.keep hb13 (by omega)
  replace oy := oy.keep hb13 (by omega)
  have hB13 := bnext hB12 hb13 (Nat.le_refl _)
  have hBB0_13 := bnext hBB0_12 hb13 (Nat.le_refl _)
  obtain ⟨hc0, hf0⟩ := bcell hBB0_13
  have hm0_0 : w.heap.size < w13.heap.size := by omega
  have hm0_1 : w.heap.size + 1 < w13.heap.size := by omega
  have hm0_2 : w.heap.size + 1 + 1 < w13.heap.size := by omega
  have hBB1_13 := bnext hBB1_12 hb13 (Nat.le_refl _)
  obtain ⟨hc1, hf1⟩ := bcell hBB1_13
  have hm1_0 : w5.heap.size < w13.heap.size := by omega
  have hBB2_13 := bnext hBB2_12 hb13 (Nat.le_refl _)
  obtain ⟨hc2, hf2⟩ := bcell hBB2_13
  have hm2_0 : w7.heap.size < w13.heap.size := by omega
  try rw [decide_eq_true rfl]
  go_wp2_with fail
  refine (toIntS_any _ _ _ (ra.mono (by omega)) (by omega)).mono ?_; rintro e w14 ⟨v14, rfl, ho14, hb14⟩
  have s14 := hb14.size
  replace rf := rf.keep hb14 (by omega)
  replace rc := rc.keep hb14 (by omega)
  replace ra := ra.keep hb14 (by omega)
  replace rx := rx.keep hb14 (by omega)
  replace rd := rd.keep hb14 (by omega)
  replace odp := odp.keep hb14 (by omega)
  replace ods := ods.keep hb14 (by omega)
  replace re := re.keep hb14 (by omega)
  replace oep := oep.keep hb14 (by omega)
  replace oes := oes.keep hb14 (by omega)
  replace rh := rh.keep hb14 (by omega)
  replace oh := oh.keep hb14 (by omega)
  replace ry := ry.keep hb14 (by omega)
  replace oy := oy.keep hb14 (by omega)
  have hB14 := bnext hB13 hb14 (Nat.le_refl _)
  have hBB0_14 := bnext hBB0_13 hb14 (Nat.le_refl _)
  clear hc0 hf0; obtain ⟨hc0, hf0⟩ := bcell hBB0_14
  have hm0_0 : w.heap.size < w14.heap.size := by omega
  have hm0_1 : w.heap.size + 1 < w14.heap.size := by omega
  have hm0_2 : w.heap.size + 1 + 1 < w14.heap.size := by omega
  have hBB1_14 := bnext hBB1_13 hb14 (Nat.le_refl _)
  clear hc1 hf1; obtain ⟨hc1, hf1⟩ := bcell hBB1_14
  have hm1_0 : w5.heap.size < w14.heap.size := by omega
  have hBB2_14 := bnext hBB2_13 hb14 (Nat.le_refl _)
  clear hc2 hf2; obtain ⟨hc2, hf2⟩ := bcell hBB2_14
  have hm2_0 : w7.heap.size < w14.heap.size := by omega
  have og := ho14.b
  have rg := og.rdB encI_len
  clear ho14
  clear og
  go_wp2_with fail
  refine (eqIntS_any _ _ _ _ _ (rh.mono (by omega)) (rg.mono (by omega))).mono ?_; rintro e w15 ⟨rfl, hb15⟩
  have s15 := hb15.size
  replace rf := rf.keep hb15 (by omega)
  replace rc := rc.keep hb15 (by omega)
  replace ra := ra.keep hb15 (by omega)
  replace rx := rx.keep hb15 (by omega)
  replace rd := rd.keep hb15 (by omega)
  replace odp := odp.keep hb15 (by omega)
  replace ods := ods.keep hb15 (by omega)
  replace re := re.keep hb15 (by omega)
  replace oep := oep.keep hb15 (by omega)
  replace oes := oes.keep hb15 (by omega)
  replace rh := rh.keep hb15 (by omega)
  replace oh := oh.keep hb15 (by omega)
  replace ry := ry.keep hb15 (by omega)
  replace oy := oy.keep hb15 (by omega)
  replace rg := rg.keep hb15 (by omega)
  have hB15 := bnext hB14 hb15 (Nat.le_refl _)
  have hBB0_15 := bnext hBB0_14 hb15 (Nat.le_refl _)
  clear hc0 hf0; obtain ⟨hc0, hf0⟩ := bcell hBB0_15
  have hm0_0 : w.heap.size < w15.heap.size := by omega
  have hm0_1 : w.heap.size + 1 < w15.heap.size := by omega
  have hm0_2 : w.heap.size + 1 + 1 < w15.heap.size := by omega
  have hBB1_15 := bnext hBB1_14 hb15 (Nat.le_refl _)
  clear hc1 hf1; obtain ⟨hc1, hf1⟩ := bcell hBB1_15
  have hm1_0 : w5.heap.size < w15.heap.size := by omega
  have hBB2_15 := bnext hBB2_14 hb15 (Nat.le_refl _)
  clear hc2 hf2; obtain ⟨hc2, hf2⟩ := bcell hBB2_15
  have hm2_0 : w7.heap.size < w15.heap.size := by omega
  clear rg
  clear rd
  clear re
  go_wp2_with fail
  refine (markForecast_any _ _ f 1 _ _ _ odp ods (by omega) (by omega) (by omega) (by omega) hpf hsf).mono ?_; rintro e w16 ⟨rfl, ht16⟩
  clear odp
  clear ods
  have s16 := ht16.size
  have hk16_2_0 : w7.heap.size < w16.heap.size := by omega
  have hz16_2_0_0 : w16.cell? ⟨w7.heap.size, 0, none⟩ = some (.slice (some ⟨g1e, 0, none⟩) c.points.length c.points.length) := by rw [World.cell?_of_block (ht16.block w7.heap.size (by omega) (by omega)), hBB2_15.cell (p := ⟨w7.heap.size, 0, none⟩) (by omega)]; exact hz2_0
  have hz16_2_0_1 : w16.cell? ⟨w7.heap.size, 1, none⟩ = some (.slice (some ⟨g2e, 0, none⟩) c.segs.length c.segs.length) := by rw [World.cell?_of_block (ht16.block w7.heap.size (by omega) (by omega)), hBB2_15.cell (p := ⟨w7.heap.size, 1, none⟩) (by omega)]; exact hz2_1
  replace oep := oep.tou ht16 (by omega)
  replace oes := oes.tou ht16 (by omega)
  replace oh := oh.tou ht16 (by omega)
  replace oy := oy.tou ht16 (by omega)
  replace rf := rf.keep (ht16.below (by omega)) (by omega)
  replace rc := rc.keep (ht16.below (by omega)) (by omega)
  replace ra := ra.keep (ht16.below (by omega)) (by omega)
  replace rx := rx.keep (ht16.below (by omega)) (by omega)
  replace rh := oh.rdB encI_len
  replace ry := oy.rdB encI_len
  have hB16 := hB15.trans ((ht16.below (by omega)).mono (by omega))
  clear hc1 hf1
  clear hc2 hf2
  have hBB0_16 := hBB0_15.trans ((ht16.below (by omega)).mono (by omega))
  clear hc0 hf0; obtain ⟨hc0, hf0⟩ := bcell hBB0_16
  have hm0_0 : w.heap.size < w16.heap.size := by omega
  have hm0_1 : w.heap.size + 1 < w16.heap.size := by omega
  have hm0_2 : w.heap.size + 1 + 1 < w16.heap.size := by omega
  have hBB1 := Below.refl w16.heap.size w16
  obtain ⟨hc1, hf1⟩ := bcell hBB1
  go_wp2_with fail
  refine (markChart_any _ _ c (1 + (f.parts.length : Int) * 3 + (f.surges.length : Int) * 3) _ _ _ oep oes (by omega) (by omega) (by omega) hpc hsc).mono ?_; rintro e w17 ⟨rfl, ht17⟩
  clear oep
  clear oes
  have s17 := ht17.size
  replace oh := oh.tou ht17 (by omega)
  replace oy := oy.tou ht17 (by omega)
  replace rf := rf.keep (ht17.below (by omega)) (by omega)
  replace rc := rc.keep (ht17.below (by omega)) (by omega)
  replace ra := ra.keep (ht17.below (by omega)) (by omega)
  replace rx := rx.keep (ht17.below (by omega)) (by omega)
  replace rh := oh.rdB encI_len
  replace ry := oy.rdB encI_len
  have hB17 := hB16.trans ((ht17.below (by omega)).mono (by omega))
  clear hc1 hf1
  have hBB0_17 := hBB0_16.trans ((ht17.below (by omega)).mono (by omega))
  clear hc0 hf0; obtain ⟨hc0, hf0⟩ := bcell hBB0_17
  have hm0_0 : w.heap.size < w17.heap.size := by omega
  have hm0_1 : w.heap.size + 1 < w17.heap.size := by omega
  have hm0_2 : w.heap.size + 1 + 1 < w17.heap.size := by omega
  go_wp2_with fail
  refine (markIntS_any _ _ _ _ _ oh.1 (by omega) (by omega) (by omega)).mono ?_; rintro e w18 ⟨rfl, ho18, hg18⟩
  have ht18 := Tou.grown hg18 (fun k hk => ⟨(World.ownsRow.lt oh.1 k hk).1, oh.2 k hk⟩)
  replace oh := oh.again ho18; clear ho18 hg18
  have s18 := ht18.size
  replace oy := oy.tou ht18 (by omega)
  replace rf := rf.keep (ht18.below (by omega)) (by omega)
  replace rc := rc.keep (ht18.below (by omega)) (by omega)
  replace ra := ra.keep (ht18.below (by omega)) (by omega)
  replace rx := rx.keep (ht18.below (by omega)) (by omega)
  replace rh := oh.rdB encI_len
  replace ry := oy.rdB encI_len
  have hB18 := hB17.trans ((ht18.below (by omega)).mono (by omega))
  have hBB0_18 := hBB0_17.trans ((ht18.below (by omega)).mono (by omega))
  clear hc0 hf0; obtain ⟨hc0, hf0⟩ := bcell hBB0_18
  have hm0_0 : w.heap.size < w18.heap.size := by omega
  have hm0_1 : w.heap.size + 1 < w18.heap.size := by omega
  have hm0_2 : w.heap.size + 1 + 1 < w18.heap.size := by omega
  clear rh
  clear oh
  go_wp2_with fail
  refine (eqIntS_any _ _ _ _ _ (ry.mono (by omega)) (rx.mono (by omega))).mono ?_; rintro e w19 ⟨rfl, hb19⟩
  have s19 := hb19.size
  replace rf := rf.keep hb19 (by omega)
  replace rc := rc.keep hb19 (by omega)
  replace ra := ra.keep hb19 (by omega)
  replace rx := rx.keep hb19 (by omega)
  replace ry := ry.keep hb19 (by omega)
  replace oy := oy.keep hb19 (by omega)
  have hB19 := bnext hB18 hb19 (Nat.le_refl _)
  have hBB0_19 := bnext hBB0_18 hb19 (Nat.le_refl _)
  clear hc0 hf0; obtain ⟨hc0, hf0⟩ := bcell hBB0_19
  have hm0_0 : w.heap.size < w19.heap.size := by omega
  have hm0_1 : w.heap.size + 1 < w19.heap.size := by omega
  have hm0_2 : w.heap.size + 1 + 1 < w19.heap.size := by omega
  go_wp2_with fail
  refine (markIntS_any _ _ _ _ _ oy.1 (by omega) (by omega) (by omega)).mono ?_; rintro e w20 ⟨rfl, ho20, hg20⟩
  have ht20 := Tou.grown hg20 (fun k hk => ⟨(World.ownsRow.lt oy.1 k hk).1, oy.2 k hk⟩)
  replace oy := oy.again ho20; clear ho20 hg20
  have s20 := ht20.size
  replace rf := rf.keep (ht20.below (by omega)) (by omega)
  replace rc := rc.keep (ht20.below (by omega)) (by omega)
  replace ra := ra.keep (ht20.below (by omega)) (by omega)
  replace rx := rx.keep (ht20.below (by omega)) (by omega)
  replace ry := oy.rdB encI_len
  have hB20 := hB19.trans ((ht20.below (by omega)).mono (by omega))
  have hBB0_20 := hBB0_19.trans ((ht20.below (by omega)).mono (by omega))
  clear hc0 hf0; obtain ⟨hc0, hf0⟩ := bcell hBB0_20
  have hm0_0 : w.heap.size < w20.heap.size := by omega
  have hm0_1 : w.heap.size + 1 < w20.heap.size := by omega
  have hm0_2 : w.heap.size + 1 + 1 < w20.heap.size := by omega
  go_wp2_with fail
  refine (heldIntS_any _ _ _ _ (ry.mono (by omega)) (by omega) (by omega) (by omega)).mono ?_; rintro e w21 ⟨rfl, hb21⟩
  have s21 := hb21.size
  replace rf := rf.keep hb21 (by omega)
  replace rc := rc.keep hb21 (by omega)
  replace ra := ra.keep hb21 (by omega)
  replace rx := rx.keep hb21 (by omega)
  replace ry := ry.keep hb21 (by omega)
  replace oy := oy.keep hb21 (by omega)
  have hB21 := bnext hB20 hb21 (Nat.le_refl _)
  have hBB0_21 := bnext hBB0_20 hb21 (Nat.le_refl _)
  clear hc0 hf0; obtain ⟨hc0, hf0⟩ := bcell hBB0_21
  have hm0_0 : w.heap.size < w21.heap.size := by omega
  have hm0_1 : w.heap.size + 1 < w21.heap.size := by omega
  have hm0_2 : w.heap.size + 1 + 1 < w21.heap.size := by omega
  have hy0_0_0 : w21.cell? ⟨w.heap.size, 0, none⟩ = some (.int .i64 f.m0) := by rw [hBB0_21.cell (p := ⟨w.heap.size, 0, none⟩) (by omega)]; exact hx0_0
  have hy0_0_1 : w21.cell? ⟨w.heap.size, 1, none⟩ = some (.slice Af f.parts.length cf) := by rw [hBB0_21.cell (p := ⟨w.heap.size, 1, none⟩) (by omega)]; exact hx0_1
  have hy0_0_2 : w21.cell? ⟨w.heap.size, 2, none⟩ = some (.slice Bf f.surges.length df) := by rw [hBB0_21.cell (p := ⟨w.heap.size, 2, none⟩) (by omega)]; exact hx0_2
  have hy0_1_0 : w21.cell? ⟨w.heap.size + 1, 0, none⟩ = some (.slice Ac c.points.length cc) := by rw [hBB0_21.cell (p := ⟨w.heap.size + 1, 0, none⟩) (by omega)]; exact hx1_0
  have hy0_1_1 : w21.cell? ⟨w.heap.size + 1, 1, none⟩ = some (.slice Bc c.segs.length dc) := by rw [hBB0_21.cell (p := ⟨w.heap.size + 1, 1, none⟩) (by omega)]; exact hx1_1
  have hy0_2_0 : w21.cell? ⟨w.heap.size + 1 + 1, 0, none⟩ = some (.string s.name) := by rw [hBB0_21.cell (p := ⟨w.heap.size + 1 + 1, 0, none⟩) (by omega)]; exact hx2_0
  have hy0_2_1 : w21.cell? ⟨w.heap.size + 1 + 1, 1, none⟩ = some (.int .i64 s.length) := by rw [hBB0_21.cell (p := ⟨w.heap.size + 1 + 1, 1, none⟩) (by omega)]; exact hx2_1
  have hy0_2_2 : w21.cell? ⟨w.heap.size + 1 + 1, 2, none⟩ = some (.int .i64 s.draught) := by rw [hBB0_21.cell (p := ⟨w.heap.size + 1 + 1, 2, none⟩) (by omega)]; exact hx2_2
  have hy0_2_3 : w21.cell? ⟨w.heap.size + 1 + 1, 3, none⟩ = some (.int .i64 s.line) := by rw [hBB0_21.cell (p := ⟨w.heap.size + 1 + 1, 3, none⟩) (by omega)]; exact hx2_3
  have hy0_2_4 : w21.cell? ⟨w.heap.size + 1 + 1, 4, none⟩ = some (.int .i64 s.tugs) := by rw [hBB0_21.cell (p := ⟨w.heap.size + 1 + 1, 4, none⟩) (by omega)]; exact hx2_4
  have hy0_2_5 : w21.cell? ⟨w.heap.size + 1 + 1, 5, none⟩ = some (.bool s.slow) := by rw [hBB0_21.cell (p := ⟨w.heap.size + 1 + 1, 5, none⟩) (by omega)]; exact hx2_5
  clear hc0 hf0
  have hlw0 : w.heap.size < w21.heap.size := by omega
  have hlw1 : w.heap.size + 1 < w21.heap.size := by omega
  have hlw2 : w.heap.size + 1 + 1 < w21.heap.size := by omega
  have urf := rf.mono (show _ ≤ w21.heap.size by omega)
  have urc := rc.mono (show _ ≤ w21.heap.size by omega)
  have ura := ra.mono (show _ ≤ w21.heap.size by omega)
  have hle_a : a.length ≤ 1048576 := by omega
  go_wp2_with fail
  go_region_held3 (fun w' => w'.cell? ⟨w.heap.size, 0, none⟩ = some (.int .i64 f.m0) ∧ w'.cell? ⟨w.heap.size, 1, none⟩ = some (.slice Af f.parts.length cf) ∧ w'.cell? ⟨w.heap.size, 2, none⟩ = some (.slice Bf f.surges.length df) ∧ w'.cell? ⟨w.heap.size + 1, 0, none⟩ = some (.slice Ac c.points.length cc) ∧ w'.cell? ⟨w.heap.size + 1, 1, none⟩ = some (.slice Bc c.segs.length dc) ∧ w'.cell? ⟨w.heap.size + 1 + 1, 0, none⟩ = some (.string s.name) ∧ w'.cell? ⟨w.heap.size + 1 + 1, 1, none⟩ = some (.int .i64 s.length) ∧ w'.cell? ⟨w.heap.size + 1 + 1, 2, none⟩ = some (.int .i64 s.draught) ∧ w'.cell? ⟨w.heap.size + 1 + 1, 3, none⟩ = some (.int .i64 s.line) ∧ w'.cell? ⟨w.heap.size + 1 + 1, 4, none⟩ = some (.int .i64 s.tugs) ∧ w'.cell? ⟨w.heap.size + 1 + 1, 5, none⟩ = some (.bool s.slow) ∧ w.heap.size < w'.heap.size ∧ w.heap.size + 1 < w'.heap.size ∧ w.heap.size + 1 + 1 < w'.heap.size ∧ Below w21.heap.size w21 w')
    (first | exact ⟨hy0_0_0, hy0_0_1, hy0_0_2, hy0_1_0, hy0_1_1, hy0_2_0, hy0_2_1, hy0_2_2, hy0_2_3, hy0_2_4, hy0_2_5, hlw0, hlw1, hlw2, Below.drew (Below.refl _ _)⟩ | exact ⟨cellKeepL hb' g0_0_0 hlz0, cellKeepL hb' g0_0_1 hlz0, cellKeepL hb' g0_0_2 hlz0, cellKeepL hb' g0_1_0 hlz1, cellKeepL hb' g0_1_1 hlz1, cellKeepL hb' g0_2_0 hlz2, cellKeepL hb' g0_2_1 hlz2, cellKeepL hb' g0_2_2 hlz2, cellKeepL hb' g0_2_3 hlz2, cellKeepL hb' g0_2_4 hlz2, cellKeepL hb' g0_2_5 hlz2, Nat.lt_of_lt_of_le hlz0 hb'.size, Nat.lt_of_lt_of_le hlz1 hb'.size, Nat.lt_of_lt_of_le hlz2 hb'.size, hBz⟩ | ((repeat' apply And.intro) <;> first | assumption | omega | (rw [hc _ _ (by omega)]; assumption) | (simp [*]; done) | exact Below.drew (Below.refl _ _)))
    (first | (go_at_call 11; obtain ⟨g0_0_0, g0_0_1, g0_0_2, g0_1_0, g0_1_1, g0_2_0, g0_2_1, g0_2_2, g0_2_3, g0_2_4, g0_2_5, hlz0, hlz1, hlz2, hBz⟩ := (by with_reducible assumption : _ ∧ _); with_reducible refine (toForecastR_any _ _ f _ ((urf.keep hBz (Nat.le_refl _)).mono hBz.size) hpf hsf).mono ?_; rintro e wz ⟨gf1, gf2, rfl, hro, hb'⟩; obtain ⟨hc, hf⟩ := bcell hb'; have hBz := bnext hBz hb' (Nat.le_refl _); (try replace hr0 := Rd.below hr0 hb'); (try replace hr0 := RdChart.below hr0 hb'); (try replace hr0 := RdFore.below hr0 hb'); (try replace hr1 := Rd.below hr1 hb'); (try replace hr1 := RdChart.below hr1 hb'); (try replace hr1 := RdFore.below hr1 hb'); (try replace hr2 := Rd.below hr2 hb'); (try replace hr2 := RdChart.below hr2 hb'); (try replace hr2 := RdFore.below hr2 hb'); have hr0 := hro) | (go_at_call 12; obtain ⟨g0_0_0, g0_0_1, g0_0_2, g0_1_0, g0_1_1, g0_2_0, g0_2_1, g0_2_2, g0_2_3, g0_2_4, g0_2_5, hlz0, hlz1, hlz2, hBz⟩ := (by with_reducible assumption : _ ∧ _); with_reducible refine (toChart_any _ _ c _ ((urc.keep hBz (Nat.le_refl _)).mono hBz.size) hpc hsc).mono ?_; rintro e wz ⟨gz1, gz2, rfl, hrc, hb'⟩; obtain ⟨hc, hf⟩ := bcell hb'; have hBz := bnext hBz hb' (Nat.le_refl _); (try replace hr0 := Rd.below hr0 hb'); (try replace hr0 := RdChart.below hr0 hb'); (try replace hr0 := RdFore.below hr0 hb'); (try replace hr1 := Rd.below hr1 hb'); (try replace hr1 := RdChart.below hr1 hb'); (try replace hr1 := RdFore.below hr1 hb'); (try replace hr2 := Rd.below hr2 hb'); (try replace hr2 := RdChart.below hr2 hb'); (try replace hr2 := RdFore.below hr2 hb'); have hr1 := hrc) | (go_at_call 13; obtain ⟨g0_0_0, g0_0_1, g0_0_2, g0_1_0, g0_1_1, g0_2_0, g0_2_1, g0_2_2, g0_2_3, g0_2_4, g0_2_5, hlz0, hlz1, hlz2, hBz⟩ := (by with_reducible assumption : _ ∧ _); with_reducible refine (toShip_any _ _ _ _ _ _ _).mono ?_; rintro e wz ⟨rfl, hb'⟩; obtain ⟨hc, hf⟩ := bcell hb'; have hBz := bnext hBz hb' (Nat.le_refl _); (try replace hr0 := Rd.below hr0 hb'); (try replace hr0 := RdChart.below hr0 hb'); (try replace hr0 := RdFore.below hr0 hb'); (try replace hr1 := Rd.below hr1 hb'); (try replace hr1 := RdChart.below hr1 hb'); (try replace hr1 := RdFore.below hr1 hb'); (try replace hr2 := Rd.below hr2 hb'); (try replace hr2 := RdChart.below hr2 hb'); (try replace hr2 := RdFore.below hr2 hb')) | (go_at_call 29; obtain ⟨g0_0_0, g0_0_1, g0_0_2, g0_1_0, g0_1_1, g0_2_0, g0_2_1, g0_2_2, g0_2_3, g0_2_4, g0_2_5, hlz0, hlz1, hlz2, hBz⟩ := (by with_reducible assumption : _ ∧ _); with_reducible refine (toIntS_at _ a _ ((ura.keep hBz (Nat.le_refl _)).mono hBz.size) hle_a).mono ?_; rintro e wz ⟨rfl, ho, hb'⟩; obtain ⟨hc, hf⟩ := bcell hb'; have hBz := bnext hBz hb' (Nat.le_refl _); (try replace hr0 := Rd.below hr0 hb'); (try replace hr0 := RdChart.below hr0 hb'); (try replace hr0 := RdFore.below hr0 hb'); (try replace hr1 := Rd.below hr1 hb'); (try replace hr1 := RdChart.below hr1 hb'); (try replace hr1 := RdFore.below hr1 hb'); (try replace hr2 := Rd.below hr2 hb'); (try replace hr2 := RdChart.below hr2 hb'); (try replace hr2 := RdFore.below hr2 hb'); have hr2 := Own.rd encI_len ho) | (go_at_call 35; obtain ⟨g0_0_0, g0_0_1, g0_0_2, g0_1_0, g0_1_1, g0_2_0, g0_2_1, g0_2_2, g0_2_3, g0_2_4, g0_2_5, hlz0, hlz1, hlz2, hBz⟩ := (by with_reducible assumption : _ ∧ _); with_reducible refine (sailRes_at (impl_FirstSail_any _ _ _ _ _ f c s p a m _ hr0 hr1 hr2 hlena hokc (ShipD.ok_size hoks)) HXb.out HXl.out).mono ?_; rintro e wz ⟨vz, rfl, hPas, hb'⟩; obtain ⟨hc, hf⟩ := bcell hb'; have hBz := bnext hBz hb' (Nat.le_refl _); (try replace hr0 := Rd.below hr0 hb'); (try replace hr0 := RdChart.below hr0 hb'); (try replace hr0 := RdFore.below hr0 hb'); (try replace hr1 := Rd.below hr1 hb'); (try replace hr1 := RdChart.below hr1 hb'); (try replace hr1 := RdFore.below hr1 hb'); (try replace hr2 := Rd.below hr2 hb'); (try replace hr2 := RdChart.below hr2 hb'); (try replace hr2 := RdFore.below hr2 hb')))
  rename World => w22
  have hb22 := hBz
  clear hc hf hBz urf urc ura hle_a
  have s22 := hb22.size
  replace rf := rf.keep hb22 (by omega)
  replace rc := rc.keep hb22 (by omega)
  replace ra := ra.keep hb22 (by omega)
  replace rx := rx.keep hb22 (by omega)
  replace ry := ry.keep hb22 (by omega)
  replace oy := oy.keep hb22 (by omega)
  have hB22 := bnext hB21 hb22 (Nat.le_refl _)
  have hBB0_22 := bnext hBB0_21 hb22 (Nat.le_refl _)
  obtain ⟨hc0, hf0⟩ := bcell hBB0_22
  have hm0_0 : w.heap.size < w22.heap.size := by omega
  have hm0_1 : w.heap.size + 1 < w22.heap.size := by omega
  have hm0_2 : w.heap.size + 1 + 1 < w22.heap.size := by omega
  have rz := Own.rd encI_len hPas
  clear hPas
  go_wp2_with fail
  refine (eqIntS_any _ _ _ _ _ (rz.mono (by omega)) (rx.mono (by omega))).mono ?_; rintro e w23 ⟨rfl, hb23⟩
  have s23 := hb23.size
  replace rf := rf.keep hb23 (by omega)
  replace rc := rc.keep hb23 (by omega)
  replace ra := ra.keep hb23 (by omega)
  replace rx := rx.keep hb23 (by omega)
  replace ry := ry.keep hb23 (by omega)
  replace oy := oy.keep hb23 (by omega)
  replace rz := rz.keep hb23 (by omega)
  have hB23 := bnext hB22 hb23 (Nat.le_refl _)
  have hBB0_23 := bnext hBB0_22 hb23 (Nat.le_refl _)
  clear hc0 hf0; obtain ⟨hc0, hf0⟩ := bcell hBB0_23
  have hm0_0 : w.heap.size < w23.heap.size := by omega
  have hm0_1 : w.heap.size + 1 < w23.heap.size := by omega
  have hm0_2 : w.heap.size + 1 + 1 < w23.heap.size := by omega
  go_wp2_with fail
  refine (heldIntS_any _ _ _ _ (ry.mono (by omega)) (by omega) (by omega) (by omega)).mono ?_; rintro e w24 ⟨rfl, hb24⟩
  have s24 := hb24.size
  replace rf := rf.keep hb24 (by omega)
  replace rc := rc.keep hb24 (by omega)
  replace ra := ra.keep hb24 (by omega)
  replace rx := rx.keep hb24 (by omega)
  replace ry := ry.keep hb24 (by omega)
  replace oy := oy.keep hb24 (by omega)
  replace rz := rz.keep hb24 (by omega)
  have hB24 := bnext hB23 hb24 (Nat.le_refl _)
  have hBB0_24 := bnext hBB0_23 hb24 (Nat.le_refl _)
  clear hc0 hf0; obtain ⟨hc0, hf0⟩ := bcell hBB0_24
  have hm0_0 : w.heap.size < w24.heap.size := by omega
  have hm0_1 : w.heap.size + 1 < w24.heap.size := by omega
  have hm0_2 : w.heap.size + 1 + 1 < w24.heap.size := by omega
  go_wp2_with fail
  go_ret
  exact ⟨rfl, hB24⟩
namespace fnExactFirstSail
set_option maxRecDepth 100000 in
theorem lifted (os : Os) (started : os.Started) (H : Type) (enc : TypeId × Value → H) :
    ReturnsInHanded {} Tryz.checked os 6 .any (Rows.fnExactFirstSailSpec.pre6 enc Tryz.prog Tryz.f6 Rows.fnExactFirstSailRow.domain false) (Rows.fnExactFirstSailSpec.post enc Tryz.prog Tryz.f6 false true false false) := by
  refine returnsInHanded_of_change (C := Tryz.checked) own started (by kernel_rfl) Tryz.func6
    (ChangeSpec.witness6 (enc := enc) (C := Tryz.checked) false ⟨#[], #[.agg #[.int .i64 0, .slice none 0 0, .slice none 0 0], .agg #[.slice none 0 0, .slice none 0 0], .agg #[.string ⟨#[]⟩, .int .i64 0, .int .i64 0, .int .i64 0, .int .i64 0, .bool false], .int .i64 0, .slice none 0 0, .int .i64 0], []⟩ 8 (by kernel_rfl) (by kernel_rfl) (by kernel_rfl) (by kernel_rfl)) ?_
  intro W base args ds gs before hval0 hW hcnd _
  have hval : ∀ (j : Nat) t v, Tryz.f6.params[j]? = some t → args[j]? = some v → Value.okWide Tryz.prog W .any base t v := hval0
  have hW' := hW
  obtain ⟨p, q, hA0, hV, hbef, hfz, hnd⟩ := hW
  have hA : DataW.TrodAll enc Tryz.prog W 0 (fun _ => true) true Tryz.f6.params.toList args.toList ds p := hA0
  rw [Tryz.params6] at hA hval
  obtain ⟨v0, vs0, d0, ds0, p0, q0, hargs, rfl, hp0, h0, r0⟩ := trodAll_cons hA
  obtain ⟨v1, vs1, d1, ds1, p1, q1, rfl, rfl, hp1, h1, r1⟩ := trodAll_cons r0
  obtain ⟨v2, vs2, d2, ds2, p2, q2, rfl, rfl, hp2, h2, r2⟩ := trodAll_cons r1
  obtain ⟨v3, vs3, d3, ds3, p3, q3, rfl, rfl, hp3, h3, r3⟩ := trodAll_cons r2
  obtain ⟨v4, vs4, d4, ds4, p4, q4, rfl, rfl, hp4, h4, r4⟩ := trodAll_cons r3
  obtain ⟨v5, vs5, d5, ds5, p5, q5, rfl, rfl, hp5, h5, r5⟩ := trodAll_cons r4
  obtain ⟨rfl, rfl, hpn⟩ := trodAll_nil r5
  obtain rfl : args = #[v0, v1, v2, v3, v4, v5] := by cases args; simp_all
  obtain ⟨rfl, rfl⟩ := trodVars_none hV
  obtain ⟨b0, c0, a0, rfl, g0, w0, x0, y0⟩ := openForecast (hval 0 27 v0 rfl rfl) h0
  obtain ⟨b1, c1, a1, rfl, g1, w1, x1⟩ := openChart (hval 1 31 v1 rfl rfl) h1
  obtain ⟨a2, rfl, w2⟩ := openShip (hval 2 33 v2 rfl rfl) h2
  obtain ⟨a3, rfl, -, -, w3⟩ := open_int Tryz.underlying3 (hval 3 3 v3 rfl rfl) h3
  obtain ⟨a4, g4, w4⟩ := open_rowsI Tryz.underlying71 Tryz.underlying3 (by kernel_rfl) (hval 4 71 v4 rfl rfl) h4
  obtain ⟨a5, rfl, -, -, w5⟩ := open_int Tryz.underlying3 (hval 5 3 v5 rfl rfl) h5
  refine (FnExactFirstSail_walk W b0 c0 a0 g0 w0 x0 y0 b1 c1 a1 g1 w1 x1 a2 w2 a3 w3 _ a4 g4 w4 a5 w5).mono fun e W' ⟨he, hg⟩ => ?_
  subst he
  exact ⟨_, rfl, post_law laidOut (by kernel_rfl) rfl Tryz.underlying4 rfl ⟨rfl, rfl, rfl⟩ hW' hg⟩
theorem proved : Rows.FnExactFirstSailSaid :=
  OpenClaim.holds_of_wide 6 Tryz.f6 rfl rfl rfl rfl rfl rfl rfl ⟨rfl, rfl, rfl, rfl, rfl⟩ rfl rfl rfl rfl rfl (by kernel_rfl) Tryz.func6 (by kernel_rfl)
    (of_decide_eq_true (by kernel_rfl)) (by unfold Func.isWrapper; first | (rw [if_pos (by decide +kernel)]; kernel_rfl) | (rw [if_neg (by decide +kernel)]; exact ⟨rfl, rfl⟩))
    (fun os started H enc _ => lifted os started H enc)
end fnExactFirstSail
end Go.Proofs.YtpbcbdjjpkenjaaGreat
