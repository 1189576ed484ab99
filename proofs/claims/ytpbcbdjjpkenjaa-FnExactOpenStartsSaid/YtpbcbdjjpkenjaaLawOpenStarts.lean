/- The law FnExactOpenStarts: for every input it returns true and leaves its arguments as they were. No condition. -/
import Derived.Test.YtpbcbdjjpkenjaaStarts2
import Derived.Test.YtpbcbdjjpkenjaaForeM
import Derived.Test.YtpbcbdjjpkenjaaLaw2
namespace Go.Proofs.Ytpbcbdjjpkenjaa
open Go.RowKit Go.WideShapes Go.ChangeShapes Go.ChangeAt Go.Joins Go.Deep
set_option linter.unusedVariables false
set_option maxRecDepth 100000 in
set_option maxHeartbeats 4000000 in
theorem FnExactOpenStarts_walk (w : World) (vf1 vf2 : Value) (f : ForeD) (rf : RdFore w w.heap.size vf1 vf2 f) (hwf : (Lit.int .i64 f.m0).wf = true) (hokpf : ∀ x ∈ f.parts, x.ok) (hoksf : ∀ x ∈ f.surges, x.ok) (vc1 vc2 : Value) (c : ChartD) (rc : RdChart w w.heap.size vc1 vc2 c) (hokc : ∀ x ∈ c.points, x.name.size ≤ maxLen) (hoksc : ∀ x ∈ c.segs, x.ok) (k : Int) (hwk : (Lit.int .i64 k).wf = true) (s : ShipD) (hoks : s.ok) :
    Calls Try.prog 7 #[.agg #[.int .i64 f.m0, vf1, vf2], .agg #[vc1, vc2], .int .i64 k, s.val] w fun e w' => e = .returned (.bool true) ∧ Below w.heap.size w w' := by
  obtain ⟨Af, cf, Bf, df, rfl, rfl⟩ : ∃ Az cz Bz dz, vf1 = .slice Az f.parts.length cz ∧ vf2 = .slice Bz f.surges.length dz := by obtain ⟨⟨Az, cz, h, _⟩, ⟨Bz, dz, h2, _⟩⟩ := rf; exact ⟨Az, cz, Bz, dz, h, h2⟩
  obtain ⟨Ac, cc, Bc, dc, rfl, rfl⟩ : ∃ Az cz Bz dz, vc1 = .slice Az c.points.length cz ∧ vc2 = .slice Bz c.segs.length dz := by obtain ⟨⟨Az, cz, h, _⟩, ⟨Bz, dz, h2, _⟩⟩ := rc; exact ⟨Az, cz, Bz, dz, h, h2⟩
  go_enter Try.func7, Try.ntmps7
  go_wp2_with fail
  generalize hW0 : (((w.alloc (.cells #[.int .i64 f.m0, .slice Af f.parts.length cf, .slice Bf f.surges.length df] 56)).alloc (.cells #[.slice Ac c.points.length cc, .slice Bc c.segs.length dc] 60)).alloc (.cells #[.string s.name, .int .i64 s.length, .int .i64 s.draught, .int .i64 s.line, .int .i64 s.tugs, .bool s.slow] 61)) = W0
  have hB0 : Below w.heap.size w W0 := by rw [← hW0]; exact (by repeat (first | exact Below.refl _ _ | assumption | refine Below.setCell ?_ (by first | omega | (simp <;> omega)) _ | refine Below.alloc ?_ (by first | omega | (simp <;> omega)) _ | refine below_drewN ?_ _ | refine Below.drew ?_ | refine Below.trans ?_ (Below.mono (by assumption) (by first | omega | (simp <;> omega)))))
  have hl0 : w.heap.size < W0.heap.size := by rw [← hW0]; simp <;> omega
  have hx0_0 : W0.cell? ⟨w.heap.size, 0, none⟩ = some (.int .i64 f.m0) := by rw [← hW0]; simp [go_sem]
  have hx0_1 : W0.cell? ⟨w.heap.size, 1, none⟩ = some (.slice Af f.parts.length cf) := by rw [← hW0]; simp [go_sem]
  have hx0_2 : W0.cell? ⟨w.heap.size, 2, none⟩ = some (.slice Bf f.surges.length df) := by rw [← hW0]; simp [go_sem]
  have hl1 : w.heap.size + 1 < W0.heap.size := by rw [← hW0]; simp <;> omega
  have hx1_0 : W0.cell? ⟨w.heap.size + 1, 0, none⟩ = some (.slice Ac c.points.length cc) := by rw [← hW0]; simp [go_sem]
  have hx1_1 : W0.cell? ⟨w.heap.size + 1, 1, none⟩ = some (.slice Bc c.segs.length dc) := by rw [← hW0]; simp [go_sem]
  have hl2 : w.heap.size + 1 + 1 < W0.heap.size := by rw [← hW0]; simp <;> omega
  have hx2_0 : W0.cell? ⟨w.heap.size + 1 + 1, 0, none⟩ = some (.string s.name) := by rw [← hW0]; simp [go_sem]
  have hx2_1 : W0.cell? ⟨w.heap.size + 1 + 1, 1, none⟩ = some (.int .i64 s.length) := by rw [← hW0]; simp [go_sem]
  have hx2_2 : W0.cell? ⟨w.heap.size + 1 + 1, 2, none⟩ = some (.int .i64 s.draught) := by rw [← hW0]; simp [go_sem]
  have hx2_3 : W0.cell? ⟨w.heap.size + 1 + 1, 3, none⟩ = some (.int .i64 s.line) := by rw [← hW0]; simp [go_sem]
  have hx2_4 : W0.cell? ⟨w.heap.size + 1 + 1, 4, none⟩ = some (.int .i64 s.tugs) := by rw [← hW0]; simp [go_sem]
  have hx2_5 : W0.cell? ⟨w.heap.size + 1 + 1, 5, none⟩ = some (.bool s.slow) := by rw [← hW0]; simp [go_sem]
  have s0 := hB0.size
  clear hW0
  replace rf := rf.keep hB0 (by omega)
  replace rc := rc.keep hB0 (by omega)
  have hBB0 := Below.refl W0.heap.size W0
  obtain ⟨hc0, hf0⟩ := bcell hBB0
  go_wp2_with fail
  refine (szForecast_any _ _ f 1048576 _ (rf.mono (by omega)) (by omega) (by omega)).mono ?_; rintro e w1 ⟨z1, rfl, hz1, hm1, hb1⟩
  have s1 := hb1.size
  replace rf := rf.keep hb1 (by omega)
  replace rc := rc.keep hb1 (by omega)
  have hB1 := bnext hB0 hb1 (Nat.le_refl _)
  have hBB0_1 := bnext hBB0 hb1 (Nat.le_refl _)
  clear hc0 hf0; obtain ⟨hc0, hf0⟩ := bcell hBB0_1
  have hm0_0 : w.heap.size < w1.heap.size := by omega
  have hm0_1 : w.heap.size + 1 < w1.heap.size := by omega
  have hm0_2 : w.heap.size + 1 + 1 < w1.heap.size := by omega
  by_cases hn1 : z1 < 0
  · clear hz1
    go_wp2_with fail
    go_ret
    exact ⟨rfl, hB1⟩
  obtain ⟨p1, q1⟩ := hz1 (by omega)
  have hpf : f.parts.length ≤ 1048576 := by omega
  have hsf : f.surges.length ≤ 1048576 := by omega
  go_wp2_with fail
  refine (szChart_any _ _ c z1 _ (rc.mono (by omega)) hokc (by omega) (by omega)).mono ?_; rintro e w2 ⟨z2, rfl, hz2, hm2, hb2⟩
  have s2 := hb2.size
  replace rf := rf.keep hb2 (by omega)
  replace rc := rc.keep hb2 (by omega)
  have hB2 := bnext hB1 hb2 (Nat.le_refl _)
  have hBB0_2 := bnext hBB0_1 hb2 (Nat.le_refl _)
  clear hc0 hf0; obtain ⟨hc0, hf0⟩ := bcell hBB0_2
  have hm0_0 : w.heap.size < w2.heap.size := by omega
  have hm0_1 : w.heap.size + 1 < w2.heap.size := by omega
  have hm0_2 : w.heap.size + 1 + 1 < w2.heap.size := by omega
  by_cases hn2 : z2 < 0
  · clear hz2
    go_wp2_with fail
    go_ret
    exact ⟨rfl, hB2⟩
  obtain ⟨p2, q2⟩ := hz2 (by omega)
  have hpc : c.points.length ≤ 1048576 := by omega
  have hsc : c.segs.length ≤ 1048576 := by omega
  go_wp2_with fail
  refine (szShip_any s.name s.length s.draught s.line s.tugs s.slow z2 _ (ShipD.ok_size hoks) (by omega) (by omega)).mono ?_; rintro e w3 ⟨z3, rfl, hz3, hm3, hb3⟩
  have s3 := hb3.size
  replace rf := rf.keep hb3 (by omega)
  replace rc := rc.keep hb3 (by omega)
  have hB3 := bnext hB2 hb3 (Nat.le_refl _)
  have hBB0_3 := bnext hBB0_2 hb3 (Nat.le_refl _)
  clear hc0 hf0; obtain ⟨hc0, hf0⟩ := bcell hBB0_3
  have hm0_0 : w.heap.size < w3.heap.size := by omega
  have hm0_1 : w.heap.size + 1 < w3.heap.size := by omega
  have hm0_2 : w.heap.size + 1 + 1 < w3.heap.size := by omega
  by_cases hn3 : z3 < 0
  · clear hz3
    go_wp2_with fail
    go_ret
    exact ⟨rfl, hB3⟩
  obtain ⟨p3, q3⟩ := hz3 (by omega)
  have hLp := startsOf_len true f c k s
  have hy0_0_0 : w3.cell? ⟨w.heap.size, 0, none⟩ = some (.int .i64 f.m0) := by rw [hBB0_3.cell (p := ⟨w.heap.size, 0, none⟩) (by omega)]; exact hx0_0
  have hy0_0_1 : w3.cell? ⟨w.heap.size, 1, none⟩ = some (.slice Af f.parts.length cf) := by rw [hBB0_3.cell (p := ⟨w.heap.size, 1, none⟩) (by omega)]; exact hx0_1
  have hy0_0_2 : w3.cell? ⟨w.heap.size, 2, none⟩ = some (.slice Bf f.surges.length df) := by rw [hBB0_3.cell (p := ⟨w.heap.size, 2, none⟩) (by omega)]; exact hx0_2
  have hy0_1_0 : w3.cell? ⟨w.heap.size + 1, 0, none⟩ = some (.slice Ac c.points.length cc) := by rw [hBB0_3.cell (p := ⟨w.heap.size + 1, 0, none⟩) (by omega)]; exact hx1_0
  have hy0_1_1 : w3.cell? ⟨w.heap.size + 1, 1, none⟩ = some (.slice Bc c.segs.length dc) := by rw [hBB0_3.cell (p := ⟨w.heap.size + 1, 1, none⟩) (by omega)]; exact hx1_1
  have hy0_2_0 : w3.cell? ⟨w.heap.size + 1 + 1, 0, none⟩ = some (.string s.name) := by rw [hBB0_3.cell (p := ⟨w.heap.size + 1 + 1, 0, none⟩) (by omega)]; exact hx2_0
  have hy0_2_1 : w3.cell? ⟨w.heap.size + 1 + 1, 1, none⟩ = some (.int .i64 s.length) := by rw [hBB0_3.cell (p := ⟨w.heap.size + 1 + 1, 1, none⟩) (by omega)]; exact hx2_1
  have hy0_2_2 : w3.cell? ⟨w.heap.size + 1 + 1, 2, none⟩ = some (.int .i64 s.draught) := by rw [hBB0_3.cell (p := ⟨w.heap.size + 1 + 1, 2, none⟩) (by omega)]; exact hx2_2
  have hy0_2_3 : w3.cell? ⟨w.heap.size + 1 + 1, 3, none⟩ = some (.int .i64 s.line) := by rw [hBB0_3.cell (p := ⟨w.heap.size + 1 + 1, 3, none⟩) (by omega)]; exact hx2_3
  have hy0_2_4 : w3.cell? ⟨w.heap.size + 1 + 1, 4, none⟩ = some (.int .i64 s.tugs) := by rw [hBB0_3.cell (p := ⟨w.heap.size + 1 + 1, 4, none⟩) (by omega)]; exact hx2_4
  have hy0_2_5 : w3.cell? ⟨w.heap.size + 1 + 1, 5, none⟩ = some (.bool s.slow) := by rw [hBB0_3.cell (p := ⟨w.heap.size + 1 + 1, 5, none⟩) (by omega)]; exact hx2_5
  clear hc0 hf0
  have hlw0 : w.heap.size < w3.heap.size := by omega
  have hlw1 : w.heap.size + 1 < w3.heap.size := by omega
  have hlw2 : w.heap.size + 1 + 1 < w3.heap.size := by omega
  have urf := rf.mono (show _ ≤ w3.heap.size by omega)
  have urc := rc.mono (show _ ≤ w3.heap.size by omega)
  go_wp2_with fail
  go_region_held3 (fun w' => w'.cell? ⟨w.heap.size, 0, none⟩ = some (.int .i64 f.m0) ∧ w'.cell? ⟨w.heap.size, 1, none⟩ = some (.slice Af f.parts.length cf) ∧ w'.cell? ⟨w.heap.size, 2, none⟩ = some (.slice Bf f.surges.length df) ∧ w'.cell? ⟨w.heap.size + 1, 0, none⟩ = some (.slice Ac c.points.length cc) ∧ w'.cell? ⟨w.heap.size + 1, 1, none⟩ = some (.slice Bc c.segs.length dc) ∧ w'.cell? ⟨w.heap.size + 1 + 1, 0, none⟩ = some (.string s.name) ∧ w'.cell? ⟨w.heap.size + 1 + 1, 1, none⟩ = some (.int .i64 s.length) ∧ w'.cell? ⟨w.heap.size + 1 + 1, 2, none⟩ = some (.int .i64 s.draught) ∧ w'.cell? ⟨w.heap.size + 1 + 1, 3, none⟩ = some (.int .i64 s.line) ∧ w'.cell? ⟨w.heap.size + 1 + 1, 4, none⟩ = some (.int .i64 s.tugs) ∧ w'.cell? ⟨w.heap.size + 1 + 1, 5, none⟩ = some (.bool s.slow) ∧ w.heap.size < w'.heap.size ∧ w.heap.size + 1 < w'.heap.size ∧ w.heap.size + 1 + 1 < w'.heap.size ∧ Below w3.heap.size w3 w')
    (first | exact ⟨hy0_0_0, hy0_0_1, hy0_0_2, hy0_1_0, hy0_1_1, hy0_2_0, hy0_2_1, hy0_2_2, hy0_2_3, hy0_2_4, hy0_2_5, hlw0, hlw1, hlw2, Below.drew (Below.refl _ _)⟩ | exact ⟨cellKeepL hb' g0_0_0 hlz0, cellKeepL hb' g0_0_1 hlz0, cellKeepL hb' g0_0_2 hlz0, cellKeepL hb' g0_1_0 hlz1, cellKeepL hb' g0_1_1 hlz1, cellKeepL hb' g0_2_0 hlz2, cellKeepL hb' g0_2_1 hlz2, cellKeepL hb' g0_2_2 hlz2, cellKeepL hb' g0_2_3 hlz2, cellKeepL hb' g0_2_4 hlz2, cellKeepL hb' g0_2_5 hlz2, Nat.lt_of_lt_of_le hlz0 hb'.size, Nat.lt_of_lt_of_le hlz1 hb'.size, Nat.lt_of_lt_of_le hlz2 hb'.size, hBz⟩ | ((repeat' apply And.intro) <;> first | assumption | omega | (rw [hc _ _ (by omega)]; assumption) | (simp [*]; done) | exact Below.drew (Below.refl _ _)))
    (first | (go_at_call 28; obtain ⟨g0_0_0, g0_0_1, g0_0_2, g0_1_0, g0_1_1, g0_2_0, g0_2_1, g0_2_2, g0_2_3, g0_2_4, g0_2_5, hlz0, hlz1, hlz2, hBz⟩ := (by with_reducible assumption : _ ∧ _); with_reducible refine (toForecastR_any _ _ f _ ((urf.keep hBz (Nat.le_refl _)).mono hBz.size) hpf hsf).mono ?_; rintro e wz ⟨gf1, gf2, rfl, hro, hb'⟩; obtain ⟨hc, hf⟩ := bcell hb'; have hBz := bnext hBz hb' (Nat.le_refl _); (try replace hr0 := Rd.below hr0 hb'); (try replace hr0 := RdChart.below hr0 hb'); (try replace hr0 := RdFore.below hr0 hb'); (try replace hr1 := Rd.below hr1 hb'); (try replace hr1 := RdChart.below hr1 hb'); (try replace hr1 := RdFore.below hr1 hb'); have hr0 := hro) | (go_at_call 29; obtain ⟨g0_0_0, g0_0_1, g0_0_2, g0_1_0, g0_1_1, g0_2_0, g0_2_1, g0_2_2, g0_2_3, g0_2_4, g0_2_5, hlz0, hlz1, hlz2, hBz⟩ := (by with_reducible assumption : _ ∧ _); with_reducible refine (toChart_any _ _ c _ ((urc.keep hBz (Nat.le_refl _)).mono hBz.size) hpc hsc).mono ?_; rintro e wz ⟨gz1, gz2, rfl, hrc, hb'⟩; obtain ⟨hc, hf⟩ := bcell hb'; have hBz := bnext hBz hb' (Nat.le_refl _); (try replace hr0 := Rd.below hr0 hb'); (try replace hr0 := RdChart.below hr0 hb'); (try replace hr0 := RdFore.below hr0 hb'); (try replace hr1 := Rd.below hr1 hb'); (try replace hr1 := RdChart.below hr1 hb'); (try replace hr1 := RdFore.below hr1 hb'); have hr1 := hrc) | (go_at_call 30; obtain ⟨g0_0_0, g0_0_1, g0_0_2, g0_1_0, g0_1_1, g0_2_0, g0_2_1, g0_2_2, g0_2_3, g0_2_4, g0_2_5, hlz0, hlz1, hlz2, hBz⟩ := (by with_reducible assumption : _ ∧ _); with_reducible refine (toShip_any _ _ _ _ _ _ _).mono ?_; rintro e wz ⟨rfl, hb'⟩; obtain ⟨hc, hf⟩ := bcell hb'; have hBz := bnext hBz hb' (Nat.le_refl _); (try replace hr0 := Rd.below hr0 hb'); (try replace hr0 := RdChart.below hr0 hb'); (try replace hr0 := RdFore.below hr0 hb'); (try replace hr1 := Rd.below hr1 hb'); (try replace hr1 := RdChart.below hr1 hb'); (try replace hr1 := RdFore.below hr1 hb')) | (go_at_call 35; obtain ⟨g0_0_0, g0_0_1, g0_0_2, g0_1_0, g0_1_1, g0_2_0, g0_2_1, g0_2_2, g0_2_3, g0_2_4, g0_2_5, hlz0, hlz1, hlz2, hBz⟩ := (by with_reducible assumption : _ ∧ _); with_reducible refine (spec_OpenStarts_any _ _ _ _ f c k s _ hr0 hr1 hokc (ShipD.ok_size hoks)).mono ?_; rintro e wz ⟨vx, rfl, hPas, hb'⟩; obtain ⟨hc, hf⟩ := bcell hb'; have hBz := bnext hBz hb' (Nat.le_refl _); (try replace hr0 := Rd.below hr0 hb'); (try replace hr0 := RdChart.below hr0 hb'); (try replace hr0 := RdFore.below hr0 hb'); (try replace hr1 := Rd.below hr1 hb'); (try replace hr1 := RdChart.below hr1 hb'); (try replace hr1 := RdFore.below hr1 hb')))
  rename World => w4
  have hb4 := hBz
  clear hc hf hBz urf urc
  have s4 := hb4.size
  replace rf := rf.keep hb4 (by omega)
  replace rc := rc.keep hb4 (by omega)
  have hB4 := bnext hB3 hb4 (Nat.le_refl _)
  have hBB0_4 := bnext hBB0_3 hb4 (Nat.le_refl _)
  obtain ⟨hc0, hf0⟩ := bcell hBB0_4
  have hm0_0 : w.heap.size < w4.heap.size := by omega
  have hm0_1 : w.heap.size + 1 < w4.heap.size := by omega
  have hm0_2 : w.heap.size + 1 + 1 < w4.heap.size := by omega
  have rx := Own.rd WindowD.enc_len hPas
  clear hPas
  go_wp2_with fail
  refine (toForecast_any _ _ f _ (rf.mono (by omega)) hpf hsf).mono ?_; rintro e w5 ⟨g1d, g2d, rfl, hoP5, hoS5, hb5⟩
  have s5 := hb5.size
  replace rf := rf.keep hb5 (by omega)
  replace rc := rc.keep hb5 (by omega)
  replace rx := rx.keep hb5 (by omega)
  have hB5 := bnext hB4 hb5 (Nat.le_refl _)
  have hBB0_5 := bnext hBB0_4 hb5 (Nat.le_refl _)
  clear hc0 hf0; obtain ⟨hc0, hf0⟩ := bcell hBB0_5
  have hm0_0 : w.heap.size < w5.heap.size := by omega
  have hm0_1 : w.heap.size + 1 < w5.heap.size := by omega
  have hm0_2 : w.heap.size + 1 + 1 < w5.heap.size := by omega
  have odp := hoP5.b
  have ods := hoS5.b
  have rd : RdFore _ _ _ _ f := ⟨odp.rdB PartD.enc_len, ods.rdB SurgeD.enc_len⟩
  clear hoP5 hoS5
  go_wp2_with fail
  generalize hW6 : w5.alloc (.cells #[.int .i64 f.m0, .slice (some ⟨g1d, 0, none⟩) f.parts.length f.parts.length, .slice (some ⟨g2d, 0, none⟩) f.surges.length f.surges.length] 28) = w6
  have hb6 : Below w5.heap.size w5 w6 := by rw [← hW6]; exact (Below.refl _ _).alloc (Nat.le_refl _) _
  have hl1x : w5.heap.size < w6.heap.size := by rw [← hW6]; simp
  have hz1_0 : w6.cell? ⟨w5.heap.size, 0, none⟩ = some (.int .i64 f.m0) := by rw [← hW6]; simp [go_sem]
  have hz1_1 : w6.cell? ⟨w5.heap.size, 1, none⟩ = some (.slice (some ⟨g1d, 0, none⟩) f.parts.length f.parts.length) := by rw [← hW6]; simp [go_sem]
  have hz1_2 : w6.cell? ⟨w5.heap.size, 2, none⟩ = some (.slice (some ⟨g2d, 0, none⟩) f.surges.length f.surges.length) := by rw [← hW6]; simp [go_sem]
  clear hW6
  have s6 := hb6.size
  replace rf := rf.keep hb6 (by omega)
  replace rc := rc.keep hb6 (by omega)
  replace rx := rx.keep hb6 (by omega)
  replace rd := rd.keep hb6 (by omega)
  replace odp := odp.keep hb6 (by omega)
  replace ods := ods.keep hb6 (by omega)
  have hB6 := bnext hB5 hb6 (Nat.le_refl _)
  have hBB0_6 := bnext hBB0_5 hb6 (Nat.le_refl _)
  clear hc0 hf0; obtain ⟨hc0, hf0⟩ := bcell hBB0_6
  have hm0_0 : w.heap.size < w6.heap.size := by omega
  have hm0_1 : w.heap.size + 1 < w6.heap.size := by omega
  have hm0_2 : w.heap.size + 1 + 1 < w6.heap.size := by omega
  have hBB1 := Below.refl w6.heap.size w6
  obtain ⟨hc1, hf1⟩ := bcell hBB1
  go_wp2_with fail
  refine (toChartO_any _ _ c _ (rc.mono (by omega)) hpc hsc).mono ?_; rintro e w7 ⟨g1e, g2e, rfl, hoP7, hoS7, hb7⟩
  have s7 := hb7.size
  replace rf := rf.keep hb7 (by omega)
  replace rc := rc.keep hb7 (by omega)
  replace rx := rx.keep hb7 (by omega)
  replace rd := rd.keep hb7 (by omega)
  replace odp := odp.keep hb7 (by omega)
  replace ods := ods.keep hb7 (by omega)
  have hB7 := bnext hB6 hb7 (Nat.le_refl _)
  have hBB0_7 := bnext hBB0_6 hb7 (Nat.le_refl _)
  clear hc0 hf0; obtain ⟨hc0, hf0⟩ := bcell hBB0_7
  have hm0_0 : w.heap.size < w7.heap.size := by omega
  have hm0_1 : w.heap.size + 1 < w7.heap.size := by omega
  have hm0_2 : w.heap.size + 1 + 1 < w7.heap.size := by omega
  have hBB1_7 := bnext hBB1 hb7 (Nat.le_refl _)
  clear hc1 hf1; obtain ⟨hc1, hf1⟩ := bcell hBB1_7
  have hm1_0 : w5.heap.size < w7.heap.size := by omega
  have oep := hoP7.b
  have oes := hoS7.b
  have re : RdChart _ _ _ _ c := ⟨oep.rdB PointD.enc_len, oes.rdB SegmentD.enc_len⟩
  clear hoP7 hoS7
  go_wp2_with fail
  generalize hW8 : w7.alloc (.cells #[.slice (some ⟨g1e, 0, none⟩) c.points.length c.points.length, .slice (some ⟨g2e, 0, none⟩) c.segs.length c.segs.length] 33) = w8
  have hb8 : Below w7.heap.size w7 w8 := by rw [← hW8]; exact (Below.refl _ _).alloc (Nat.le_refl _) _
  have hl2x : w7.heap.size < w8.heap.size := by rw [← hW8]; simp
  have hz2_0 : w8.cell? ⟨w7.heap.size, 0, none⟩ = some (.slice (some ⟨g1e, 0, none⟩) c.points.length c.points.length) := by rw [← hW8]; simp [go_sem]
  have hz2_1 : w8.cell? ⟨w7.heap.size, 1, none⟩ = some (.slice (some ⟨g2e, 0, none⟩) c.segs.length c.segs.length) := by rw [← hW8]; simp [go_sem]
  clear hW8
  have s8 := hb8.size
  replace rf := rf.keep hb8 (by omega)
  replace rc := rc.keep hb8 (by omega)
  replace rx := rx.keep hb8 (by omega)
  replace rd := rd.keep hb8 (by omega)
  replace odp := odp.keep hb8 (by omega)
  replace ods := ods.keep hb8 (by omega)
  replace re := re.keep hb8 (by omega)
  replace oep := oep.keep hb8 (by omega)
  replace oes := oes.keep hb8 (by omega)
  have hB8 := bnext hB7 hb8 (Nat.le_refl _)
  have hBB0_8 := bnext hBB0_7 hb8 (Nat.le_refl _)
  clear hc0 hf0; obtain ⟨hc0, hf0⟩ := bcell hBB0_8
  have hm0_0 : w.heap.size < w8.heap.size := by omega
  have hm0_1 : w.heap.size + 1 < w8.heap.size := by omega
  have hm0_2 : w.heap.size + 1 + 1 < w8.heap.size := by omega
  have hBB1_8 := bnext hBB1_7 hb8 (Nat.le_refl _)
  clear hc1 hf1; obtain ⟨hc1, hf1⟩ := bcell hBB1_8
  have hm1_0 : w5.heap.size < w8.heap.size := by omega
  have hBB2 := Below.refl w8.heap.size w8
  obtain ⟨hc2, hf2⟩ := bcell hBB2
  have hy0_0_0 : w8.cell? ⟨w.heap.size, 0, none⟩ = some (.int .i64 f.m0) := by rw [hBB0_8.cell (p := ⟨w.heap.size, 0, none⟩) (by omega)]; exact hx0_0
  have hy0_0_1 : w8.cell? ⟨w.heap.size, 1, none⟩ = some (.slice Af f.parts.length cf) := by rw [hBB0_8.cell (p := ⟨w.heap.size, 1, none⟩) (by omega)]; exact hx0_1
  have hy0_0_2 : w8.cell? ⟨w.heap.size, 2, none⟩ = some (.slice Bf f.surges.length df) := by rw [hBB0_8.cell (p := ⟨w.heap.size, 2, none⟩) (by omega)]; exact hx0_2
  have hy0_1_0 : w8.cell? ⟨w.heap.size + 1, 0, none⟩ = some (.slice Ac c.points.length cc) := by rw [hBB0_8.cell (p := ⟨w.heap.size + 1, 0, none⟩) (by omega)]; exact hx1_0
  have hy0_1_1 : w8.cell? ⟨w.heap.size + 1, 1, none⟩ = some (.slice Bc c.segs.length dc) := by rw [hBB0_8.cell (p := ⟨w.heap.size + 1, 1, none⟩) (by omega)]; exact hx1_1
  have hy0_2_0 : w8.cell? ⟨w.heap.size + 1 + 1, 0, none⟩ = some (.string s.name) := by rw [hBB0_8.cell (p := ⟨w.heap.size + 1 + 1, 0, none⟩) (by omega)]; exact hx2_0
  have hy0_2_1 : w8.cell? ⟨w.heap.size + 1 + 1, 1, none⟩ = some (.int .i64 s.length) := by rw [hBB0_8.cell (p := ⟨w.heap.size + 1 + 1, 1, none⟩) (by omega)]; exact hx2_1
  have hy0_2_2 : w8.cell? ⟨w.heap.size + 1 + 1, 2, none⟩ = some (.int .i64 s.draught) := by rw [hBB0_8.cell (p := ⟨w.heap.size + 1 + 1, 2, none⟩) (by omega)]; exact hx2_2
  have hy0_2_3 : w8.cell? ⟨w.heap.size + 1 + 1, 3, none⟩ = some (.int .i64 s.line) := by rw [hBB0_8.cell (p := ⟨w.heap.size + 1 + 1, 3, none⟩) (by omega)]; exact hx2_3
  have hy0_2_4 : w8.cell? ⟨w.heap.size + 1 + 1, 4, none⟩ = some (.int .i64 s.tugs) := by rw [hBB0_8.cell (p := ⟨w.heap.size + 1 + 1, 4, none⟩) (by omega)]; exact hx2_4
  have hy0_2_5 : w8.cell? ⟨w.heap.size + 1 + 1, 5, none⟩ = some (.bool s.slow) := by rw [hBB0_8.cell (p := ⟨w.heap.size + 1 + 1, 5, none⟩) (by omega)]; exact hx2_5
  have hy1_0_0 : w8.cell? ⟨w5.heap.size, 0, none⟩ = some (.int .i64 f.m0) := by rw [hBB1_8.cell (p := ⟨w5.heap.size, 0, none⟩) (by omega)]; exact hz1_0
  have hy1_0_1 : w8.cell? ⟨w5.heap.size, 1, none⟩ = some (.slice (some ⟨g1d, 0, none⟩) f.parts.length f.parts.length) := by rw [hBB1_8.cell (p := ⟨w5.heap.size, 1, none⟩) (by omega)]; exact hz1_1
  have hy1_0_2 : w8.cell? ⟨w5.heap.size, 2, none⟩ = some (.slice (some ⟨g2d, 0, none⟩) f.surges.length f.surges.length) := by rw [hBB1_8.cell (p := ⟨w5.heap.size, 2, none⟩) (by omega)]; exact hz1_2
  have hy2_0_0 : w8.cell? ⟨w7.heap.size, 0, none⟩ = some (.slice (some ⟨g1e, 0, none⟩) c.points.length c.points.length) := by rw [hBB2.cell (p := ⟨w7.heap.size, 0, none⟩) (by omega)]; exact hz2_0
  have hy2_0_1 : w8.cell? ⟨w7.heap.size, 1, none⟩ = some (.slice (some ⟨g2e, 0, none⟩) c.segs.length c.segs.length) := by rw [hBB2.cell (p := ⟨w7.heap.size, 1, none⟩) (by omega)]; exact hz2_1
  clear hc0 hf0 hc1 hf1 hc2 hf2
  have hlw0 : w.heap.size < w8.heap.size := by omega
  have hlw1 : w.heap.size + 1 < w8.heap.size := by omega
  have hlw2 : w.heap.size + 1 + 1 < w8.heap.size := by omega
  have hlw3 : w5.heap.size < w8.heap.size := by omega
  have hlw4 : w7.heap.size < w8.heap.size := by omega
  have urd := rd.mono (show _ ≤ w8.heap.size by omega)
  have ure := re.mono (show _ ≤ w8.heap.size by omega)
  go_wp2_with fail
  go_region_held3 (fun w' => w'.cell? ⟨w.heap.size, 0, none⟩ = some (.int .i64 f.m0) ∧ w'.cell? ⟨w.heap.size, 1, none⟩ = some (.slice Af f.parts.length cf) ∧ w'.cell? ⟨w.heap.size, 2, none⟩ = some (.slice Bf f.surges.length df) ∧ w'.cell? ⟨w.heap.size + 1, 0, none⟩ = some (.slice Ac c.points.length cc) ∧ w'.cell? ⟨w.heap.size + 1, 1, none⟩ = some (.slice Bc c.segs.length dc) ∧ w'.cell? ⟨w.heap.size + 1 + 1, 0, none⟩ = some (.string s.name) ∧ w'.cell? ⟨w.heap.size + 1 + 1, 1, none⟩ = some (.int .i64 s.length) ∧ w'.cell? ⟨w.heap.size + 1 + 1, 2, none⟩ = some (.int .i64 s.draught) ∧ w'.cell? ⟨w.heap.size + 1 + 1, 3, none⟩ = some (.int .i64 s.line) ∧ w'.cell? ⟨w.heap.size + 1 + 1, 4, none⟩ = some (.int .i64 s.tugs) ∧ w'.cell? ⟨w.heap.size + 1 + 1, 5, none⟩ = some (.bool s.slow) ∧ w'.cell? ⟨w5.heap.size, 0, none⟩ = some (.int .i64 f.m0) ∧ w'.cell? ⟨w5.heap.size, 1, none⟩ = some (.slice (some ⟨g1d, 0, none⟩) f.parts.length f.parts.length) ∧ w'.cell? ⟨w5.heap.size, 2, none⟩ = some (.slice (some ⟨g2d, 0, none⟩) f.surges.length f.surges.length) ∧ w'.cell? ⟨w7.heap.size, 0, none⟩ = some (.slice (some ⟨g1e, 0, none⟩) c.points.length c.points.length) ∧ w'.cell? ⟨w7.heap.size, 1, none⟩ = some (.slice (some ⟨g2e, 0, none⟩) c.segs.length c.segs.length) ∧ w.heap.size < w'.heap.size ∧ w.heap.size + 1 < w'.heap.size ∧ w.heap.size + 1 + 1 < w'.heap.size ∧ w5.heap.size < w'.heap.size ∧ w7.heap.size < w'.heap.size ∧ Below w8.heap.size w8 w')
    (first | exact ⟨hy0_0_0, hy0_0_1, hy0_0_2, hy0_1_0, hy0_1_1, hy0_2_0, hy0_2_1, hy0_2_2, hy0_2_3, hy0_2_4, hy0_2_5, hy1_0_0, hy1_0_1, hy1_0_2, hy2_0_0, hy2_0_1, hlw0, hlw1, hlw2, hlw3, hlw4, Below.drew (Below.refl _ _)⟩ | exact ⟨cellKeepL hb' g0_0_0 hlz0, cellKeepL hb' g0_0_1 hlz0, cellKeepL hb' g0_0_2 hlz0, cellKeepL hb' g0_1_0 hlz1, cellKeepL hb' g0_1_1 hlz1, cellKeepL hb' g0_2_0 hlz2, cellKeepL hb' g0_2_1 hlz2, cellKeepL hb' g0_2_2 hlz2, cellKeepL hb' g0_2_3 hlz2, cellKeepL hb' g0_2_4 hlz2, cellKeepL hb' g0_2_5 hlz2, cellKeepL hb' g1_0_0 hlz3, cellKeepL hb' g1_0_1 hlz3, cellKeepL hb' g1_0_2 hlz3, cellKeepL hb' g2_0_0 hlz4, cellKeepL hb' g2_0_1 hlz4, Nat.lt_of_lt_of_le hlz0 hb'.size, Nat.lt_of_lt_of_le hlz1 hb'.size, Nat.lt_of_lt_of_le hlz2 hb'.size, Nat.lt_of_lt_of_le hlz3 hb'.size, Nat.lt_of_lt_of_le hlz4 hb'.size, hBz⟩ | ((repeat' apply And.intro) <;> first | assumption | omega | (rw [hc _ _ (by omega)]; assumption) | (simp [*]; done) | exact Below.drew (Below.refl _ _)))
    (first | (go_at_call 30; obtain ⟨g0_0_0, g0_0_1, g0_0_2, g0_1_0, g0_1_1, g0_2_0, g0_2_1, g0_2_2, g0_2_3, g0_2_4, g0_2_5, g1_0_0, g1_0_1, g1_0_2, g2_0_0, g2_0_1, hlz0, hlz1, hlz2, hlz3, hlz4, hBz⟩ := (by with_reducible assumption : _ ∧ _); with_reducible refine (toShip_any _ _ _ _ _ _ _).mono ?_; rintro e wz ⟨rfl, hb'⟩; obtain ⟨hc, hf⟩ := bcell hb'; have hBz := bnext hBz hb' (Nat.le_refl _)) | (go_at_call 22; obtain ⟨g0_0_0, g0_0_1, g0_0_2, g0_1_0, g0_1_1, g0_2_0, g0_2_1, g0_2_2, g0_2_3, g0_2_4, g0_2_5, g1_0_0, g1_0_1, g1_0_2, g2_0_0, g2_0_1, hlz0, hlz1, hlz2, hlz3, hlz4, hBz⟩ := (by with_reducible assumption : _ ∧ _); with_reducible refine (impl_OpenStarts_any _ _ _ _ f c k s _ ((urd.keep hBz (Nat.le_refl _)).mono hBz.size) ((ure.keep hBz (Nat.le_refl _)).mono hBz.size) hokc (ShipD.ok_size hoks)).mono ?_; rintro e wz ⟨vy, rfl, hPas, hb'⟩; have hMy := hPas.mono hBz.size; obtain ⟨hc, hf⟩ := bcell hb'; have hBz := bnext hBz hb' (Nat.le_refl _)))
  rename World => w9
  have hb9 := hBz
  clear hc hf hBz urd ure
  have s9 := hb9.size
  replace rf := rf.keep hb9 (by omega)
  replace rc := rc.keep hb9 (by omega)
  replace rx := rx.keep hb9 (by omega)
  replace rd := rd.keep hb9 (by omega)
  replace odp := odp.keep hb9 (by omega)
  replace ods := ods.keep hb9 (by omega)
  replace re := re.keep hb9 (by omega)
  replace oep := oep.keep hb9 (by omega)
  replace oes := oes.keep hb9 (by omega)
  have hB9 := bnext hB8 hb9 (Nat.le_refl _)
  have hBB0_9 := bnext hBB0_8 hb9 (Nat.le_refl _)
  obtain ⟨hc0, hf0⟩ := bcell hBB0_9
  have hm0_0 : w.heap.size < w9.heap.size := by omega
  have hm0_1 : w.heap.size + 1 < w9.heap.size := by omega
  have hm0_2 : w.heap.size + 1 + 1 < w9.heap.size := by omega
  have hBB1_9 := bnext hBB1_8 hb9 (Nat.le_refl _)
  obtain ⟨hc1, hf1⟩ := bcell hBB1_9
  have hm1_0 : w5.heap.size < w9.heap.size := by omega
  have hBB2_9 := bnext hBB2 hb9 (Nat.le_refl _)
  obtain ⟨hc2, hf2⟩ := bcell hBB2_9
  have hm2_0 : w7.heap.size < w9.heap.size := by omega
  clear hPas
  have oy := hMy.b
  have ry := oy.rdB WindowD.enc_len
  clear hMy
  go_wp2_with fail
  refine (eqWindowS_any _ _ _ _ _ (ry.mono (by omega)) (rx.mono (by omega))).mono ?_; rintro e w10 ⟨rfl, hb10⟩
  have s10 := hb10.size
  replace rf := rf.keep hb10 (by omega)
  replace rc := rc.keep hb10 (by omega)
  replace rx := rx.keep hb10 (by omega)
  replace rd := rd.keep hb10 (by omega)
  replace odp := odp.keep hb10 (by omega)
  replace ods := ods.keep hb10 (by omega)
  replace re := re.keep hb10 (by omega)
  replace oep := oep.keep hb10 (by omega)
  replace oes := oes.keep hb10 (by omega)
  replace ry := ry.keep hb10 (by omega)
  replace oy := oy.keep hb10 (by omega)
  have hB10 := bnext hB9 hb10 (Nat.le_refl _)
  have hBB0_10 := bnext hBB0_9 hb10 (Nat.le_refl _)
  clear hc0 hf0; obtain ⟨hc0, hf0⟩ := bcell hBB0_10
  have hm0_0 : w.heap.size < w10.heap.size := by omega
  have hm0_1 : w.heap.size + 1 < w10.heap.size := by omega
  have hm0_2 : w.heap.size + 1 + 1 < w10.heap.size := by omega
  have hBB1_10 := bnext hBB1_9 hb10 (Nat.le_refl _)
  clear hc1 hf1; obtain ⟨hc1, hf1⟩ := bcell hBB1_10
  have hm1_0 : w5.heap.size < w10.heap.size := by omega
  have hBB2_10 := bnext hBB2_9 hb10 (Nat.le_refl _)
  clear hc2 hf2; obtain ⟨hc2, hf2⟩ := bcell hBB2_10
  have hm2_0 : w7.heap.size < w10.heap.size := by omega
  have hy0_0_0 : w10.cell? ⟨w.heap.size, 0, none⟩ = some (.int .i64 f.m0) := by rw [hBB0_10.cell (p := ⟨w.heap.size, 0, none⟩) (by omega)]; exact hx0_0
  have hy0_0_1 : w10.cell? ⟨w.heap.size, 1, none⟩ = some (.slice Af f.parts.length cf) := by rw [hBB0_10.cell (p := ⟨w.heap.size, 1, none⟩) (by omega)]; exact hx0_1
  have hy0_0_2 : w10.cell? ⟨w.heap.size, 2, none⟩ = some (.slice Bf f.surges.length df) := by rw [hBB0_10.cell (p := ⟨w.heap.size, 2, none⟩) (by omega)]; exact hx0_2
  have hy0_1_0 : w10.cell? ⟨w.heap.size + 1, 0, none⟩ = some (.slice Ac c.points.length cc) := by rw [hBB0_10.cell (p := ⟨w.heap.size + 1, 0, none⟩) (by omega)]; exact hx1_0
  have hy0_1_1 : w10.cell? ⟨w.heap.size + 1, 1, none⟩ = some (.slice Bc c.segs.length dc) := by rw [hBB0_10.cell (p := ⟨w.heap.size + 1, 1, none⟩) (by omega)]; exact hx1_1
  have hy0_2_0 : w10.cell? ⟨w.heap.size + 1 + 1, 0, none⟩ = some (.string s.name) := by rw [hBB0_10.cell (p := ⟨w.heap.size + 1 + 1, 0, none⟩) (by omega)]; exact hx2_0
  have hy0_2_1 : w10.cell? ⟨w.heap.size + 1 + 1, 1, none⟩ = some (.int .i64 s.length) := by rw [hBB0_10.cell (p := ⟨w.heap.size + 1 + 1, 1, none⟩) (by omega)]; exact hx2_1
  have hy0_2_2 : w10.cell? ⟨w.heap.size + 1 + 1, 2, none⟩ = some (.int .i64 s.draught) := by rw [hBB0_10.cell (p := ⟨w.heap.size + 1 + 1, 2, none⟩) (by omega)]; exact hx2_2
  have hy0_2_3 : w10.cell? ⟨w.heap.size + 1 + 1, 3, none⟩ = some (.int .i64 s.line) := by rw [hBB0_10.cell (p := ⟨w.heap.size + 1 + 1, 3, none⟩) (by omega)]; exact hx2_3
  have hy0_2_4 : w10.cell? ⟨w.heap.size + 1 + 1, 4, none⟩ = some (.int .i64 s.tugs) := by rw [hBB0_10.cell (p := ⟨w.heap.size + 1 + 1, 4, none⟩) (by omega)]; exact hx2_4
  have hy0_2_5 : w10.cell? ⟨w.heap.size + 1 + 1, 5, none⟩ = some (.bool s.slow) := by rw [hBB0_10.cell (p := ⟨w.heap.size + 1 + 1, 5, none⟩) (by omega)]; exact hx2_5
  have hy1_0_0 : w10.cell? ⟨w5.heap.size, 0, none⟩ = some (.int .i64 f.m0) := by rw [hBB1_10.cell (p := ⟨w5.heap.size, 0, none⟩) (by omega)]; exact hz1_0
  have hy1_0_1 : w10.cell? ⟨w5.heap.size, 1, none⟩ = some (.slice (some ⟨g1d, 0, none⟩) f.parts.length f.parts.length) := by rw [hBB1_10.cell (p := ⟨w5.heap.size, 1, none⟩) (by omega)]; exact hz1_1
  have hy1_0_2 : w10.cell? ⟨w5.heap.size, 2, none⟩ = some (.slice (some ⟨g2d, 0, none⟩) f.surges.length f.surges.length) := by rw [hBB1_10.cell (p := ⟨w5.heap.size, 2, none⟩) (by omega)]; exact hz1_2
  have hy2_0_0 : w10.cell? ⟨w7.heap.size, 0, none⟩ = some (.slice (some ⟨g1e, 0, none⟩) c.points.length c.points.length) := by rw [hBB2_10.cell (p := ⟨w7.heap.size, 0, none⟩) (by omega)]; exact hz2_0
  have hy2_0_1 : w10.cell? ⟨w7.heap.size, 1, none⟩ = some (.slice (some ⟨g2e, 0, none⟩) c.segs.length c.segs.length) := by rw [hBB2_10.cell (p := ⟨w7.heap.size, 1, none⟩) (by omega)]; exact hz2_1
  clear hc0 hf0 hc1 hf1 hc2 hf2
  have hlw0 : w.heap.size < w10.heap.size := by omega
  have hlw1 : w.heap.size + 1 < w10.heap.size := by omega
  have hlw2 : w.heap.size + 1 + 1 < w10.heap.size := by omega
  have hlw3 : w5.heap.size < w10.heap.size := by omega
  have hlw4 : w7.heap.size < w10.heap.size := by omega
  have urf := rf.mono (show _ ≤ w10.heap.size by omega)
  have urd := rd.mono (show _ ≤ w10.heap.size by omega)
  go_wp2_with fail
  go_region_held3 (fun w' => w'.cell? ⟨w.heap.size, 0, none⟩ = some (.int .i64 f.m0) ∧ w'.cell? ⟨w.heap.size, 1, none⟩ = some (.slice Af f.parts.length cf) ∧ w'.cell? ⟨w.heap.size, 2, none⟩ = some (.slice Bf f.surges.length df) ∧ w'.cell? ⟨w.heap.size + 1, 0, none⟩ = some (.slice Ac c.points.length cc) ∧ w'.cell? ⟨w.heap.size + 1, 1, none⟩ = some (.slice Bc c.segs.length dc) ∧ w'.cell? ⟨w.heap.size + 1 + 1, 0, none⟩ = some (.string s.name) ∧ w'.cell? ⟨w.heap.size + 1 + 1, 1, none⟩ = some (.int .i64 s.length) ∧ w'.cell? ⟨w.heap.size + 1 + 1, 2, none⟩ = some (.int .i64 s.draught) ∧ w'.cell? ⟨w.heap.size + 1 + 1, 3, none⟩ = some (.int .i64 s.line) ∧ w'.cell? ⟨w.heap.size + 1 + 1, 4, none⟩ = some (.int .i64 s.tugs) ∧ w'.cell? ⟨w.heap.size + 1 + 1, 5, none⟩ = some (.bool s.slow) ∧ w'.cell? ⟨w5.heap.size, 0, none⟩ = some (.int .i64 f.m0) ∧ w'.cell? ⟨w5.heap.size, 1, none⟩ = some (.slice (some ⟨g1d, 0, none⟩) f.parts.length f.parts.length) ∧ w'.cell? ⟨w5.heap.size, 2, none⟩ = some (.slice (some ⟨g2d, 0, none⟩) f.surges.length f.surges.length) ∧ w'.cell? ⟨w7.heap.size, 0, none⟩ = some (.slice (some ⟨g1e, 0, none⟩) c.points.length c.points.length) ∧ w'.cell? ⟨w7.heap.size, 1, none⟩ = some (.slice (some ⟨g2e, 0, none⟩) c.segs.length c.segs.length) ∧ w.heap.size < w'.heap.size ∧ w.heap.size + 1 < w'.heap.size ∧ w.heap.size + 1 + 1 < w'.heap.size ∧ w5.heap.size < w'.heap.size ∧ w7.heap.size < w'.heap.size ∧ Below w10.heap.size w10 w')
    (first | exact ⟨hy0_0_0, hy0_0_1, hy0_0_2, hy0_1_0, hy0_1_1, hy0_2_0, hy0_2_1, hy0_2_2, hy0_2_3, hy0_2_4, hy0_2_5, hy1_0_0, hy1_0_1, hy1_0_2, hy2_0_0, hy2_0_1, hlw0, hlw1, hlw2, hlw3, hlw4, Below.drew (Below.refl _ _)⟩ | exact ⟨cellKeepL hb' g0_0_0 hlz0, cellKeepL hb' g0_0_1 hlz0, cellKeepL hb' g0_0_2 hlz0, cellKeepL hb' g0_1_0 hlz1, cellKeepL hb' g0_1_1 hlz1, cellKeepL hb' g0_2_0 hlz2, cellKeepL hb' g0_2_1 hlz2, cellKeepL hb' g0_2_2 hlz2, cellKeepL hb' g0_2_3 hlz2, cellKeepL hb' g0_2_4 hlz2, cellKeepL hb' g0_2_5 hlz2, cellKeepL hb' g1_0_0 hlz3, cellKeepL hb' g1_0_1 hlz3, cellKeepL hb' g1_0_2 hlz3, cellKeepL hb' g2_0_0 hlz4, cellKeepL hb' g2_0_1 hlz4, Nat.lt_of_lt_of_le hlz0 hb'.size, Nat.lt_of_lt_of_le hlz1 hb'.size, Nat.lt_of_lt_of_le hlz2 hb'.size, Nat.lt_of_lt_of_le hlz3 hb'.size, Nat.lt_of_lt_of_le hlz4 hb'.size, hBz⟩ | ((repeat' apply And.intro) <;> first | assumption | omega | (rw [hc _ _ (by omega)]; assumption) | (simp [*]; done) | exact Below.drew (Below.refl _ _)))
    (first | (go_at_call 28; obtain ⟨g0_0_0, g0_0_1, g0_0_2, g0_1_0, g0_1_1, g0_2_0, g0_2_1, g0_2_2, g0_2_3, g0_2_4, g0_2_5, g1_0_0, g1_0_1, g1_0_2, g2_0_0, g2_0_1, hlz0, hlz1, hlz2, hlz3, hlz4, hBz⟩ := (by with_reducible assumption : _ ∧ _); with_reducible refine (toForecastR_any _ _ f _ ((urf.keep hBz (Nat.le_refl _)).mono hBz.size) hpf hsf).mono ?_; rintro e wz ⟨gf1, gf2, rfl, hro, hb'⟩; obtain ⟨hc, hf⟩ := bcell hb'; have hBz := bnext hBz hb' (Nat.le_refl _); (try replace hr0 := Rd.below hr0 hb'); (try replace hr0 := RdChart.below hr0 hb'); (try replace hr0 := RdFore.below hr0 hb'); have hr0 := hro) | (go_at_call 31; obtain ⟨g0_0_0, g0_0_1, g0_0_2, g0_1_0, g0_1_1, g0_2_0, g0_2_1, g0_2_2, g0_2_3, g0_2_4, g0_2_5, g1_0_0, g1_0_1, g1_0_2, g2_0_0, g2_0_1, hlz0, hlz1, hlz2, hlz3, hlz4, hBz⟩ := (by with_reducible assumption : _ ∧ _); with_reducible refine (eqForecast_any _ _ _ _ f f _ ((urd.keep hBz (Nat.le_refl _)).mono hBz.size) hr0).mono ?_; rintro e wz ⟨rfl, hb'⟩; obtain ⟨hc, hf⟩ := bcell hb'; have hBz := bnext hBz hb' (Nat.le_refl _); (try replace hr0 := Rd.below hr0 hb'); (try replace hr0 := RdChart.below hr0 hb'); (try replace hr0 := RdFore.below hr0 hb')))
  rename World => w11
  have hb11 := hBz
  clear hc hf hBz urf urd
  have s11 := hb11.size
  replace rf := rf.keep hb11 (by omega)
  replace rc := rc.keep hb11 (by omega)
  replace rx := rx.keep hb11 (by omega)
  replace rd := rd.keep hb11 (by omega)
  replace odp := odp.keep hb11 (by omega)
  replace ods := ods.keep hb11 (by omega)
  replace re := re.keep hb11 (by omega)
  replace oep := oep.keep hb11 (by omega)
  replace oes := oes.keep hb11 (by omega)
  replace ry := ry.keep hb11 (by omega)
  replace oy := oy.keep hb11 (by omega)
  have hB11 := bnext hB10 hb11 (Nat.le_refl _)
  have hBB0_11 := bnext hBB0_10 hb11 (Nat.le_refl _)
  obtain ⟨hc0, hf0⟩ := bcell hBB0_11
  have hm0_0 : w.heap.size < w11.heap.size := by omega
  have hm0_1 : w.heap.size + 1 < w11.heap.size := by omega
  have hm0_2 : w.heap.size + 1 + 1 < w11.heap.size := by omega
  have hBB1_11 := bnext hBB1_10 hb11 (Nat.le_refl _)
  obtain ⟨hc1, hf1⟩ := bcell hBB1_11
  have hm1_0 : w5.heap.size < w11.heap.size := by omega
  have hBB2_11 := bnext hBB2_10 hb11 (Nat.le_refl _)
  obtain ⟨hc2, hf2⟩ := bcell hBB2_11
  have hm2_0 : w7.heap.size < w11.heap.size := by omega
  try rw [ForeD.eqB_self]
  have hy0_0_0 : w11.cell? ⟨w.heap.size, 0, none⟩ = some (.int .i64 f.m0) := by rw [hBB0_11.cell (p := ⟨w.heap.size, 0, none⟩) (by omega)]; exact hx0_0
  have hy0_0_1 : w11.cell? ⟨w.heap.size, 1, none⟩ = some (.slice Af f.parts.length cf) := by rw [hBB0_11.cell (p := ⟨w.heap.size, 1, none⟩) (by omega)]; exact hx0_1
  have hy0_0_2 : w11.cell? ⟨w.heap.size, 2, none⟩ = some (.slice Bf f.surges.length df) := by rw [hBB0_11.cell (p := ⟨w.heap.size, 2, none⟩) (by omega)]; exact hx0_2
  have hy0_1_0 : w11.cell? ⟨w.heap.size + 1, 0, none⟩ = some (.slice Ac c.points.length cc) := by rw [hBB0_11.cell (p := ⟨w.heap.size + 1, 0, none⟩) (by omega)]; exact hx1_0
  have hy0_1_1 : w11.cell? ⟨w.heap.size + 1, 1, none⟩ = some (.slice Bc c.segs.length dc) := by rw [hBB0_11.cell (p := ⟨w.heap.size + 1, 1, none⟩) (by omega)]; exact hx1_1
  have hy0_2_0 : w11.cell? ⟨w.heap.size + 1 + 1, 0, none⟩ = some (.string s.name) := by rw [hBB0_11.cell (p := ⟨w.heap.size + 1 + 1, 0, none⟩) (by omega)]; exact hx2_0
  have hy0_2_1 : w11.cell? ⟨w.heap.size + 1 + 1, 1, none⟩ = some (.int .i64 s.length) := by rw [hBB0_11.cell (p := ⟨w.heap.size + 1 + 1, 1, none⟩) (by omega)]; exact hx2_1
  have hy0_2_2 : w11.cell? ⟨w.heap.size + 1 + 1, 2, none⟩ = some (.int .i64 s.draught) := by rw [hBB0_11.cell (p := ⟨w.heap.size + 1 + 1, 2, none⟩) (by omega)]; exact hx2_2
  have hy0_2_3 : w11.cell? ⟨w.heap.size + 1 + 1, 3, none⟩ = some (.int .i64 s.line) := by rw [hBB0_11.cell (p := ⟨w.heap.size + 1 + 1, 3, none⟩) (by omega)]; exact hx2_3
  have hy0_2_4 : w11.cell? ⟨w.heap.size + 1 + 1, 4, none⟩ = some (.int .i64 s.tugs) := by rw [hBB0_11.cell (p := ⟨w.heap.size + 1 + 1, 4, none⟩) (by omega)]; exact hx2_4
  have hy0_2_5 : w11.cell? ⟨w.heap.size + 1 + 1, 5, none⟩ = some (.bool s.slow) := by rw [hBB0_11.cell (p := ⟨w.heap.size + 1 + 1, 5, none⟩) (by omega)]; exact hx2_5
  have hy1_0_0 : w11.cell? ⟨w5.heap.size, 0, none⟩ = some (.int .i64 f.m0) := by rw [hBB1_11.cell (p := ⟨w5.heap.size, 0, none⟩) (by omega)]; exact hz1_0
  have hy1_0_1 : w11.cell? ⟨w5.heap.size, 1, none⟩ = some (.slice (some ⟨g1d, 0, none⟩) f.parts.length f.parts.length) := by rw [hBB1_11.cell (p := ⟨w5.heap.size, 1, none⟩) (by omega)]; exact hz1_1
  have hy1_0_2 : w11.cell? ⟨w5.heap.size, 2, none⟩ = some (.slice (some ⟨g2d, 0, none⟩) f.surges.length f.surges.length) := by rw [hBB1_11.cell (p := ⟨w5.heap.size, 2, none⟩) (by omega)]; exact hz1_2
  have hy2_0_0 : w11.cell? ⟨w7.heap.size, 0, none⟩ = some (.slice (some ⟨g1e, 0, none⟩) c.points.length c.points.length) := by rw [hBB2_11.cell (p := ⟨w7.heap.size, 0, none⟩) (by omega)]; exact hz2_0
  have hy2_0_1 : w11.cell? ⟨w7.heap.size, 1, none⟩ = some (.slice (some ⟨g2e, 0, none⟩) c.segs.length c.segs.length) := by rw [hBB2_11.cell (p := ⟨w7.heap.size, 1, none⟩) (by omega)]; exact hz2_1
  clear hc0 hf0 hc1 hf1 hc2 hf2
  have hlw0 : w.heap.size < w11.heap.size := by omega
  have hlw1 : w.heap.size + 1 < w11.heap.size := by omega
  have hlw2 : w.heap.size + 1 + 1 < w11.heap.size := by omega
  have hlw3 : w5.heap.size < w11.heap.size := by omega
  have hlw4 : w7.heap.size < w11.heap.size := by omega
  have urc := rc.mono (show _ ≤ w11.heap.size by omega)
  have ure := re.mono (show _ ≤ w11.heap.size by omega)
  go_wp2_with fail
  go_region_held3 (fun w' => w'.cell? ⟨w.heap.size, 0, none⟩ = some (.int .i64 f.m0) ∧ w'.cell? ⟨w.heap.size, 1, none⟩ = some (.slice Af f.parts.length cf) ∧ w'.cell? ⟨w.heap.size, 2, none⟩ = some (.slice Bf f.surges.length df) ∧ w'.cell? ⟨w.heap.size + 1, 0, none⟩ = some (.slice Ac c.points.length cc) ∧ w'.cell? ⟨w.heap.size + 1, 1, none⟩ = some (.slice Bc c.segs.length dc) ∧ w'.cell? ⟨w.heap.size + 1 + 1, 0, none⟩ = some (.string s.name) ∧ w'.cell? ⟨w.heap.size + 1 + 1, 1, none⟩ = some (.int .i64 s.length) ∧ w'.cell? ⟨w.heap.size + 1 + 1, 2, none⟩ = some (.int .i64 s.draught) ∧ w'.cell? ⟨w.heap.size + 1 + 1, 3, none⟩ = some (.int .i64 s.line) ∧ w'.cell? ⟨w.heap.size + 1 + 1, 4, none⟩ = some (.int .i64 s.tugs) ∧ w'.cell? ⟨w.heap.size + 1 + 1, 5, none⟩ = some (.bool s.slow) ∧ w'.cell? ⟨w5.heap.size, 0, none⟩ = some (.int .i64 f.m0) ∧ w'.cell? ⟨w5.heap.size, 1, none⟩ = some (.slice (some ⟨g1d, 0, none⟩) f.parts.length f.parts.length) ∧ w'.cell? ⟨w5.heap.size, 2, none⟩ = some (.slice (some ⟨g2d, 0, none⟩) f.surges.length f.surges.length) ∧ w'.cell? ⟨w7.heap.size, 0, none⟩ = some (.slice (some ⟨g1e, 0, none⟩) c.points.length c.points.length) ∧ w'.cell? ⟨w7.heap.size, 1, none⟩ = some (.slice (some ⟨g2e, 0, none⟩) c.segs.length c.segs.length) ∧ w.heap.size < w'.heap.size ∧ w.heap.size + 1 < w'.heap.size ∧ w.heap.size + 1 + 1 < w'.heap.size ∧ w5.heap.size < w'.heap.size ∧ w7.heap.size < w'.heap.size ∧ Below w11.heap.size w11 w')
    (first | exact ⟨hy0_0_0, hy0_0_1, hy0_0_2, hy0_1_0, hy0_1_1, hy0_2_0, hy0_2_1, hy0_2_2, hy0_2_3, hy0_2_4, hy0_2_5, hy1_0_0, hy1_0_1, hy1_0_2, hy2_0_0, hy2_0_1, hlw0, hlw1, hlw2, hlw3, hlw4, Below.drew (Below.refl _ _)⟩ | exact ⟨cellKeepL hb' g0_0_0 hlz0, cellKeepL hb' g0_0_1 hlz0, cellKeepL hb' g0_0_2 hlz0, cellKeepL hb' g0_1_0 hlz1, cellKeepL hb' g0_1_1 hlz1, cellKeepL hb' g0_2_0 hlz2, cellKeepL hb' g0_2_1 hlz2, cellKeepL hb' g0_2_2 hlz2, cellKeepL hb' g0_2_3 hlz2, cellKeepL hb' g0_2_4 hlz2, cellKeepL hb' g0_2_5 hlz2, cellKeepL hb' g1_0_0 hlz3, cellKeepL hb' g1_0_1 hlz3, cellKeepL hb' g1_0_2 hlz3, cellKeepL hb' g2_0_0 hlz4, cellKeepL hb' g2_0_1 hlz4, Nat.lt_of_lt_of_le hlz0 hb'.size, Nat.lt_of_lt_of_le hlz1 hb'.size, Nat.lt_of_lt_of_le hlz2 hb'.size, Nat.lt_of_lt_of_le hlz3 hb'.size, Nat.lt_of_lt_of_le hlz4 hb'.size, hBz⟩ | ((repeat' apply And.intro) <;> first | assumption | omega | (rw [hc _ _ (by omega)]; assumption) | (simp [*]; done) | exact Below.drew (Below.refl _ _)))
    (first | (go_at_call 29; obtain ⟨g0_0_0, g0_0_1, g0_0_2, g0_1_0, g0_1_1, g0_2_0, g0_2_1, g0_2_2, g0_2_3, g0_2_4, g0_2_5, g1_0_0, g1_0_1, g1_0_2, g2_0_0, g2_0_1, hlz0, hlz1, hlz2, hlz3, hlz4, hBz⟩ := (by with_reducible assumption : _ ∧ _); with_reducible refine (toChart_any _ _ c _ ((urc.keep hBz (Nat.le_refl _)).mono hBz.size) hpc hsc).mono ?_; rintro e wz ⟨gz1, gz2, rfl, hrc, hb'⟩; obtain ⟨hc, hf⟩ := bcell hb'; have hBz := bnext hBz hb' (Nat.le_refl _); (try replace hr0 := Rd.below hr0 hb'); (try replace hr0 := RdChart.below hr0 hb'); (try replace hr0 := RdFore.below hr0 hb'); have hr0 := hrc) | (go_at_call 32; obtain ⟨g0_0_0, g0_0_1, g0_0_2, g0_1_0, g0_1_1, g0_2_0, g0_2_1, g0_2_2, g0_2_3, g0_2_4, g0_2_5, g1_0_0, g1_0_1, g1_0_2, g2_0_0, g2_0_1, hlz0, hlz1, hlz2, hlz3, hlz4, hBz⟩ := (by with_reducible assumption : _ ∧ _); with_reducible refine (eqChart_any _ _ _ _ c c _ ((ure.keep hBz (Nat.le_refl _)).mono hBz.size) hr0).mono ?_; rintro e wz ⟨rfl, hb'⟩; obtain ⟨hc, hf⟩ := bcell hb'; have hBz := bnext hBz hb' (Nat.le_refl _); (try replace hr0 := Rd.below hr0 hb'); (try replace hr0 := RdChart.below hr0 hb'); (try replace hr0 := RdFore.below hr0 hb')))
  rename World => w12
  have hb12 := hBz
  clear hc hf hBz urc ure
  have s12 := hb12.size
  replace rf := rf.keep hb12 (by omega)
  replace rc := rc.keep hb12 (by omega)
  replace rx := rx.keep hb12 (by omega)
  replace rd := rd.keep hb12 (by omega)
  replace odp := odp.keep hb12 (by omega)
  replace ods := ods.keep hb12 (by omega)
  replace re := re.keep hb12 (by omega)
  replace oep := oep.keep hb12 (by omega)
  replace oes := oes.keep hb12 (by omega)
  replace ry := ry.keep hb12 (by omega)
  replace oy := oy.keep hb12 (by omega)
  have hB12 := bnext hB11 hb12 (Nat.le_refl _)
  have hBB0_12 := bnext hBB0_11 hb12 (Nat.le_refl _)
  obtain ⟨hc0, hf0⟩ := bcell hBB0_12
  have hm0_0 : w.heap.size < w12.heap.size := by omega
  have hm0_1 : w.heap.size + 1 < w12.heap.size := by omega
  have hm0_2 : w.heap.size + 1 + 1 < w12.heap.size := by omega
  have hBB1_12 := bnext hBB1_11 hb12 (Nat.le_refl _)
  obtain ⟨hc1, hf1⟩ := bcell hBB1_12
  have hm1_0 : w5.heap.size < w12.heap.size := by omega
  have hBB2_12 := bnext hBB2_11 hb12 (Nat.le_refl _)
  obtain ⟨hc2, hf2⟩ := bcell hBB2_12
  have hm2_0 : w7.heap.size < w12.heap.size := by omega
  try rw [decide_eq_true rfl]
  clear rd
  clear re
  go_wp2_with fail
  refine (markForecast_any _ _ f 1 _ _ _ odp ods (by omega) (by omega) (by omega) (by omega) hpf hsf).mono ?_; rintro e w13 ⟨rfl, ht13⟩
  clear odp
  clear ods
  have s13 := ht13.size
  have hk13_2_0 : w7.heap.size < w13.heap.size := by omega
  have hz13_2_0_0 : w13.cell? ⟨w7.heap.size, 0, none⟩ = some (.slice (some ⟨g1e, 0, none⟩) c.points.length c.points.length) := by rw [World.cell?_of_block (ht13.block w7.heap.size (by omega) (by omega)), hBB2_12.cell (p := ⟨w7.heap.size, 0, none⟩) (by omega)]; exact hz2_0
  have hz13_2_0_1 : w13.cell? ⟨w7.heap.size, 1, none⟩ = some (.slice (some ⟨g2e, 0, none⟩) c.segs.length c.segs.length) := by rw [World.cell?_of_block (ht13.block w7.heap.size (by omega) (by omega)), hBB2_12.cell (p := ⟨w7.heap.size, 1, none⟩) (by omega)]; exact hz2_1
  replace oep := oep.tou ht13 (by omega)
  replace oes := oes.tou ht13 (by omega)
  replace oy := oy.tou ht13 (by omega)
  replace rf := rf.keep (ht13.below (by omega)) (by omega)
  replace rc := rc.keep (ht13.below (by omega)) (by omega)
  replace rx := rx.keep (ht13.below (by omega)) (by omega)
  replace ry := oy.rdB WindowD.enc_len
  have hB13 := hB12.trans ((ht13.below (by omega)).mono (by omega))
  clear hc1 hf1
  clear hc2 hf2
  have hBB0_13 := hBB0_12.trans ((ht13.below (by omega)).mono (by omega))
  clear hc0 hf0; obtain ⟨hc0, hf0⟩ := bcell hBB0_13
  have hm0_0 : w.heap.size < w13.heap.size := by omega
  have hm0_1 : w.heap.size + 1 < w13.heap.size := by omega
  have hm0_2 : w.heap.size + 1 + 1 < w13.heap.size := by omega
  have hBB1 := Below.refl w13.heap.size w13
  obtain ⟨hc1, hf1⟩ := bcell hBB1
  go_wp2_with fail
  refine (markChart_any _ _ c (1 + (f.parts.length : Int) * 3 + (f.surges.length : Int) * 3) _ _ _ oep oes (by omega) (by omega) (by omega) hpc hsc).mono ?_; rintro e w14 ⟨rfl, ht14⟩
  clear oep
  clear oes
  have s14 := ht14.size
  replace oy := oy.tou ht14 (by omega)
  replace rf := rf.keep (ht14.below (by omega)) (by omega)
  replace rc := rc.keep (ht14.below (by omega)) (by omega)
  replace rx := rx.keep (ht14.below (by omega)) (by omega)
  replace ry := oy.rdB WindowD.enc_len
  have hB14 := hB13.trans ((ht14.below (by omega)).mono (by omega))
  clear hc1 hf1
  have hBB0_14 := hBB0_13.trans ((ht14.below (by omega)).mono (by omega))
  clear hc0 hf0; obtain ⟨hc0, hf0⟩ := bcell hBB0_14
  have hm0_0 : w.heap.size < w14.heap.size := by omega
  have hm0_1 : w.heap.size + 1 < w14.heap.size := by omega
  have hm0_2 : w.heap.size + 1 + 1 < w14.heap.size := by omega
  go_wp2_with fail
  refine (eqWindowS_any _ _ _ _ _ (ry.mono (by omega)) (rx.mono (by omega))).mono ?_; rintro e w15 ⟨rfl, hb15⟩
  have s15 := hb15.size
  replace rf := rf.keep hb15 (by omega)
  replace rc := rc.keep hb15 (by omega)
  replace rx := rx.keep hb15 (by omega)
  replace ry := ry.keep hb15 (by omega)
  replace oy := oy.keep hb15 (by omega)
  have hB15 := bnext hB14 hb15 (Nat.le_refl _)
  have hBB0_15 := bnext hBB0_14 hb15 (Nat.le_refl _)
  clear hc0 hf0; obtain ⟨hc0, hf0⟩ := bcell hBB0_15
  have hm0_0 : w.heap.size < w15.heap.size := by omega
  have hm0_1 : w.heap.size + 1 < w15.heap.size := by omega
  have hm0_2 : w.heap.size + 1 + 1 < w15.heap.size := by omega
  go_wp2_with fail
  refine (markWindowS_any _ _ _ _ _ oy.1 (by omega) (by omega) (by omega)).mono ?_; rintro e w16 ⟨rfl, ho16, hg16⟩
  have ht16 := Tou.grown hg16 (fun k hk => ⟨(World.ownsRow.lt oy.1 k hk).1, oy.2 k hk⟩)
  replace oy := oy.again ho16; clear ho16 hg16
  have s16 := ht16.size
  replace rf := rf.keep (ht16.below (by omega)) (by omega)
  replace rc := rc.keep (ht16.below (by omega)) (by omega)
  replace rx := rx.keep (ht16.below (by omega)) (by omega)
  replace ry := oy.rdB WindowD.enc_len
  have hB16 := hB15.trans ((ht16.below (by omega)).mono (by omega))
  have hBB0_16 := hBB0_15.trans ((ht16.below (by omega)).mono (by omega))
  clear hc0 hf0; obtain ⟨hc0, hf0⟩ := bcell hBB0_16
  have hm0_0 : w.heap.size < w16.heap.size := by omega
  have hm0_1 : w.heap.size + 1 < w16.heap.size := by omega
  have hm0_2 : w.heap.size + 1 + 1 < w16.heap.size := by omega
  go_wp2_with fail
  refine (heldWindowS_any _ _ _ _ (ry.mono (by omega)) (by omega) (by omega) (by omega)).mono ?_; rintro e w17 ⟨rfl, hb17⟩
  have s17 := hb17.size
  replace rf := rf.keep hb17 (by omega)
  replace rc := rc.keep hb17 (by omega)
  replace rx := rx.keep hb17 (by omega)
  replace ry := ry.keep hb17 (by omega)
  replace oy := oy.keep hb17 (by omega)
  have hB17 := bnext hB16 hb17 (Nat.le_refl _)
  have hBB0_17 := bnext hBB0_16 hb17 (Nat.le_refl _)
  clear hc0 hf0; obtain ⟨hc0, hf0⟩ := bcell hBB0_17
  have hm0_0 : w.heap.size < w17.heap.size := by omega
  have hm0_1 : w.heap.size + 1 < w17.heap.size := by omega
  have hm0_2 : w.heap.size + 1 + 1 < w17.heap.size := by omega
  have hy0_0_0 : w17.cell? ⟨w.heap.size, 0, none⟩ = some (.int .i64 f.m0) := by rw [hBB0_17.cell (p := ⟨w.heap.size, 0, none⟩) (by omega)]; exact hx0_0
  have hy0_0_1 : w17.cell? ⟨w.heap.size, 1, none⟩ = some (.slice Af f.parts.length cf) := by rw [hBB0_17.cell (p := ⟨w.heap.size, 1, none⟩) (by omega)]; exact hx0_1
  have hy0_0_2 : w17.cell? ⟨w.heap.size, 2, none⟩ = some (.slice Bf f.surges.length df) := by rw [hBB0_17.cell (p := ⟨w.heap.size, 2, none⟩) (by omega)]; exact hx0_2
  have hy0_1_0 : w17.cell? ⟨w.heap.size + 1, 0, none⟩ = some (.slice Ac c.points.length cc) := by rw [hBB0_17.cell (p := ⟨w.heap.size + 1, 0, none⟩) (by omega)]; exact hx1_0
  have hy0_1_1 : w17.cell? ⟨w.heap.size + 1, 1, none⟩ = some (.slice Bc c.segs.length dc) := by rw [hBB0_17.cell (p := ⟨w.heap.size + 1, 1, none⟩) (by omega)]; exact hx1_1
  have hy0_2_0 : w17.cell? ⟨w.heap.size + 1 + 1, 0, none⟩ = some (.string s.name) := by rw [hBB0_17.cell (p := ⟨w.heap.size + 1 + 1, 0, none⟩) (by omega)]; exact hx2_0
  have hy0_2_1 : w17.cell? ⟨w.heap.size + 1 + 1, 1, none⟩ = some (.int .i64 s.length) := by rw [hBB0_17.cell (p := ⟨w.heap.size + 1 + 1, 1, none⟩) (by omega)]; exact hx2_1
  have hy0_2_2 : w17.cell? ⟨w.heap.size + 1 + 1, 2, none⟩ = some (.int .i64 s.draught) := by rw [hBB0_17.cell (p := ⟨w.heap.size + 1 + 1, 2, none⟩) (by omega)]; exact hx2_2
  have hy0_2_3 : w17.cell? ⟨w.heap.size + 1 + 1, 3, none⟩ = some (.int .i64 s.line) := by rw [hBB0_17.cell (p := ⟨w.heap.size + 1 + 1, 3, none⟩) (by omega)]; exact hx2_3
  have hy0_2_4 : w17.cell? ⟨w.heap.size + 1 + 1, 4, none⟩ = some (.int .i64 s.tugs) := by rw [hBB0_17.cell (p := ⟨w.heap.size + 1 + 1, 4, none⟩) (by omega)]; exact hx2_4
  have hy0_2_5 : w17.cell? ⟨w.heap.size + 1 + 1, 5, none⟩ = some (.bool s.slow) := by rw [hBB0_17.cell (p := ⟨w.heap.size + 1 + 1, 5, none⟩) (by omega)]; exact hx2_5
  clear hc0 hf0
  have hlw0 : w.heap.size < w17.heap.size := by omega
  have hlw1 : w.heap.size + 1 < w17.heap.size := by omega
  have hlw2 : w.heap.size + 1 + 1 < w17.heap.size := by omega
  have urf := rf.mono (show _ ≤ w17.heap.size by omega)
  have urc := rc.mono (show _ ≤ w17.heap.size by omega)
  go_wp2_with fail
  go_region_held3 (fun w' => w'.cell? ⟨w.heap.size, 0, none⟩ = some (.int .i64 f.m0) ∧ w'.cell? ⟨w.heap.size, 1, none⟩ = some (.slice Af f.parts.length cf) ∧ w'.cell? ⟨w.heap.size, 2, none⟩ = some (.slice Bf f.surges.length df) ∧ w'.cell? ⟨w.heap.size + 1, 0, none⟩ = some (.slice Ac c.points.length cc) ∧ w'.cell? ⟨w.heap.size + 1, 1, none⟩ = some (.slice Bc c.segs.length dc) ∧ w'.cell? ⟨w.heap.size + 1 + 1, 0, none⟩ = some (.string s.name) ∧ w'.cell? ⟨w.heap.size + 1 + 1, 1, none⟩ = some (.int .i64 s.length) ∧ w'.cell? ⟨w.heap.size + 1 + 1, 2, none⟩ = some (.int .i64 s.draught) ∧ w'.cell? ⟨w.heap.size + 1 + 1, 3, none⟩ = some (.int .i64 s.line) ∧ w'.cell? ⟨w.heap.size + 1 + 1, 4, none⟩ = some (.int .i64 s.tugs) ∧ w'.cell? ⟨w.heap.size + 1 + 1, 5, none⟩ = some (.bool s.slow) ∧ w.heap.size < w'.heap.size ∧ w.heap.size + 1 < w'.heap.size ∧ w.heap.size + 1 + 1 < w'.heap.size ∧ Below w17.heap.size w17 w')
    (first | exact ⟨hy0_0_0, hy0_0_1, hy0_0_2, hy0_1_0, hy0_1_1, hy0_2_0, hy0_2_1, hy0_2_2, hy0_2_3, hy0_2_4, hy0_2_5, hlw0, hlw1, hlw2, Below.drew (Below.refl _ _)⟩ | exact ⟨cellKeepL hb' g0_0_0 hlz0, cellKeepL hb' g0_0_1 hlz0, cellKeepL hb' g0_0_2 hlz0, cellKeepL hb' g0_1_0 hlz1, cellKeepL hb' g0_1_1 hlz1, cellKeepL hb' g0_2_0 hlz2, cellKeepL hb' g0_2_1 hlz2, cellKeepL hb' g0_2_2 hlz2, cellKeepL hb' g0_2_3 hlz2, cellKeepL hb' g0_2_4 hlz2, cellKeepL hb' g0_2_5 hlz2, Nat.lt_of_lt_of_le hlz0 hb'.size, Nat.lt_of_lt_of_le hlz1 hb'.size, Nat.lt_of_lt_of_le hlz2 hb'.size, hBz⟩ | ((repeat' apply And.intro) <;> first | assumption | omega | (rw [hc _ _ (by omega)]; assumption) | (simp [*]; done) | exact Below.drew (Below.refl _ _)))
    (first | (go_at_call 28; obtain ⟨g0_0_0, g0_0_1, g0_0_2, g0_1_0, g0_1_1, g0_2_0, g0_2_1, g0_2_2, g0_2_3, g0_2_4, g0_2_5, hlz0, hlz1, hlz2, hBz⟩ := (by with_reducible assumption : _ ∧ _); with_reducible refine (toForecastR_any _ _ f _ ((urf.keep hBz (Nat.le_refl _)).mono hBz.size) hpf hsf).mono ?_; rintro e wz ⟨gf1, gf2, rfl, hro, hb'⟩; obtain ⟨hc, hf⟩ := bcell hb'; have hBz := bnext hBz hb' (Nat.le_refl _); (try replace hr0 := Rd.below hr0 hb'); (try replace hr0 := RdChart.below hr0 hb'); (try replace hr0 := RdFore.below hr0 hb'); (try replace hr1 := Rd.below hr1 hb'); (try replace hr1 := RdChart.below hr1 hb'); (try replace hr1 := RdFore.below hr1 hb'); have hr0 := hro) | (go_at_call 29; obtain ⟨g0_0_0, g0_0_1, g0_0_2, g0_1_0, g0_1_1, g0_2_0, g0_2_1, g0_2_2, g0_2_3, g0_2_4, g0_2_5, hlz0, hlz1, hlz2, hBz⟩ := (by with_reducible assumption : _ ∧ _); with_reducible refine (toChart_any _ _ c _ ((urc.keep hBz (Nat.le_refl _)).mono hBz.size) hpc hsc).mono ?_; rintro e wz ⟨gz1, gz2, rfl, hrc, hb'⟩; obtain ⟨hc, hf⟩ := bcell hb'; have hBz := bnext hBz hb' (Nat.le_refl _); (try replace hr0 := Rd.below hr0 hb'); (try replace hr0 := RdChart.below hr0 hb'); (try replace hr0 := RdFore.below hr0 hb'); (try replace hr1 := Rd.below hr1 hb'); (try replace hr1 := RdChart.below hr1 hb'); (try replace hr1 := RdFore.below hr1 hb'); have hr1 := hrc) | (go_at_call 30; obtain ⟨g0_0_0, g0_0_1, g0_0_2, g0_1_0, g0_1_1, g0_2_0, g0_2_1, g0_2_2, g0_2_3, g0_2_4, g0_2_5, hlz0, hlz1, hlz2, hBz⟩ := (by with_reducible assumption : _ ∧ _); with_reducible refine (toShip_any _ _ _ _ _ _ _).mono ?_; rintro e wz ⟨rfl, hb'⟩; obtain ⟨hc, hf⟩ := bcell hb'; have hBz := bnext hBz hb' (Nat.le_refl _); (try replace hr0 := Rd.below hr0 hb'); (try replace hr0 := RdChart.below hr0 hb'); (try replace hr0 := RdFore.below hr0 hb'); (try replace hr1 := Rd.below hr1 hb'); (try replace hr1 := RdChart.below hr1 hb'); (try replace hr1 := RdFore.below hr1 hb')) | (go_at_call 22; obtain ⟨g0_0_0, g0_0_1, g0_0_2, g0_1_0, g0_1_1, g0_2_0, g0_2_1, g0_2_2, g0_2_3, g0_2_4, g0_2_5, hlz0, hlz1, hlz2, hBz⟩ := (by with_reducible assumption : _ ∧ _); with_reducible refine (impl_OpenStarts_any _ _ _ _ f c k s _ hr0 hr1 hokc (ShipD.ok_size hoks)).mono ?_; rintro e wz ⟨vz, rfl, hPas, hb'⟩; obtain ⟨hc, hf⟩ := bcell hb'; have hBz := bnext hBz hb' (Nat.le_refl _); (try replace hr0 := Rd.below hr0 hb'); (try replace hr0 := RdChart.below hr0 hb'); (try replace hr0 := RdFore.below hr0 hb'); (try replace hr1 := Rd.below hr1 hb'); (try replace hr1 := RdChart.below hr1 hb'); (try replace hr1 := RdFore.below hr1 hb')))
  rename World => w18
  have hb18 := hBz
  clear hc hf hBz urf urc
  have s18 := hb18.size
  replace rf := rf.keep hb18 (by omega)
  replace rc := rc.keep hb18 (by omega)
  replace rx := rx.keep hb18 (by omega)
  replace ry := ry.keep hb18 (by omega)
  replace oy := oy.keep hb18 (by omega)
  have hB18 := bnext hB17 hb18 (Nat.le_refl _)
  have hBB0_18 := bnext hBB0_17 hb18 (Nat.le_refl _)
  obtain ⟨hc0, hf0⟩ := bcell hBB0_18
  have hm0_0 : w.heap.size < w18.heap.size := by omega
  have hm0_1 : w.heap.size + 1 < w18.heap.size := by omega
  have hm0_2 : w.heap.size + 1 + 1 < w18.heap.size := by omega
  have rz := Own.rd WindowD.enc_len hPas
  clear hPas
  go_wp2_with fail
  refine (eqWindowS_any _ _ _ _ _ (rz.mono (by omega)) (rx.mono (by omega))).mono ?_; rintro e w19 ⟨rfl, hb19⟩
  have s19 := hb19.size
  replace rf := rf.keep hb19 (by omega)
  replace rc := rc.keep hb19 (by omega)
  replace rx := rx.keep hb19 (by omega)
  replace ry := ry.keep hb19 (by omega)
  replace oy := oy.keep hb19 (by omega)
  replace rz := rz.keep hb19 (by omega)
  have hB19 := bnext hB18 hb19 (Nat.le_refl _)
  have hBB0_19 := bnext hBB0_18 hb19 (Nat.le_refl _)
  clear hc0 hf0; obtain ⟨hc0, hf0⟩ := bcell hBB0_19
  have hm0_0 : w.heap.size < w19.heap.size := by omega
  have hm0_1 : w.heap.size + 1 < w19.heap.size := by omega
  have hm0_2 : w.heap.size + 1 + 1 < w19.heap.size := by omega
  go_wp2_with fail
  refine (heldWindowS_any _ _ _ _ (ry.mono (by omega)) (by omega) (by omega) (by omega)).mono ?_; rintro e w20 ⟨rfl, hb20⟩
  have s20 := hb20.size
  replace rf := rf.keep hb20 (by omega)
  replace rc := rc.keep hb20 (by omega)
  replace rx := rx.keep hb20 (by omega)
  replace ry := ry.keep hb20 (by omega)
  replace oy := oy.keep hb20 (by omega)
  replace rz := rz.keep hb20 (by omega)
  have hB20 := bnext hB19 hb20 (Nat.le_refl _)
  have hBB0_20 := bnext hBB0_19 hb20 (Nat.le_refl _)
  clear hc0 hf0; obtain ⟨hc0, hf0⟩ := bcell hBB0_20
  have hm0_0 : w.heap.size < w20.heap.size := by omega
  have hm0_1 : w.heap.size + 1 < w20.heap.size := by omega
  have hm0_2 : w.heap.size + 1 + 1 < w20.heap.size := by omega
  go_wp2_with fail
  go_ret
  exact ⟨rfl, hB20⟩
namespace fnExactOpenStarts
set_option maxRecDepth 100000 in
theorem lifted (os : Os) (started : os.Started) (H : Type) (enc : TypeId × Value → H) :
    ReturnsInHanded {} Try.checked os 7 .any (Rows.fnExactOpenStartsSpec.pre6 enc Try.prog Try.f7 Rows.fnExactOpenStartsRow.domain false) (Rows.fnExactOpenStartsSpec.post enc Try.prog Try.f7 false true false false) := by
  refine returnsInHanded_of_change (C := Try.checked) own started (by kernel_rfl) Try.func7
    (ChangeSpec.witness6 (enc := enc) (C := Try.checked) false ⟨#[], #[.agg #[.int .i64 0, .slice none 0 0, .slice none 0 0], .agg #[.slice none 0 0, .slice none 0 0], .int .i64 0, .agg #[.string ⟨#[]⟩, .int .i64 0, .int .i64 0, .int .i64 0, .int .i64 0, .bool false]], []⟩ 8 (by kernel_rfl) (by kernel_rfl) (by kernel_rfl) (by kernel_rfl)) ?_
  intro W base args ds gs before hval0 hW hcnd _
  have hval : ∀ (j : Nat) t v, Try.f7.params[j]? = some t → args[j]? = some v → Value.okWide Try.prog W .any base t v := hval0
  have hW' := hW
  obtain ⟨p, q, hA0, hV, hbef, hfz, hnd⟩ := hW
  have hA : DataW.TrodAll enc Try.prog W 0 (fun _ => true) true Try.f7.params.toList args.toList ds p := hA0
  rw [Try.params7] at hA hval
  obtain ⟨v0, vs0, d0, ds0, p0, q0, hargs, rfl, hp0, h0, r0⟩ := trodAll_cons hA
  obtain ⟨v1, vs1, d1, ds1, p1, q1, rfl, rfl, hp1, h1, r1⟩ := trodAll_cons r0
  obtain ⟨v2, vs2, d2, ds2, p2, q2, rfl, rfl, hp2, h2, r2⟩ := trodAll_cons r1
  obtain ⟨v3, vs3, d3, ds3, p3, q3, rfl, rfl, hp3, h3, r3⟩ := trodAll_cons r2
  obtain ⟨rfl, rfl, hpn⟩ := trodAll_nil r3
  obtain rfl : args = #[v0, v1, v2, v3] := by cases args; simp_all
  obtain ⟨rfl, rfl⟩ := trodVars_none hV
  obtain ⟨b0, c0, a0, rfl, g0, w0, x0, y0⟩ := openForecast (hval 0 56 v0 rfl rfl) h0
  obtain ⟨b1, c1, a1, rfl, g1, w1, x1⟩ := openChart (hval 1 60 v1 rfl rfl) h1
  obtain ⟨a2, rfl, -, -, w2⟩ := open_int Try.underlying3 (hval 2 3 v2 rfl rfl) h2
  obtain ⟨a3, rfl, w3⟩ := openShip (hval 3 61 v3 rfl rfl) h3
  refine (FnExactOpenStarts_walk W b0 c0 a0 g0 w0 x0 y0 b1 c1 a1 g1 w1 x1 a2 w2 a3 w3).mono fun e W' ⟨he, hg⟩ => ?_
  subst he
  exact ⟨_, rfl, post_law laidOut (by kernel_rfl) rfl Try.underlying4 rfl ⟨rfl, rfl, rfl⟩ hW' hg⟩
theorem proved : Rows.FnExactOpenStartsSaid :=
  OpenClaim.holds_of_wide 7 Try.f7 rfl rfl rfl rfl rfl rfl rfl ⟨rfl, rfl, rfl, rfl, rfl⟩ rfl rfl rfl rfl rfl (by kernel_rfl) Try.func7 (by kernel_rfl)
    (of_decide_eq_true (by kernel_rfl)) (by unfold Func.isWrapper; first | (rw [if_pos (by decide +kernel)]; kernel_rfl) | (rw [if_neg (by decide +kernel)]; exact ⟨rfl, rfl⟩))
    (fun os started H enc _ => lifted os started H enc)
end fnExactOpenStarts
end Go.Proofs.Ytpbcbdjjpkenjaa
