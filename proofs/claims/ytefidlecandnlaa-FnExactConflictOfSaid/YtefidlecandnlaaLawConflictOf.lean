/- The law FnExactConflictOf: for every input it returns true and leaves its arguments as they were. No condition. -/
import Derived.Test.YtefidlecandnlaaConf3
import Derived.Test.YtefidlecandnlaaLaw2
namespace Go.Proofs.Ytefidlecandnlaa
open Go.RowKit Go.WideShapes Go.ChangeShapes Go.ChangeAt Go.Joins Go.Deep
set_option linter.unusedVariables false
set_option maxRecDepth 100000 in
set_option maxHeartbeats 4000000 in
theorem FnExactConflictOf_walk (w : World) (vc1 vc2 : Value) (c : ChartD) (rc : RdChart w w.heap.size vc1 vc2 c) (hokc : ∀ x ∈ c.points, x.name.size ≤ maxLen) (hoksc : ∀ x ∈ c.segs, x.ok) (t0 : Int) (hwt0 : (Lit.int .i64 t0).wf = true) (t1 : Bool) (x : PassageD) (hokx : x.ok) (y : PassageD) (hoky : y.ok) :
    Calls Try.prog 6 #[.agg #[vc1, vc2], .agg #[.int .i64 t0, .bool t1], x.val, y.val] w fun e w' => e = .returned (.bool true) ∧ Below w.heap.size w w' := by
  obtain ⟨Ac, cc, Bc, dc, rfl, rfl⟩ : ∃ Az cz Bz dz, vc1 = .slice Az c.points.length cz ∧ vc2 = .slice Bz c.segs.length dz := by obtain ⟨⟨Az, cz, h, _⟩, ⟨Bz, dz, h2, _⟩⟩ := rc; exact ⟨Az, cz, Bz, dz, h, h2⟩
  go_enter Try.func6, Try.ntmps6
  go_wp2_with fail
  generalize hW0 : ((((w.alloc (.cells #[.slice Ac c.points.length cc, .slice Bc c.segs.length dc] 25)).alloc (.cells #[.int .i64 t0, .bool t1] 43)).alloc (.cells #[.int .i64 x.ship, .int .i64 x.segment, .bool x.toward, .int .i64 x.start, .int .i64 x.fin] 45)).alloc (.cells #[.int .i64 y.ship, .int .i64 y.segment, .bool y.toward, .int .i64 y.start, .int .i64 y.fin] 45)) = W0
  have hB0 : Below w.heap.size w W0 := by rw [← hW0]; exact (by repeat (first | exact Below.refl _ _ | assumption | refine Below.setCell ?_ (by first | omega | (simp <;> omega)) _ | refine Below.alloc ?_ (by first | omega | (simp <;> omega)) _ | refine below_drewN ?_ _ | refine Below.drew ?_ | refine Below.trans ?_ (Below.mono (by assumption) (by first | omega | (simp <;> omega)))))
  have hl0 : w.heap.size < W0.heap.size := by rw [← hW0]; simp <;> omega
  have hx0_0 : W0.cell? ⟨w.heap.size, 0, none⟩ = some (.slice Ac c.points.length cc) := by rw [← hW0]; simp [go_sem]
  have hx0_1 : W0.cell? ⟨w.heap.size, 1, none⟩ = some (.slice Bc c.segs.length dc) := by rw [← hW0]; simp [go_sem]
  have hl1 : w.heap.size + 1 < W0.heap.size := by rw [← hW0]; simp <;> omega
  have hx1_0 : W0.cell? ⟨w.heap.size + 1, 0, none⟩ = some (.int .i64 t0) := by rw [← hW0]; simp [go_sem]
  have hx1_1 : W0.cell? ⟨w.heap.size + 1, 1, none⟩ = some (.bool t1) := by rw [← hW0]; simp [go_sem]
  have hl2 : w.heap.size + 1 + 1 < W0.heap.size := by rw [← hW0]; simp <;> omega
  have hx2_0 : W0.cell? ⟨w.heap.size + 1 + 1, 0, none⟩ = some (.int .i64 x.ship) := by rw [← hW0]; simp [go_sem]
  have hx2_1 : W0.cell? ⟨w.heap.size + 1 + 1, 1, none⟩ = some (.int .i64 x.segment) := by rw [← hW0]; simp [go_sem]
  have hx2_2 : W0.cell? ⟨w.heap.size + 1 + 1, 2, none⟩ = some (.bool x.toward) := by rw [← hW0]; simp [go_sem]
  have hx2_3 : W0.cell? ⟨w.heap.size + 1 + 1, 3, none⟩ = some (.int .i64 x.start) := by rw [← hW0]; simp [go_sem]
  have hx2_4 : W0.cell? ⟨w.heap.size + 1 + 1, 4, none⟩ = some (.int .i64 x.fin) := by rw [← hW0]; simp [go_sem]
  have hl3 : w.heap.size + 1 + 1 + 1 < W0.heap.size := by rw [← hW0]; simp <;> omega
  have hx3_0 : W0.cell? ⟨w.heap.size + 1 + 1 + 1, 0, none⟩ = some (.int .i64 y.ship) := by rw [← hW0]; simp [go_sem]
  have hx3_1 : W0.cell? ⟨w.heap.size + 1 + 1 + 1, 1, none⟩ = some (.int .i64 y.segment) := by rw [← hW0]; simp [go_sem]
  have hx3_2 : W0.cell? ⟨w.heap.size + 1 + 1 + 1, 2, none⟩ = some (.bool y.toward) := by rw [← hW0]; simp [go_sem]
  have hx3_3 : W0.cell? ⟨w.heap.size + 1 + 1 + 1, 3, none⟩ = some (.int .i64 y.start) := by rw [← hW0]; simp [go_sem]
  have hx3_4 : W0.cell? ⟨w.heap.size + 1 + 1 + 1, 4, none⟩ = some (.int .i64 y.fin) := by rw [← hW0]; simp [go_sem]
  have s0 := hB0.size
  clear hW0
  replace rc := rc.keep hB0 (by omega)
  have hBB0 := Below.refl W0.heap.size W0
  obtain ⟨hc0, hf0⟩ := bcell hBB0
  go_wp2_with fail
  refine (szChart_any _ _ c 1048576 _ (rc.mono (by omega)) hokc (by omega) (by omega)).mono ?_; rintro e w1 ⟨z1, rfl, hz1, hm1, hb1⟩
  have s1 := hb1.size
  replace rc := rc.keep hb1 (by omega)
  have hB1 := bnext hB0 hb1 (Nat.le_refl _)
  have hBB0_1 := bnext hBB0 hb1 (Nat.le_refl _)
  clear hc0 hf0; obtain ⟨hc0, hf0⟩ := bcell hBB0_1
  have hm0_0 : w.heap.size < w1.heap.size := by omega
  have hm0_1 : w.heap.size + 1 < w1.heap.size := by omega
  have hm0_2 : w.heap.size + 1 + 1 < w1.heap.size := by omega
  have hm0_3 : w.heap.size + 1 + 1 + 1 < w1.heap.size := by omega
  by_cases hn1 : z1 < 0
  · clear hz1
    go_wp2_with fail
    go_ret
    exact ⟨rfl, hB1⟩
  obtain ⟨p1, q1⟩ := hz1 (by omega)
  have hpc : c.points.length ≤ 1048576 := by omega
  have hsc : c.segs.length ≤ 1048576 := by omega
  have hy0_0_0 : w1.cell? ⟨w.heap.size, 0, none⟩ = some (.slice Ac c.points.length cc) := by rw [hBB0_1.cell (p := ⟨w.heap.size, 0, none⟩) (by omega)]; exact hx0_0
  have hy0_0_1 : w1.cell? ⟨w.heap.size, 1, none⟩ = some (.slice Bc c.segs.length dc) := by rw [hBB0_1.cell (p := ⟨w.heap.size, 1, none⟩) (by omega)]; exact hx0_1
  have hy0_1_0 : w1.cell? ⟨w.heap.size + 1, 0, none⟩ = some (.int .i64 t0) := by rw [hBB0_1.cell (p := ⟨w.heap.size + 1, 0, none⟩) (by omega)]; exact hx1_0
  have hy0_1_1 : w1.cell? ⟨w.heap.size + 1, 1, none⟩ = some (.bool t1) := by rw [hBB0_1.cell (p := ⟨w.heap.size + 1, 1, none⟩) (by omega)]; exact hx1_1
  have hy0_2_0 : w1.cell? ⟨w.heap.size + 1 + 1, 0, none⟩ = some (.int .i64 x.ship) := by rw [hBB0_1.cell (p := ⟨w.heap.size + 1 + 1, 0, none⟩) (by omega)]; exact hx2_0
  have hy0_2_1 : w1.cell? ⟨w.heap.size + 1 + 1, 1, none⟩ = some (.int .i64 x.segment) := by rw [hBB0_1.cell (p := ⟨w.heap.size + 1 + 1, 1, none⟩) (by omega)]; exact hx2_1
  have hy0_2_2 : w1.cell? ⟨w.heap.size + 1 + 1, 2, none⟩ = some (.bool x.toward) := by rw [hBB0_1.cell (p := ⟨w.heap.size + 1 + 1, 2, none⟩) (by omega)]; exact hx2_2
  have hy0_2_3 : w1.cell? ⟨w.heap.size + 1 + 1, 3, none⟩ = some (.int .i64 x.start) := by rw [hBB0_1.cell (p := ⟨w.heap.size + 1 + 1, 3, none⟩) (by omega)]; exact hx2_3
  have hy0_2_4 : w1.cell? ⟨w.heap.size + 1 + 1, 4, none⟩ = some (.int .i64 x.fin) := by rw [hBB0_1.cell (p := ⟨w.heap.size + 1 + 1, 4, none⟩) (by omega)]; exact hx2_4
  have hy0_3_0 : w1.cell? ⟨w.heap.size + 1 + 1 + 1, 0, none⟩ = some (.int .i64 y.ship) := by rw [hBB0_1.cell (p := ⟨w.heap.size + 1 + 1 + 1, 0, none⟩) (by omega)]; exact hx3_0
  have hy0_3_1 : w1.cell? ⟨w.heap.size + 1 + 1 + 1, 1, none⟩ = some (.int .i64 y.segment) := by rw [hBB0_1.cell (p := ⟨w.heap.size + 1 + 1 + 1, 1, none⟩) (by omega)]; exact hx3_1
  have hy0_3_2 : w1.cell? ⟨w.heap.size + 1 + 1 + 1, 2, none⟩ = some (.bool y.toward) := by rw [hBB0_1.cell (p := ⟨w.heap.size + 1 + 1 + 1, 2, none⟩) (by omega)]; exact hx3_2
  have hy0_3_3 : w1.cell? ⟨w.heap.size + 1 + 1 + 1, 3, none⟩ = some (.int .i64 y.start) := by rw [hBB0_1.cell (p := ⟨w.heap.size + 1 + 1 + 1, 3, none⟩) (by omega)]; exact hx3_3
  have hy0_3_4 : w1.cell? ⟨w.heap.size + 1 + 1 + 1, 4, none⟩ = some (.int .i64 y.fin) := by rw [hBB0_1.cell (p := ⟨w.heap.size + 1 + 1 + 1, 4, none⟩) (by omega)]; exact hx3_4
  clear hc0 hf0
  have hlw0 : w.heap.size < w1.heap.size := by omega
  have hlw1 : w.heap.size + 1 < w1.heap.size := by omega
  have hlw2 : w.heap.size + 1 + 1 < w1.heap.size := by omega
  have hlw3 : w.heap.size + 1 + 1 + 1 < w1.heap.size := by omega
  go_wp2_with fail
  go_region_held3 (fun w' => w'.cell? ⟨w.heap.size, 0, none⟩ = some (.slice Ac c.points.length cc) ∧ w'.cell? ⟨w.heap.size, 1, none⟩ = some (.slice Bc c.segs.length dc) ∧ w'.cell? ⟨w.heap.size + 1, 0, none⟩ = some (.int .i64 t0) ∧ w'.cell? ⟨w.heap.size + 1, 1, none⟩ = some (.bool t1) ∧ w'.cell? ⟨w.heap.size + 1 + 1, 0, none⟩ = some (.int .i64 x.ship) ∧ w'.cell? ⟨w.heap.size + 1 + 1, 1, none⟩ = some (.int .i64 x.segment) ∧ w'.cell? ⟨w.heap.size + 1 + 1, 2, none⟩ = some (.bool x.toward) ∧ w'.cell? ⟨w.heap.size + 1 + 1, 3, none⟩ = some (.int .i64 x.start) ∧ w'.cell? ⟨w.heap.size + 1 + 1, 4, none⟩ = some (.int .i64 x.fin) ∧ w'.cell? ⟨w.heap.size + 1 + 1 + 1, 0, none⟩ = some (.int .i64 y.ship) ∧ w'.cell? ⟨w.heap.size + 1 + 1 + 1, 1, none⟩ = some (.int .i64 y.segment) ∧ w'.cell? ⟨w.heap.size + 1 + 1 + 1, 2, none⟩ = some (.bool y.toward) ∧ w'.cell? ⟨w.heap.size + 1 + 1 + 1, 3, none⟩ = some (.int .i64 y.start) ∧ w'.cell? ⟨w.heap.size + 1 + 1 + 1, 4, none⟩ = some (.int .i64 y.fin) ∧ w.heap.size < w'.heap.size ∧ w.heap.size + 1 < w'.heap.size ∧ w.heap.size + 1 + 1 < w'.heap.size ∧ w.heap.size + 1 + 1 + 1 < w'.heap.size ∧ Below w1.heap.size w1 w')
    (((repeat' apply And.intro) <;> first | assumption | omega | (rw [hc _ _ (by omega)]; assumption) | (simp [*]; done) | exact Below.drew (Below.refl _ _)))
    (first | (go_at_call 18; obtain ⟨g0_0_0, g0_0_1, g0_1_0, g0_1_1, g0_2_0, g0_2_1, g0_2_2, g0_2_3, g0_2_4, g0_3_0, g0_3_1, g0_3_2, g0_3_3, g0_3_4, hlz0, hlz1, hlz2, hlz3, hBz⟩ := (by with_reducible assumption : _ ∧ _); refine (toChart_any _ _ c _ ((rc.keep hBz (by omega)).mono (by have := hBz.size; omega)) hpc hsc).mono ?_; rintro e wz ⟨gz1, gz2, rfl, hrc, hb'⟩; obtain ⟨hc, hf⟩ := bcell hb'; have hzz := hb'.size; have hBz := bnext hBz hb' (Nat.le_refl _); (try replace hr0 := Rd.below hr0 hb'); (try replace hr0 := RdChart.below hr0 hb'); have hr0 := hrc) | (go_at_call 27; obtain ⟨g0_0_0, g0_0_1, g0_1_0, g0_1_1, g0_2_0, g0_2_1, g0_2_2, g0_2_3, g0_2_4, g0_3_0, g0_3_1, g0_3_2, g0_3_3, g0_3_4, hlz0, hlz1, hlz2, hlz3, hBz⟩ := (by with_reducible assumption : _ ∧ _); refine (toRegime_any _ _ _).mono ?_; rintro e wz ⟨rfl, hb'⟩; obtain ⟨hc, hf⟩ := bcell hb'; have hzz := hb'.size; have hBz := bnext hBz hb' (Nat.le_refl _); (try replace hr0 := Rd.below hr0 hb'); (try replace hr0 := RdChart.below hr0 hb')) | (go_at_call 28; obtain ⟨g0_0_0, g0_0_1, g0_1_0, g0_1_1, g0_2_0, g0_2_1, g0_2_2, g0_2_3, g0_2_4, g0_3_0, g0_3_1, g0_3_2, g0_3_3, g0_3_4, hlz0, hlz1, hlz2, hlz3, hBz⟩ := (by with_reducible assumption : _ ∧ _); refine (toPassage_any _ _ _ _ _ _).mono ?_; rintro e wz ⟨rfl, hb'⟩; obtain ⟨hc, hf⟩ := bcell hb'; have hzz := hb'.size; have hBz := bnext hBz hb' (Nat.le_refl _); (try replace hr0 := Rd.below hr0 hb'); (try replace hr0 := RdChart.below hr0 hb')) | (go_at_call 26; obtain ⟨g0_0_0, g0_0_1, g0_1_0, g0_1_1, g0_2_0, g0_2_1, g0_2_2, g0_2_3, g0_2_4, g0_3_0, g0_3_1, g0_3_2, g0_3_3, g0_3_4, hlz0, hlz1, hlz2, hlz3, hBz⟩ := (by with_reducible assumption : _ ∧ _); refine (spec_ConflictOf_any _ _ c t0 t1 x y _ hr0 hokx hoky hokc).mono ?_; rintro e wz ⟨rfl, hb'⟩; obtain ⟨hc, hf⟩ := bcell hb'; have hzz := hb'.size; have hBz := bnext hBz hb' (Nat.le_refl _); (try replace hr0 := Rd.below hr0 hb'); (try replace hr0 := RdChart.below hr0 hb')))
  rename World => w2
  have hb2 := hBz
  clear hc hf hBz
  have s2 := hb2.size
  replace rc := rc.keep hb2 (by omega)
  have hB2 := bnext hB1 hb2 (Nat.le_refl _)
  have hBB0_2 := bnext hBB0_1 hb2 (Nat.le_refl _)
  obtain ⟨hc0, hf0⟩ := bcell hBB0_2
  have hm0_0 : w.heap.size < w2.heap.size := by omega
  have hm0_1 : w.heap.size + 1 < w2.heap.size := by omega
  have hm0_2 : w.heap.size + 1 + 1 < w2.heap.size := by omega
  have hm0_3 : w.heap.size + 1 + 1 + 1 < w2.heap.size := by omega
  go_wp2_with fail
  refine (toChart_any _ _ c _ (rc.mono (by omega)) hpc hsc).mono ?_; rintro e w3 ⟨g1d, g2d, rfl, rd, hb3⟩
  have s3 := hb3.size
  replace rc := rc.keep hb3 (by omega)
  have hB3 := bnext hB2 hb3 (Nat.le_refl _)
  have hBB0_3 := bnext hBB0_2 hb3 (Nat.le_refl _)
  clear hc0 hf0; obtain ⟨hc0, hf0⟩ := bcell hBB0_3
  have hm0_0 : w.heap.size < w3.heap.size := by omega
  have hm0_1 : w.heap.size + 1 < w3.heap.size := by omega
  have hm0_2 : w.heap.size + 1 + 1 < w3.heap.size := by omega
  have hm0_3 : w.heap.size + 1 + 1 + 1 < w3.heap.size := by omega
  go_wp2_with fail
  generalize hW4 : w3.alloc (.cells #[.slice (some ⟨g1d, 0, none⟩) c.points.length c.points.length, .slice (some ⟨g2d, 0, none⟩) c.segs.length c.segs.length] 34) = w4
  have hb4 : Below w3.heap.size w3 w4 := by rw [← hW4]; exact (Below.refl _ _).alloc (Nat.le_refl _) _
  have hl1x : w3.heap.size < w4.heap.size := by rw [← hW4]; simp
  have hz1_0 : w4.cell? ⟨w3.heap.size, 0, none⟩ = some (.slice (some ⟨g1d, 0, none⟩) c.points.length c.points.length) := by rw [← hW4]; simp [go_sem]
  have hz1_1 : w4.cell? ⟨w3.heap.size, 1, none⟩ = some (.slice (some ⟨g2d, 0, none⟩) c.segs.length c.segs.length) := by rw [← hW4]; simp [go_sem]
  clear hW4
  have s4 := hb4.size
  replace rc := rc.keep hb4 (by omega)
  replace rd := rd.keep hb4 (by omega)
  have hB4 := bnext hB3 hb4 (Nat.le_refl _)
  have hBB0_4 := bnext hBB0_3 hb4 (Nat.le_refl _)
  clear hc0 hf0; obtain ⟨hc0, hf0⟩ := bcell hBB0_4
  have hm0_0 : w.heap.size < w4.heap.size := by omega
  have hm0_1 : w.heap.size + 1 < w4.heap.size := by omega
  have hm0_2 : w.heap.size + 1 + 1 < w4.heap.size := by omega
  have hm0_3 : w.heap.size + 1 + 1 + 1 < w4.heap.size := by omega
  have hBB1 := Below.refl w4.heap.size w4
  obtain ⟨hc1, hf1⟩ := bcell hBB1
  have hy0_0_0 : w4.cell? ⟨w.heap.size, 0, none⟩ = some (.slice Ac c.points.length cc) := by rw [hBB0_4.cell (p := ⟨w.heap.size, 0, none⟩) (by omega)]; exact hx0_0
  have hy0_0_1 : w4.cell? ⟨w.heap.size, 1, none⟩ = some (.slice Bc c.segs.length dc) := by rw [hBB0_4.cell (p := ⟨w.heap.size, 1, none⟩) (by omega)]; exact hx0_1
  have hy0_1_0 : w4.cell? ⟨w.heap.size + 1, 0, none⟩ = some (.int .i64 t0) := by rw [hBB0_4.cell (p := ⟨w.heap.size + 1, 0, none⟩) (by omega)]; exact hx1_0
  have hy0_1_1 : w4.cell? ⟨w.heap.size + 1, 1, none⟩ = some (.bool t1) := by rw [hBB0_4.cell (p := ⟨w.heap.size + 1, 1, none⟩) (by omega)]; exact hx1_1
  have hy0_2_0 : w4.cell? ⟨w.heap.size + 1 + 1, 0, none⟩ = some (.int .i64 x.ship) := by rw [hBB0_4.cell (p := ⟨w.heap.size + 1 + 1, 0, none⟩) (by omega)]; exact hx2_0
  have hy0_2_1 : w4.cell? ⟨w.heap.size + 1 + 1, 1, none⟩ = some (.int .i64 x.segment) := by rw [hBB0_4.cell (p := ⟨w.heap.size + 1 + 1, 1, none⟩) (by omega)]; exact hx2_1
  have hy0_2_2 : w4.cell? ⟨w.heap.size + 1 + 1, 2, none⟩ = some (.bool x.toward) := by rw [hBB0_4.cell (p := ⟨w.heap.size + 1 + 1, 2, none⟩) (by omega)]; exact hx2_2
  have hy0_2_3 : w4.cell? ⟨w.heap.size + 1 + 1, 3, none⟩ = some (.int .i64 x.start) := by rw [hBB0_4.cell (p := ⟨w.heap.size + 1 + 1, 3, none⟩) (by omega)]; exact hx2_3
  have hy0_2_4 : w4.cell? ⟨w.heap.size + 1 + 1, 4, none⟩ = some (.int .i64 x.fin) := by rw [hBB0_4.cell (p := ⟨w.heap.size + 1 + 1, 4, none⟩) (by omega)]; exact hx2_4
  have hy0_3_0 : w4.cell? ⟨w.heap.size + 1 + 1 + 1, 0, none⟩ = some (.int .i64 y.ship) := by rw [hBB0_4.cell (p := ⟨w.heap.size + 1 + 1 + 1, 0, none⟩) (by omega)]; exact hx3_0
  have hy0_3_1 : w4.cell? ⟨w.heap.size + 1 + 1 + 1, 1, none⟩ = some (.int .i64 y.segment) := by rw [hBB0_4.cell (p := ⟨w.heap.size + 1 + 1 + 1, 1, none⟩) (by omega)]; exact hx3_1
  have hy0_3_2 : w4.cell? ⟨w.heap.size + 1 + 1 + 1, 2, none⟩ = some (.bool y.toward) := by rw [hBB0_4.cell (p := ⟨w.heap.size + 1 + 1 + 1, 2, none⟩) (by omega)]; exact hx3_2
  have hy0_3_3 : w4.cell? ⟨w.heap.size + 1 + 1 + 1, 3, none⟩ = some (.int .i64 y.start) := by rw [hBB0_4.cell (p := ⟨w.heap.size + 1 + 1 + 1, 3, none⟩) (by omega)]; exact hx3_3
  have hy0_3_4 : w4.cell? ⟨w.heap.size + 1 + 1 + 1, 4, none⟩ = some (.int .i64 y.fin) := by rw [hBB0_4.cell (p := ⟨w.heap.size + 1 + 1 + 1, 4, none⟩) (by omega)]; exact hx3_4
  have hy1_0_0 : w4.cell? ⟨w3.heap.size, 0, none⟩ = some (.slice (some ⟨g1d, 0, none⟩) c.points.length c.points.length) := by rw [hBB1.cell (p := ⟨w3.heap.size, 0, none⟩) (by omega)]; exact hz1_0
  have hy1_0_1 : w4.cell? ⟨w3.heap.size, 1, none⟩ = some (.slice (some ⟨g2d, 0, none⟩) c.segs.length c.segs.length) := by rw [hBB1.cell (p := ⟨w3.heap.size, 1, none⟩) (by omega)]; exact hz1_1
  clear hc0 hf0 hc1 hf1
  have hlw0 : w.heap.size < w4.heap.size := by omega
  have hlw1 : w.heap.size + 1 < w4.heap.size := by omega
  have hlw2 : w.heap.size + 1 + 1 < w4.heap.size := by omega
  have hlw3 : w.heap.size + 1 + 1 + 1 < w4.heap.size := by omega
  have hlw4 : w3.heap.size < w4.heap.size := by omega
  go_wp2_with fail
  go_region_held3 (fun w' => w'.cell? ⟨w.heap.size, 0, none⟩ = some (.slice Ac c.points.length cc) ∧ w'.cell? ⟨w.heap.size, 1, none⟩ = some (.slice Bc c.segs.length dc) ∧ w'.cell? ⟨w.heap.size + 1, 0, none⟩ = some (.int .i64 t0) ∧ w'.cell? ⟨w.heap.size + 1, 1, none⟩ = some (.bool t1) ∧ w'.cell? ⟨w.heap.size + 1 + 1, 0, none⟩ = some (.int .i64 x.ship) ∧ w'.cell? ⟨w.heap.size + 1 + 1, 1, none⟩ = some (.int .i64 x.segment) ∧ w'.cell? ⟨w.heap.size + 1 + 1, 2, none⟩ = some (.bool x.toward) ∧ w'.cell? ⟨w.heap.size + 1 + 1, 3, none⟩ = some (.int .i64 x.start) ∧ w'.cell? ⟨w.heap.size + 1 + 1, 4, none⟩ = some (.int .i64 x.fin) ∧ w'.cell? ⟨w.heap.size + 1 + 1 + 1, 0, none⟩ = some (.int .i64 y.ship) ∧ w'.cell? ⟨w.heap.size + 1 + 1 + 1, 1, none⟩ = some (.int .i64 y.segment) ∧ w'.cell? ⟨w.heap.size + 1 + 1 + 1, 2, none⟩ = some (.bool y.toward) ∧ w'.cell? ⟨w.heap.size + 1 + 1 + 1, 3, none⟩ = some (.int .i64 y.start) ∧ w'.cell? ⟨w.heap.size + 1 + 1 + 1, 4, none⟩ = some (.int .i64 y.fin) ∧ w'.cell? ⟨w3.heap.size, 0, none⟩ = some (.slice (some ⟨g1d, 0, none⟩) c.points.length c.points.length) ∧ w'.cell? ⟨w3.heap.size, 1, none⟩ = some (.slice (some ⟨g2d, 0, none⟩) c.segs.length c.segs.length) ∧ w.heap.size < w'.heap.size ∧ w.heap.size + 1 < w'.heap.size ∧ w.heap.size + 1 + 1 < w'.heap.size ∧ w.heap.size + 1 + 1 + 1 < w'.heap.size ∧ w3.heap.size < w'.heap.size ∧ Below w4.heap.size w4 w')
    (((repeat' apply And.intro) <;> first | assumption | omega | (rw [hc _ _ (by omega)]; assumption) | (simp [*]; done) | exact Below.drew (Below.refl _ _)))
    (first | (go_at_call 27; obtain ⟨g0_0_0, g0_0_1, g0_1_0, g0_1_1, g0_2_0, g0_2_1, g0_2_2, g0_2_3, g0_2_4, g0_3_0, g0_3_1, g0_3_2, g0_3_3, g0_3_4, g1_0_0, g1_0_1, hlz0, hlz1, hlz2, hlz3, hlz4, hBz⟩ := (by with_reducible assumption : _ ∧ _); refine (toRegime_any _ _ _).mono ?_; rintro e wz ⟨rfl, hb'⟩; obtain ⟨hc, hf⟩ := bcell hb'; have hzz := hb'.size; have hBz := bnext hBz hb' (Nat.le_refl _)) | (go_at_call 28; obtain ⟨g0_0_0, g0_0_1, g0_1_0, g0_1_1, g0_2_0, g0_2_1, g0_2_2, g0_2_3, g0_2_4, g0_3_0, g0_3_1, g0_3_2, g0_3_3, g0_3_4, g1_0_0, g1_0_1, hlz0, hlz1, hlz2, hlz3, hlz4, hBz⟩ := (by with_reducible assumption : _ ∧ _); refine (toPassage_any _ _ _ _ _ _).mono ?_; rintro e wz ⟨rfl, hb'⟩; obtain ⟨hc, hf⟩ := bcell hb'; have hzz := hb'.size; have hBz := bnext hBz hb' (Nat.le_refl _)) | (go_at_call 29; obtain ⟨g0_0_0, g0_0_1, g0_1_0, g0_1_1, g0_2_0, g0_2_1, g0_2_2, g0_2_3, g0_2_4, g0_3_0, g0_3_1, g0_3_2, g0_3_3, g0_3_4, g1_0_0, g1_0_1, hlz0, hlz1, hlz2, hlz3, hlz4, hBz⟩ := (by with_reducible assumption : _ ∧ _); refine (impl_ConflictOf_any _ _ c t0 t1 x y _ ((rd.keep hBz (by omega)).mono (by have := hBz.size; omega)) hokx hoky hokc).mono ?_; rintro e wz ⟨rfl, hb'⟩; obtain ⟨hc, hf⟩ := bcell hb'; have hzz := hb'.size; have hBz := bnext hBz hb' (Nat.le_refl _)))
  rename World => w5
  have hb5 := hBz
  clear hc hf hBz
  have s5 := hb5.size
  replace rc := rc.keep hb5 (by omega)
  replace rd := rd.keep hb5 (by omega)
  have hB5 := bnext hB4 hb5 (Nat.le_refl _)
  have hBB0_5 := bnext hBB0_4 hb5 (Nat.le_refl _)
  obtain ⟨hc0, hf0⟩ := bcell hBB0_5
  have hm0_0 : w.heap.size < w5.heap.size := by omega
  have hm0_1 : w.heap.size + 1 < w5.heap.size := by omega
  have hm0_2 : w.heap.size + 1 + 1 < w5.heap.size := by omega
  have hm0_3 : w.heap.size + 1 + 1 + 1 < w5.heap.size := by omega
  have hBB1_5 := bnext hBB1 hb5 (Nat.le_refl _)
  obtain ⟨hc1, hf1⟩ := bcell hBB1_5
  have hm1_0 : w3.heap.size < w5.heap.size := by omega
  have hy0_0_0 : w5.cell? ⟨w.heap.size, 0, none⟩ = some (.slice Ac c.points.length cc) := by rw [hBB0_5.cell (p := ⟨w.heap.size, 0, none⟩) (by omega)]; exact hx0_0
  have hy0_0_1 : w5.cell? ⟨w.heap.size, 1, none⟩ = some (.slice Bc c.segs.length dc) := by rw [hBB0_5.cell (p := ⟨w.heap.size, 1, none⟩) (by omega)]; exact hx0_1
  have hy0_1_0 : w5.cell? ⟨w.heap.size + 1, 0, none⟩ = some (.int .i64 t0) := by rw [hBB0_5.cell (p := ⟨w.heap.size + 1, 0, none⟩) (by omega)]; exact hx1_0
  have hy0_1_1 : w5.cell? ⟨w.heap.size + 1, 1, none⟩ = some (.bool t1) := by rw [hBB0_5.cell (p := ⟨w.heap.size + 1, 1, none⟩) (by omega)]; exact hx1_1
  have hy0_2_0 : w5.cell? ⟨w.heap.size + 1 + 1, 0, none⟩ = some (.int .i64 x.ship) := by rw [hBB0_5.cell (p := ⟨w.heap.size + 1 + 1, 0, none⟩) (by omega)]; exact hx2_0
  have hy0_2_1 : w5.cell? ⟨w.heap.size + 1 + 1, 1, none⟩ = some (.int .i64 x.segment) := by rw [hBB0_5.cell (p := ⟨w.heap.size + 1 + 1, 1, none⟩) (by omega)]; exact hx2_1
  have hy0_2_2 : w5.cell? ⟨w.heap.size + 1 + 1, 2, none⟩ = some (.bool x.toward) := by rw [hBB0_5.cell (p := ⟨w.heap.size + 1 + 1, 2, none⟩) (by omega)]; exact hx2_2
  have hy0_2_3 : w5.cell? ⟨w.heap.size + 1 + 1, 3, none⟩ = some (.int .i64 x.start) := by rw [hBB0_5.cell (p := ⟨w.heap.size + 1 + 1, 3, none⟩) (by omega)]; exact hx2_3
  have hy0_2_4 : w5.cell? ⟨w.heap.size + 1 + 1, 4, none⟩ = some (.int .i64 x.fin) := by rw [hBB0_5.cell (p := ⟨w.heap.size + 1 + 1, 4, none⟩) (by omega)]; exact hx2_4
  have hy0_3_0 : w5.cell? ⟨w.heap.size + 1 + 1 + 1, 0, none⟩ = some (.int .i64 y.ship) := by rw [hBB0_5.cell (p := ⟨w.heap.size + 1 + 1 + 1, 0, none⟩) (by omega)]; exact hx3_0
  have hy0_3_1 : w5.cell? ⟨w.heap.size + 1 + 1 + 1, 1, none⟩ = some (.int .i64 y.segment) := by rw [hBB0_5.cell (p := ⟨w.heap.size + 1 + 1 + 1, 1, none⟩) (by omega)]; exact hx3_1
  have hy0_3_2 : w5.cell? ⟨w.heap.size + 1 + 1 + 1, 2, none⟩ = some (.bool y.toward) := by rw [hBB0_5.cell (p := ⟨w.heap.size + 1 + 1 + 1, 2, none⟩) (by omega)]; exact hx3_2
  have hy0_3_3 : w5.cell? ⟨w.heap.size + 1 + 1 + 1, 3, none⟩ = some (.int .i64 y.start) := by rw [hBB0_5.cell (p := ⟨w.heap.size + 1 + 1 + 1, 3, none⟩) (by omega)]; exact hx3_3
  have hy0_3_4 : w5.cell? ⟨w.heap.size + 1 + 1 + 1, 4, none⟩ = some (.int .i64 y.fin) := by rw [hBB0_5.cell (p := ⟨w.heap.size + 1 + 1 + 1, 4, none⟩) (by omega)]; exact hx3_4
  have hy1_0_0 : w5.cell? ⟨w3.heap.size, 0, none⟩ = some (.slice (some ⟨g1d, 0, none⟩) c.points.length c.points.length) := by rw [hBB1_5.cell (p := ⟨w3.heap.size, 0, none⟩) (by omega)]; exact hz1_0
  have hy1_0_1 : w5.cell? ⟨w3.heap.size, 1, none⟩ = some (.slice (some ⟨g2d, 0, none⟩) c.segs.length c.segs.length) := by rw [hBB1_5.cell (p := ⟨w3.heap.size, 1, none⟩) (by omega)]; exact hz1_1
  clear hc0 hf0 hc1 hf1
  have hlw0 : w.heap.size < w5.heap.size := by omega
  have hlw1 : w.heap.size + 1 < w5.heap.size := by omega
  have hlw2 : w.heap.size + 1 + 1 < w5.heap.size := by omega
  have hlw3 : w.heap.size + 1 + 1 + 1 < w5.heap.size := by omega
  have hlw4 : w3.heap.size < w5.heap.size := by omega
  go_wp2_with fail
  go_region_held3 (fun w' => w'.cell? ⟨w.heap.size, 0, none⟩ = some (.slice Ac c.points.length cc) ∧ w'.cell? ⟨w.heap.size, 1, none⟩ = some (.slice Bc c.segs.length dc) ∧ w'.cell? ⟨w.heap.size + 1, 0, none⟩ = some (.int .i64 t0) ∧ w'.cell? ⟨w.heap.size + 1, 1, none⟩ = some (.bool t1) ∧ w'.cell? ⟨w.heap.size + 1 + 1, 0, none⟩ = some (.int .i64 x.ship) ∧ w'.cell? ⟨w.heap.size + 1 + 1, 1, none⟩ = some (.int .i64 x.segment) ∧ w'.cell? ⟨w.heap.size + 1 + 1, 2, none⟩ = some (.bool x.toward) ∧ w'.cell? ⟨w.heap.size + 1 + 1, 3, none⟩ = some (.int .i64 x.start) ∧ w'.cell? ⟨w.heap.size + 1 + 1, 4, none⟩ = some (.int .i64 x.fin) ∧ w'.cell? ⟨w.heap.size + 1 + 1 + 1, 0, none⟩ = some (.int .i64 y.ship) ∧ w'.cell? ⟨w.heap.size + 1 + 1 + 1, 1, none⟩ = some (.int .i64 y.segment) ∧ w'.cell? ⟨w.heap.size + 1 + 1 + 1, 2, none⟩ = some (.bool y.toward) ∧ w'.cell? ⟨w.heap.size + 1 + 1 + 1, 3, none⟩ = some (.int .i64 y.start) ∧ w'.cell? ⟨w.heap.size + 1 + 1 + 1, 4, none⟩ = some (.int .i64 y.fin) ∧ w'.cell? ⟨w3.heap.size, 0, none⟩ = some (.slice (some ⟨g1d, 0, none⟩) c.points.length c.points.length) ∧ w'.cell? ⟨w3.heap.size, 1, none⟩ = some (.slice (some ⟨g2d, 0, none⟩) c.segs.length c.segs.length) ∧ w.heap.size < w'.heap.size ∧ w.heap.size + 1 < w'.heap.size ∧ w.heap.size + 1 + 1 < w'.heap.size ∧ w.heap.size + 1 + 1 + 1 < w'.heap.size ∧ w3.heap.size < w'.heap.size ∧ Below w5.heap.size w5 w')
    (((repeat' apply And.intro) <;> first | assumption | omega | (rw [hc _ _ (by omega)]; assumption) | (simp [*]; done) | exact Below.drew (Below.refl _ _)))
    (first | (go_at_call 18; obtain ⟨g0_0_0, g0_0_1, g0_1_0, g0_1_1, g0_2_0, g0_2_1, g0_2_2, g0_2_3, g0_2_4, g0_3_0, g0_3_1, g0_3_2, g0_3_3, g0_3_4, g1_0_0, g1_0_1, hlz0, hlz1, hlz2, hlz3, hlz4, hBz⟩ := (by with_reducible assumption : _ ∧ _); refine (toChart_any _ _ c _ ((rc.keep hBz (by omega)).mono (by have := hBz.size; omega)) hpc hsc).mono ?_; rintro e wz ⟨gz1, gz2, rfl, hrc, hb'⟩; obtain ⟨hc, hf⟩ := bcell hb'; have hzz := hb'.size; have hBz := bnext hBz hb' (Nat.le_refl _); (try replace hr0 := Rd.below hr0 hb'); (try replace hr0 := RdChart.below hr0 hb'); have hr0 := hrc) | (go_at_call 21; obtain ⟨g0_0_0, g0_0_1, g0_1_0, g0_1_1, g0_2_0, g0_2_1, g0_2_2, g0_2_3, g0_2_4, g0_3_0, g0_3_1, g0_3_2, g0_3_3, g0_3_4, g1_0_0, g1_0_1, hlz0, hlz1, hlz2, hlz3, hlz4, hBz⟩ := (by with_reducible assumption : _ ∧ _); refine (eqChart_any _ _ _ _ c c _ ((rd.keep hBz (by omega)).mono (by have := hBz.size; omega)) hr0).mono ?_; rintro e wz ⟨rfl, hb'⟩; obtain ⟨hc, hf⟩ := bcell hb'; have hzz := hb'.size; have hBz := bnext hBz hb' (Nat.le_refl _); (try replace hr0 := Rd.below hr0 hb'); (try replace hr0 := RdChart.below hr0 hb')))
  rename World => w6
  have hb6 := hBz
  clear hc hf hBz
  have s6 := hb6.size
  replace rc := rc.keep hb6 (by omega)
  replace rd := rd.keep hb6 (by omega)
  have hB6 := bnext hB5 hb6 (Nat.le_refl _)
  have hBB0_6 := bnext hBB0_5 hb6 (Nat.le_refl _)
  obtain ⟨hc0, hf0⟩ := bcell hBB0_6
  have hm0_0 : w.heap.size < w6.heap.size := by omega
  have hm0_1 : w.heap.size + 1 < w6.heap.size := by omega
  have hm0_2 : w.heap.size + 1 + 1 < w6.heap.size := by omega
  have hm0_3 : w.heap.size + 1 + 1 + 1 < w6.heap.size := by omega
  have hBB1_6 := bnext hBB1_5 hb6 (Nat.le_refl _)
  obtain ⟨hc1, hf1⟩ := bcell hBB1_6
  have hm1_0 : w3.heap.size < w6.heap.size := by omega
  try rw [decide_eq_true rfl]
  go_wp2_with fail
  go_ret
  exact ⟨rfl, hB6⟩
namespace fnExactConflictOf
set_option maxRecDepth 100000 in
theorem lifted (os : Os) (started : os.Started) (H : Type) (enc : TypeId × Value → H) :
    ReturnsInHanded {} Try.checked os 6 .any (Rows.fnExactConflictOfSpec.pre6 enc Try.prog Try.f6 Rows.fnExactConflictOfRow.domain false) (Rows.fnExactConflictOfSpec.post enc Try.prog Try.f6 false true false false) := by
  refine returnsInHanded_of_change (C := Try.checked) own started (by kernel_rfl) Try.func6
    (ChangeSpec.witness6 (enc := enc) (C := Try.checked) false ⟨#[], #[.agg #[.slice none 0 0, .slice none 0 0], .agg #[.int .i64 0, .bool false], .agg #[.int .i64 0, .int .i64 0, .bool false, .int .i64 0, .int .i64 0], .agg #[.int .i64 0, .int .i64 0, .bool false, .int .i64 0, .int .i64 0]], []⟩ 8 (by kernel_rfl) (by kernel_rfl) (by kernel_rfl) (by kernel_rfl)) ?_
  intro W base args ds gs before hval0 hW hcnd _
  have hval : ∀ (j : Nat) t v, Try.f6.params[j]? = some t → args[j]? = some v → Value.okWide Try.prog W .any base t v := hval0
  have hW' := hW
  obtain ⟨p, q, hA0, hV, hbef, hfz, hnd⟩ := hW
  have hA : DataW.TrodAll enc Try.prog W 0 (fun _ => true) true Try.f6.params.toList args.toList ds p := hA0
  rw [Try.params6] at hA hval
  obtain ⟨v0, vs0, d0, ds0, p0, q0, hargs, rfl, hp0, h0, r0⟩ := trodAll_cons hA
  obtain ⟨v1, vs1, d1, ds1, p1, q1, rfl, rfl, hp1, h1, r1⟩ := trodAll_cons r0
  obtain ⟨v2, vs2, d2, ds2, p2, q2, rfl, rfl, hp2, h2, r2⟩ := trodAll_cons r1
  obtain ⟨v3, vs3, d3, ds3, p3, q3, rfl, rfl, hp3, h3, r3⟩ := trodAll_cons r2
  obtain ⟨rfl, rfl, hpn⟩ := trodAll_nil r3
  obtain rfl : args = #[v0, v1, v2, v3] := by cases args; simp_all
  obtain ⟨rfl, rfl⟩ := trodVars_none hV
  obtain ⟨b0, c0, a0, rfl, g0, w0, x0⟩ := openChart (hval 0 25 v0 rfl rfl) h0
  obtain ⟨cs1, rfl, hl1, hf1⟩ := open_struct Try.underlying43 (by kernel_rfl) (by kernel_rfl) (hval 1 43 v1 rfl rfl) h1
  obtain ⟨c1_0, c1_1, rfl⟩ := list2 hl1
  obtain ⟨u1_0, y1_0, m1_0, g1_0, hy1_0⟩ := hf1 0 _ rfl
  have g1_0 := Option.some.inj g1_0; subst g1_0
  obtain ⟨a1_0, e1_0, -, w1_0⟩ := DataW.trod_int Try.underlying3 hy1_0
  simp only [List.cons.injEq, and_true] at e1_0; subst e1_0
  obtain ⟨u1_1, y1_1, m1_1, g1_1, hy1_1⟩ := hf1 1 _ rfl
  have g1_1 := Option.some.inj g1_1; subst g1_1
  obtain ⟨a1_1, e1_1, -⟩ := DataW.trod_bool Try.underlying4 hy1_1
  simp only [List.cons.injEq, and_true] at e1_1; subst e1_1
  obtain ⟨a2, rfl, w2⟩ := openPassage (hval 2 45 v2 rfl rfl) h2
  obtain ⟨a3, rfl, w3⟩ := openPassage (hval 3 45 v3 rfl rfl) h3
  refine (FnExactConflictOf_walk W b0 c0 a0 g0 w0 x0 a1_0 w1_0 a1_1 a2 w2 a3 w3).mono fun e W' ⟨he, hg⟩ => ?_
  subst he
  exact ⟨_, rfl, post_law laidOut (by kernel_rfl) rfl Try.underlying4 rfl ⟨rfl, rfl, rfl⟩ hW' hg⟩
theorem proved : Rows.FnExactConflictOfSaid :=
  OpenClaim.holds_of_wide 6 Try.f6 rfl rfl rfl rfl rfl rfl rfl ⟨rfl, rfl, rfl, rfl, rfl⟩ rfl rfl rfl rfl rfl (by kernel_rfl) Try.func6 (by kernel_rfl)
    (of_decide_eq_true (by kernel_rfl)) (by unfold Func.isWrapper; first | (rw [if_pos (by decide +kernel)]; kernel_rfl) | (rw [if_neg (by decide +kernel)]; exact ⟨rfl, rfl⟩))
    (fun os started H enc _ => lifted os started H enc)
end fnExactConflictOf
end Go.Proofs.Ytefidlecandnlaa
