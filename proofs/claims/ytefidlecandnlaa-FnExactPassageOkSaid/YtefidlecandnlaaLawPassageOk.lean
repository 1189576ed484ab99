/- The law FnExactPassageOk: for every input it returns true and leaves its arguments as they were. No condition. -/
import Derived.Test.YtefidlecandnlaaPass
import Derived.Test.YtefidlecandnlaaLaw2
namespace Go.Proofs.Ytefidlecandnlaa
open Go.RowKit Go.WideShapes Go.ChangeShapes Go.ChangeAt Go.Joins Go.Deep
set_option linter.unusedVariables false
set_option maxRecDepth 100000 in
set_option maxHeartbeats 4000000 in
theorem FnExactPassageOk_walk (w : World) (vc1 vc2 : Value) (c : ChartD) (rc : RdChart w w.heap.size vc1 vc2 c) (hokc : ∀ x ∈ c.points, x.name.size ≤ maxLen) (hoksc : ∀ x ∈ c.segs, x.ok) (vf : Value) (f : List ShipD) (rf : RdShip w vf f) (hokf : ∀ x ∈ f, x.ok) (p : PassageD) (hokp : p.ok) :
    Calls Try.prog 12 #[.agg #[vc1, vc2], vf, p.val] w fun e w' => e = .returned (.bool true) ∧ Below w.heap.size w w' := by
  obtain ⟨Ac, cc, Bc, dc, rfl, rfl⟩ : ∃ Az cz Bz dz, vc1 = .slice Az c.points.length cz ∧ vc2 = .slice Bz c.segs.length dz := by obtain ⟨⟨Az, cz, h, _⟩, ⟨Bz, dz, h2, _⟩⟩ := rc; exact ⟨Az, cz, Bz, dz, h, h2⟩
  go_enter Try.func12, Try.ntmps12
  go_wp2_with fail
  generalize hW0 : ((w.alloc (.cells #[.slice Ac c.points.length cc, .slice Bc c.segs.length dc] 25)).alloc (.cells #[.int .i64 p.ship, .int .i64 p.segment, .bool p.toward, .int .i64 p.start, .int .i64 p.fin] 45)) = W0
  have hB0 : Below w.heap.size w W0 := by rw [← hW0]; exact (by repeat (first | exact Below.refl _ _ | assumption | refine Below.setCell ?_ (by first | omega | (simp <;> omega)) _ | refine Below.alloc ?_ (by first | omega | (simp <;> omega)) _ | refine below_drewN ?_ _ | refine Below.drew ?_ | refine Below.trans ?_ (Below.mono (by assumption) (by first | omega | (simp <;> omega)))))
  have hl0 : w.heap.size < W0.heap.size := by rw [← hW0]; simp <;> omega
  have hx0_0 : W0.cell? ⟨w.heap.size, 0, none⟩ = some (.slice Ac c.points.length cc) := by rw [← hW0]; simp [go_sem]
  have hx0_1 : W0.cell? ⟨w.heap.size, 1, none⟩ = some (.slice Bc c.segs.length dc) := by rw [← hW0]; simp [go_sem]
  have hl1 : w.heap.size + 1 < W0.heap.size := by rw [← hW0]; simp <;> omega
  have hx1_0 : W0.cell? ⟨w.heap.size + 1, 0, none⟩ = some (.int .i64 p.ship) := by rw [← hW0]; simp [go_sem]
  have hx1_1 : W0.cell? ⟨w.heap.size + 1, 1, none⟩ = some (.int .i64 p.segment) := by rw [← hW0]; simp [go_sem]
  have hx1_2 : W0.cell? ⟨w.heap.size + 1, 2, none⟩ = some (.bool p.toward) := by rw [← hW0]; simp [go_sem]
  have hx1_3 : W0.cell? ⟨w.heap.size + 1, 3, none⟩ = some (.int .i64 p.start) := by rw [← hW0]; simp [go_sem]
  have hx1_4 : W0.cell? ⟨w.heap.size + 1, 4, none⟩ = some (.int .i64 p.fin) := by rw [← hW0]; simp [go_sem]
  have s0 := hB0.size
  clear hW0
  replace rc := rc.keep hB0 (by omega)
  replace rf := rf.keep hB0 (by omega)
  have hBB0 := Below.refl W0.heap.size W0
  obtain ⟨hc0, hf0⟩ := bcell hBB0
  go_wp2_with fail
  refine (szChart_any _ _ c 1048576 _ (rc.mono (by omega)) hokc (by omega) (by omega)).mono ?_; rintro e w1 ⟨z1, rfl, hz1, hm1, hb1⟩
  have s1 := hb1.size
  replace rc := rc.keep hb1 (by omega)
  replace rf := rf.keep hb1 (by omega)
  have hB1 := bnext hB0 hb1 (Nat.le_refl _)
  have hBB0_1 := bnext hBB0 hb1 (Nat.le_refl _)
  clear hc0 hf0; obtain ⟨hc0, hf0⟩ := bcell hBB0_1
  have hm0_0 : w.heap.size < w1.heap.size := by omega
  have hm0_1 : w.heap.size + 1 < w1.heap.size := by omega
  by_cases hn1 : z1 < 0
  · clear hz1
    go_wp2_with fail
    go_ret
    exact ⟨rfl, hB1⟩
  obtain ⟨p1, q1⟩ := hz1 (by omega)
  have hpc : c.points.length ≤ 1048576 := by omega
  have hsc : c.segs.length ≤ 1048576 := by omega
  go_wp2_with fail
  refine (szShipS_any _ _ z1 _ (rf.mono (by omega)) (fun x hx => ShipD.ok_size (hokf x hx)) (by omega) (by omega)).mono ?_; rintro e w2 ⟨z2, rfl, hz2, hm2, hb2⟩
  have s2 := hb2.size
  replace rc := rc.keep hb2 (by omega)
  replace rf := rf.keep hb2 (by omega)
  have hB2 := bnext hB1 hb2 (Nat.le_refl _)
  have hBB0_2 := bnext hBB0_1 hb2 (Nat.le_refl _)
  clear hc0 hf0; obtain ⟨hc0, hf0⟩ := bcell hBB0_2
  have hm0_0 : w.heap.size < w2.heap.size := by omega
  have hm0_1 : w.heap.size + 1 < w2.heap.size := by omega
  by_cases hn2 : z2 < 0
  · clear hz2
    go_wp2_with fail
    go_ret
    exact ⟨rfl, hB2⟩
  obtain ⟨p2, q2⟩ := hz2 (by omega)
  have hy0_0_0 : w2.cell? ⟨w.heap.size, 0, none⟩ = some (.slice Ac c.points.length cc) := by rw [hBB0_2.cell (p := ⟨w.heap.size, 0, none⟩) (by omega)]; exact hx0_0
  have hy0_0_1 : w2.cell? ⟨w.heap.size, 1, none⟩ = some (.slice Bc c.segs.length dc) := by rw [hBB0_2.cell (p := ⟨w.heap.size, 1, none⟩) (by omega)]; exact hx0_1
  have hy0_1_0 : w2.cell? ⟨w.heap.size + 1, 0, none⟩ = some (.int .i64 p.ship) := by rw [hBB0_2.cell (p := ⟨w.heap.size + 1, 0, none⟩) (by omega)]; exact hx1_0
  have hy0_1_1 : w2.cell? ⟨w.heap.size + 1, 1, none⟩ = some (.int .i64 p.segment) := by rw [hBB0_2.cell (p := ⟨w.heap.size + 1, 1, none⟩) (by omega)]; exact hx1_1
  have hy0_1_2 : w2.cell? ⟨w.heap.size + 1, 2, none⟩ = some (.bool p.toward) := by rw [hBB0_2.cell (p := ⟨w.heap.size + 1, 2, none⟩) (by omega)]; exact hx1_2
  have hy0_1_3 : w2.cell? ⟨w.heap.size + 1, 3, none⟩ = some (.int .i64 p.start) := by rw [hBB0_2.cell (p := ⟨w.heap.size + 1, 3, none⟩) (by omega)]; exact hx1_3
  have hy0_1_4 : w2.cell? ⟨w.heap.size + 1, 4, none⟩ = some (.int .i64 p.fin) := by rw [hBB0_2.cell (p := ⟨w.heap.size + 1, 4, none⟩) (by omega)]; exact hx1_4
  clear hc0 hf0
  have hlw0 : w.heap.size < w2.heap.size := by omega
  have hlw1 : w.heap.size + 1 < w2.heap.size := by omega
  have urc := rc.mono (show _ ≤ w2.heap.size by omega)
  have urf := rf.mono (show _ ≤ w2.heap.size by omega)
  have hle_f : f.length ≤ 1048576 := by omega
  go_wp2_with fail
  go_region_held3 (fun w' => w'.cell? ⟨w.heap.size, 0, none⟩ = some (.slice Ac c.points.length cc) ∧ w'.cell? ⟨w.heap.size, 1, none⟩ = some (.slice Bc c.segs.length dc) ∧ w'.cell? ⟨w.heap.size + 1, 0, none⟩ = some (.int .i64 p.ship) ∧ w'.cell? ⟨w.heap.size + 1, 1, none⟩ = some (.int .i64 p.segment) ∧ w'.cell? ⟨w.heap.size + 1, 2, none⟩ = some (.bool p.toward) ∧ w'.cell? ⟨w.heap.size + 1, 3, none⟩ = some (.int .i64 p.start) ∧ w'.cell? ⟨w.heap.size + 1, 4, none⟩ = some (.int .i64 p.fin) ∧ w.heap.size < w'.heap.size ∧ w.heap.size + 1 < w'.heap.size ∧ Below w2.heap.size w2 w')
    (first | exact ⟨hy0_0_0, hy0_0_1, hy0_1_0, hy0_1_1, hy0_1_2, hy0_1_3, hy0_1_4, hlw0, hlw1, Below.drew (Below.refl _ _)⟩ | exact ⟨cellKeepL hb' g0_0_0 hlz0, cellKeepL hb' g0_0_1 hlz0, cellKeepL hb' g0_1_0 hlz1, cellKeepL hb' g0_1_1 hlz1, cellKeepL hb' g0_1_2 hlz1, cellKeepL hb' g0_1_3 hlz1, cellKeepL hb' g0_1_4 hlz1, Nat.lt_of_lt_of_le hlz0 hb'.size, Nat.lt_of_lt_of_le hlz1 hb'.size, hBz⟩ | ((repeat' apply And.intro) <;> first | assumption | omega | (rw [hc _ _ (by omega)]; assumption) | (simp [*]; done) | exact Below.drew (Below.refl _ _)))
    (first | (go_at_call 18; obtain ⟨g0_0_0, g0_0_1, g0_1_0, g0_1_1, g0_1_2, g0_1_3, g0_1_4, hlz0, hlz1, hBz⟩ := (by with_reducible assumption : _ ∧ _); with_reducible refine (toChart_any _ _ c _ ((urc.keep hBz (Nat.le_refl _)).mono hBz.size) hpc hsc).mono ?_; rintro e wz ⟨gz1, gz2, rfl, hrc, hb'⟩; obtain ⟨hc, hf⟩ := bcell hb'; have hBz := bnext hBz hb' (Nat.le_refl _); (try replace hr0 := Rd.below hr0 hb'); (try replace hr0 := RdChart.below hr0 hb'); (try replace hr1 := Rd.below hr1 hb'); (try replace hr1 := RdChart.below hr1 hb'); have hr0 := hrc) | (go_at_call 47; obtain ⟨g0_0_0, g0_0_1, g0_1_0, g0_1_1, g0_1_2, g0_1_3, g0_1_4, hlz0, hlz1, hBz⟩ := (by with_reducible assumption : _ ∧ _); with_reducible refine (toShipS_at _ f _ ((urf.keep hBz (Nat.le_refl _)).mono hBz.size) hle_f).mono ?_; rintro e wz ⟨rfl, hoShip, hb'⟩; obtain ⟨hc, hf⟩ := bcell hb'; have hBz := bnext hBz hb' (Nat.le_refl _); (try replace hr0 := Rd.below hr0 hb'); (try replace hr0 := RdChart.below hr0 hb'); (try replace hr1 := Rd.below hr1 hb'); (try replace hr1 := RdChart.below hr1 hb'); have hr1 := Own.rd ShipD.enc_len hoShip) | (go_at_call 28; obtain ⟨g0_0_0, g0_0_1, g0_1_0, g0_1_1, g0_1_2, g0_1_3, g0_1_4, hlz0, hlz1, hBz⟩ := (by with_reducible assumption : _ ∧ _); with_reducible refine (toPassage_any _ _ _ _ _ _).mono ?_; rintro e wz ⟨rfl, hb'⟩; obtain ⟨hc, hf⟩ := bcell hb'; have hBz := bnext hBz hb' (Nat.le_refl _); (try replace hr0 := Rd.below hr0 hb'); (try replace hr0 := RdChart.below hr0 hb'); (try replace hr1 := Rd.below hr1 hb'); (try replace hr1 := RdChart.below hr1 hb')) | (go_at_call 46; obtain ⟨g0_0_0, g0_0_1, g0_1_0, g0_1_1, g0_1_2, g0_1_3, g0_1_4, hlz0, hlz1, hBz⟩ := (by with_reducible assumption : _ ∧ _); with_reducible refine (spec_PassageOk_any _ _ _ c f p _ hr0 hr1 hokc hokf).mono ?_; rintro e wz ⟨rfl, hb'⟩; obtain ⟨hc, hf⟩ := bcell hb'; have hBz := bnext hBz hb' (Nat.le_refl _); (try replace hr0 := Rd.below hr0 hb'); (try replace hr0 := RdChart.below hr0 hb'); (try replace hr1 := Rd.below hr1 hb'); (try replace hr1 := RdChart.below hr1 hb')))
  rename World => w3
  have hb3 := hBz
  clear hc hf hBz urc urf hle_f
  have s3 := hb3.size
  replace rc := rc.keep hb3 (by omega)
  replace rf := rf.keep hb3 (by omega)
  have hB3 := bnext hB2 hb3 (Nat.le_refl _)
  have hBB0_3 := bnext hBB0_2 hb3 (Nat.le_refl _)
  obtain ⟨hc0, hf0⟩ := bcell hBB0_3
  have hm0_0 : w.heap.size < w3.heap.size := by omega
  have hm0_1 : w.heap.size + 1 < w3.heap.size := by omega
  go_wp2_with fail
  refine (toChart_any _ _ c _ (rc.mono (by omega)) hpc hsc).mono ?_; rintro e w4 ⟨g1d, g2d, rfl, rd, hb4⟩
  have s4 := hb4.size
  replace rc := rc.keep hb4 (by omega)
  replace rf := rf.keep hb4 (by omega)
  have hB4 := bnext hB3 hb4 (Nat.le_refl _)
  have hBB0_4 := bnext hBB0_3 hb4 (Nat.le_refl _)
  clear hc0 hf0; obtain ⟨hc0, hf0⟩ := bcell hBB0_4
  have hm0_0 : w.heap.size < w4.heap.size := by omega
  have hm0_1 : w.heap.size + 1 < w4.heap.size := by omega
  go_wp2_with fail
  generalize hW5 : w4.alloc (.cells #[.slice (some ⟨g1d, 0, none⟩) c.points.length c.points.length, .slice (some ⟨g2d, 0, none⟩) c.segs.length c.segs.length] 34) = w5
  have hb5 : Below w4.heap.size w4 w5 := by rw [← hW5]; exact (Below.refl _ _).alloc (Nat.le_refl _) _
  have hl1x : w4.heap.size < w5.heap.size := by rw [← hW5]; simp
  have hz1_0 : w5.cell? ⟨w4.heap.size, 0, none⟩ = some (.slice (some ⟨g1d, 0, none⟩) c.points.length c.points.length) := by rw [← hW5]; simp [go_sem]
  have hz1_1 : w5.cell? ⟨w4.heap.size, 1, none⟩ = some (.slice (some ⟨g2d, 0, none⟩) c.segs.length c.segs.length) := by rw [← hW5]; simp [go_sem]
  clear hW5
  have s5 := hb5.size
  replace rc := rc.keep hb5 (by omega)
  replace rf := rf.keep hb5 (by omega)
  replace rd := rd.keep hb5 (by omega)
  have hB5 := bnext hB4 hb5 (Nat.le_refl _)
  have hBB0_5 := bnext hBB0_4 hb5 (Nat.le_refl _)
  clear hc0 hf0; obtain ⟨hc0, hf0⟩ := bcell hBB0_5
  have hm0_0 : w.heap.size < w5.heap.size := by omega
  have hm0_1 : w.heap.size + 1 < w5.heap.size := by omega
  have hBB1 := Below.refl w5.heap.size w5
  obtain ⟨hc1, hf1⟩ := bcell hBB1
  go_wp2_with fail
  refine (toShipS_any _ _ _ (rf.mono (by omega)) (by omega)).mono ?_; rintro e w6 ⟨v6, rfl, ho6, hb6⟩
  have s6 := hb6.size
  replace rc := rc.keep hb6 (by omega)
  replace rf := rf.keep hb6 (by omega)
  replace rd := rd.keep hb6 (by omega)
  have hB6 := bnext hB5 hb6 (Nat.le_refl _)
  have hBB0_6 := bnext hBB0_5 hb6 (Nat.le_refl _)
  clear hc0 hf0; obtain ⟨hc0, hf0⟩ := bcell hBB0_6
  have hm0_0 : w.heap.size < w6.heap.size := by omega
  have hm0_1 : w.heap.size + 1 < w6.heap.size := by omega
  have hBB1_6 := bnext hBB1 hb6 (Nat.le_refl _)
  clear hc1 hf1; obtain ⟨hc1, hf1⟩ := bcell hBB1_6
  have hm1_0 : w4.heap.size < w6.heap.size := by omega
  have oe := ho6.b
  have re := oe.rdB ShipD.enc_len
  clear ho6
  clear oe
  have hy0_0_0 : w6.cell? ⟨w.heap.size, 0, none⟩ = some (.slice Ac c.points.length cc) := by rw [hBB0_6.cell (p := ⟨w.heap.size, 0, none⟩) (by omega)]; exact hx0_0
  have hy0_0_1 : w6.cell? ⟨w.heap.size, 1, none⟩ = some (.slice Bc c.segs.length dc) := by rw [hBB0_6.cell (p := ⟨w.heap.size, 1, none⟩) (by omega)]; exact hx0_1
  have hy0_1_0 : w6.cell? ⟨w.heap.size + 1, 0, none⟩ = some (.int .i64 p.ship) := by rw [hBB0_6.cell (p := ⟨w.heap.size + 1, 0, none⟩) (by omega)]; exact hx1_0
  have hy0_1_1 : w6.cell? ⟨w.heap.size + 1, 1, none⟩ = some (.int .i64 p.segment) := by rw [hBB0_6.cell (p := ⟨w.heap.size + 1, 1, none⟩) (by omega)]; exact hx1_1
  have hy0_1_2 : w6.cell? ⟨w.heap.size + 1, 2, none⟩ = some (.bool p.toward) := by rw [hBB0_6.cell (p := ⟨w.heap.size + 1, 2, none⟩) (by omega)]; exact hx1_2
  have hy0_1_3 : w6.cell? ⟨w.heap.size + 1, 3, none⟩ = some (.int .i64 p.start) := by rw [hBB0_6.cell (p := ⟨w.heap.size + 1, 3, none⟩) (by omega)]; exact hx1_3
  have hy0_1_4 : w6.cell? ⟨w.heap.size + 1, 4, none⟩ = some (.int .i64 p.fin) := by rw [hBB0_6.cell (p := ⟨w.heap.size + 1, 4, none⟩) (by omega)]; exact hx1_4
  have hy1_0_0 : w6.cell? ⟨w4.heap.size, 0, none⟩ = some (.slice (some ⟨g1d, 0, none⟩) c.points.length c.points.length) := by rw [hBB1_6.cell (p := ⟨w4.heap.size, 0, none⟩) (by omega)]; exact hz1_0
  have hy1_0_1 : w6.cell? ⟨w4.heap.size, 1, none⟩ = some (.slice (some ⟨g2d, 0, none⟩) c.segs.length c.segs.length) := by rw [hBB1_6.cell (p := ⟨w4.heap.size, 1, none⟩) (by omega)]; exact hz1_1
  clear hc0 hf0 hc1 hf1
  have hlw0 : w.heap.size < w6.heap.size := by omega
  have hlw1 : w.heap.size + 1 < w6.heap.size := by omega
  have hlw2 : w4.heap.size < w6.heap.size := by omega
  have urd := rd.mono (show _ ≤ w6.heap.size by omega)
  have ure := re.mono (show _ ≤ w6.heap.size by omega)
  go_wp2_with fail
  go_region_held3 (fun w' => w'.cell? ⟨w.heap.size, 0, none⟩ = some (.slice Ac c.points.length cc) ∧ w'.cell? ⟨w.heap.size, 1, none⟩ = some (.slice Bc c.segs.length dc) ∧ w'.cell? ⟨w.heap.size + 1, 0, none⟩ = some (.int .i64 p.ship) ∧ w'.cell? ⟨w.heap.size + 1, 1, none⟩ = some (.int .i64 p.segment) ∧ w'.cell? ⟨w.heap.size + 1, 2, none⟩ = some (.bool p.toward) ∧ w'.cell? ⟨w.heap.size + 1, 3, none⟩ = some (.int .i64 p.start) ∧ w'.cell? ⟨w.heap.size + 1, 4, none⟩ = some (.int .i64 p.fin) ∧ w'.cell? ⟨w4.heap.size, 0, none⟩ = some (.slice (some ⟨g1d, 0, none⟩) c.points.length c.points.length) ∧ w'.cell? ⟨w4.heap.size, 1, none⟩ = some (.slice (some ⟨g2d, 0, none⟩) c.segs.length c.segs.length) ∧ w.heap.size < w'.heap.size ∧ w.heap.size + 1 < w'.heap.size ∧ w4.heap.size < w'.heap.size ∧ Below w6.heap.size w6 w')
    (first | exact ⟨hy0_0_0, hy0_0_1, hy0_1_0, hy0_1_1, hy0_1_2, hy0_1_3, hy0_1_4, hy1_0_0, hy1_0_1, hlw0, hlw1, hlw2, Below.drew (Below.refl _ _)⟩ | exact ⟨cellKeepL hb' g0_0_0 hlz0, cellKeepL hb' g0_0_1 hlz0, cellKeepL hb' g0_1_0 hlz1, cellKeepL hb' g0_1_1 hlz1, cellKeepL hb' g0_1_2 hlz1, cellKeepL hb' g0_1_3 hlz1, cellKeepL hb' g0_1_4 hlz1, cellKeepL hb' g1_0_0 hlz2, cellKeepL hb' g1_0_1 hlz2, Nat.lt_of_lt_of_le hlz0 hb'.size, Nat.lt_of_lt_of_le hlz1 hb'.size, Nat.lt_of_lt_of_le hlz2 hb'.size, hBz⟩ | ((repeat' apply And.intro) <;> first | assumption | omega | (rw [hc _ _ (by omega)]; assumption) | (simp [*]; done) | exact Below.drew (Below.refl _ _)))
    (first | (go_at_call 28; obtain ⟨g0_0_0, g0_0_1, g0_1_0, g0_1_1, g0_1_2, g0_1_3, g0_1_4, g1_0_0, g1_0_1, hlz0, hlz1, hlz2, hBz⟩ := (by with_reducible assumption : _ ∧ _); with_reducible refine (toPassage_any _ _ _ _ _ _).mono ?_; rintro e wz ⟨rfl, hb'⟩; obtain ⟨hc, hf⟩ := bcell hb'; have hBz := bnext hBz hb' (Nat.le_refl _)) | (go_at_call 48; obtain ⟨g0_0_0, g0_0_1, g0_1_0, g0_1_1, g0_1_2, g0_1_3, g0_1_4, g1_0_0, g1_0_1, hlz0, hlz1, hlz2, hBz⟩ := (by with_reducible assumption : _ ∧ _); with_reducible refine (impl_PassageOk_any _ _ _ c f p _ ((urd.keep hBz (Nat.le_refl _)).mono hBz.size) ((ure.keep hBz (Nat.le_refl _)).mono hBz.size) hokc hokf).mono ?_; rintro e wz ⟨rfl, hb'⟩; obtain ⟨hc, hf⟩ := bcell hb'; have hBz := bnext hBz hb' (Nat.le_refl _)))
  rename World => w7
  have hb7 := hBz
  clear hc hf hBz urd ure
  have s7 := hb7.size
  replace rc := rc.keep hb7 (by omega)
  replace rf := rf.keep hb7 (by omega)
  replace rd := rd.keep hb7 (by omega)
  replace re := re.keep hb7 (by omega)
  have hB7 := bnext hB6 hb7 (Nat.le_refl _)
  have hBB0_7 := bnext hBB0_6 hb7 (Nat.le_refl _)
  obtain ⟨hc0, hf0⟩ := bcell hBB0_7
  have hm0_0 : w.heap.size < w7.heap.size := by omega
  have hm0_1 : w.heap.size + 1 < w7.heap.size := by omega
  have hBB1_7 := bnext hBB1_6 hb7 (Nat.le_refl _)
  obtain ⟨hc1, hf1⟩ := bcell hBB1_7
  have hm1_0 : w4.heap.size < w7.heap.size := by omega
  have hy0_0_0 : w7.cell? ⟨w.heap.size, 0, none⟩ = some (.slice Ac c.points.length cc) := by rw [hBB0_7.cell (p := ⟨w.heap.size, 0, none⟩) (by omega)]; exact hx0_0
  have hy0_0_1 : w7.cell? ⟨w.heap.size, 1, none⟩ = some (.slice Bc c.segs.length dc) := by rw [hBB0_7.cell (p := ⟨w.heap.size, 1, none⟩) (by omega)]; exact hx0_1
  have hy0_1_0 : w7.cell? ⟨w.heap.size + 1, 0, none⟩ = some (.int .i64 p.ship) := by rw [hBB0_7.cell (p := ⟨w.heap.size + 1, 0, none⟩) (by omega)]; exact hx1_0
  have hy0_1_1 : w7.cell? ⟨w.heap.size + 1, 1, none⟩ = some (.int .i64 p.segment) := by rw [hBB0_7.cell (p := ⟨w.heap.size + 1, 1, none⟩) (by omega)]; exact hx1_1
  have hy0_1_2 : w7.cell? ⟨w.heap.size + 1, 2, none⟩ = some (.bool p.toward) := by rw [hBB0_7.cell (p := ⟨w.heap.size + 1, 2, none⟩) (by omega)]; exact hx1_2
  have hy0_1_3 : w7.cell? ⟨w.heap.size + 1, 3, none⟩ = some (.int .i64 p.start) := by rw [hBB0_7.cell (p := ⟨w.heap.size + 1, 3, none⟩) (by omega)]; exact hx1_3
  have hy0_1_4 : w7.cell? ⟨w.heap.size + 1, 4, none⟩ = some (.int .i64 p.fin) := by rw [hBB0_7.cell (p := ⟨w.heap.size + 1, 4, none⟩) (by omega)]; exact hx1_4
  have hy1_0_0 : w7.cell? ⟨w4.heap.size, 0, none⟩ = some (.slice (some ⟨g1d, 0, none⟩) c.points.length c.points.length) := by rw [hBB1_7.cell (p := ⟨w4.heap.size, 0, none⟩) (by omega)]; exact hz1_0
  have hy1_0_1 : w7.cell? ⟨w4.heap.size, 1, none⟩ = some (.slice (some ⟨g2d, 0, none⟩) c.segs.length c.segs.length) := by rw [hBB1_7.cell (p := ⟨w4.heap.size, 1, none⟩) (by omega)]; exact hz1_1
  clear hc0 hf0 hc1 hf1
  have hlw0 : w.heap.size < w7.heap.size := by omega
  have hlw1 : w.heap.size + 1 < w7.heap.size := by omega
  have hlw2 : w4.heap.size < w7.heap.size := by omega
  have urc := rc.mono (show _ ≤ w7.heap.size by omega)
  have urd := rd.mono (show _ ≤ w7.heap.size by omega)
  go_wp2_with fail
  go_region_held3 (fun w' => w'.cell? ⟨w.heap.size, 0, none⟩ = some (.slice Ac c.points.length cc) ∧ w'.cell? ⟨w.heap.size, 1, none⟩ = some (.slice Bc c.segs.length dc) ∧ w'.cell? ⟨w.heap.size + 1, 0, none⟩ = some (.int .i64 p.ship) ∧ w'.cell? ⟨w.heap.size + 1, 1, none⟩ = some (.int .i64 p.segment) ∧ w'.cell? ⟨w.heap.size + 1, 2, none⟩ = some (.bool p.toward) ∧ w'.cell? ⟨w.heap.size + 1, 3, none⟩ = some (.int .i64 p.start) ∧ w'.cell? ⟨w.heap.size + 1, 4, none⟩ = some (.int .i64 p.fin) ∧ w'.cell? ⟨w4.heap.size, 0, none⟩ = some (.slice (some ⟨g1d, 0, none⟩) c.points.length c.points.length) ∧ w'.cell? ⟨w4.heap.size, 1, none⟩ = some (.slice (some ⟨g2d, 0, none⟩) c.segs.length c.segs.length) ∧ w.heap.size < w'.heap.size ∧ w.heap.size + 1 < w'.heap.size ∧ w4.heap.size < w'.heap.size ∧ Below w7.heap.size w7 w')
    (first | exact ⟨hy0_0_0, hy0_0_1, hy0_1_0, hy0_1_1, hy0_1_2, hy0_1_3, hy0_1_4, hy1_0_0, hy1_0_1, hlw0, hlw1, hlw2, Below.drew (Below.refl _ _)⟩ | exact ⟨cellKeepL hb' g0_0_0 hlz0, cellKeepL hb' g0_0_1 hlz0, cellKeepL hb' g0_1_0 hlz1, cellKeepL hb' g0_1_1 hlz1, cellKeepL hb' g0_1_2 hlz1, cellKeepL hb' g0_1_3 hlz1, cellKeepL hb' g0_1_4 hlz1, cellKeepL hb' g1_0_0 hlz2, cellKeepL hb' g1_0_1 hlz2, Nat.lt_of_lt_of_le hlz0 hb'.size, Nat.lt_of_lt_of_le hlz1 hb'.size, Nat.lt_of_lt_of_le hlz2 hb'.size, hBz⟩ | ((repeat' apply And.intro) <;> first | assumption | omega | (rw [hc _ _ (by omega)]; assumption) | (simp [*]; done) | exact Below.drew (Below.refl _ _)))
    (first | (go_at_call 18; obtain ⟨g0_0_0, g0_0_1, g0_1_0, g0_1_1, g0_1_2, g0_1_3, g0_1_4, g1_0_0, g1_0_1, hlz0, hlz1, hlz2, hBz⟩ := (by with_reducible assumption : _ ∧ _); with_reducible refine (toChart_any _ _ c _ ((urc.keep hBz (Nat.le_refl _)).mono hBz.size) hpc hsc).mono ?_; rintro e wz ⟨gz1, gz2, rfl, hrc, hb'⟩; obtain ⟨hc, hf⟩ := bcell hb'; have hBz := bnext hBz hb' (Nat.le_refl _); (try replace hr0 := Rd.below hr0 hb'); (try replace hr0 := RdChart.below hr0 hb'); have hr0 := hrc) | (go_at_call 21; obtain ⟨g0_0_0, g0_0_1, g0_1_0, g0_1_1, g0_1_2, g0_1_3, g0_1_4, g1_0_0, g1_0_1, hlz0, hlz1, hlz2, hBz⟩ := (by with_reducible assumption : _ ∧ _); with_reducible refine (eqChart_any _ _ _ _ c c _ ((urd.keep hBz (Nat.le_refl _)).mono hBz.size) hr0).mono ?_; rintro e wz ⟨rfl, hb'⟩; obtain ⟨hc, hf⟩ := bcell hb'; have hBz := bnext hBz hb' (Nat.le_refl _); (try replace hr0 := Rd.below hr0 hb'); (try replace hr0 := RdChart.below hr0 hb')))
  rename World => w8
  have hb8 := hBz
  clear hc hf hBz urc urd
  have s8 := hb8.size
  replace rc := rc.keep hb8 (by omega)
  replace rf := rf.keep hb8 (by omega)
  replace rd := rd.keep hb8 (by omega)
  replace re := re.keep hb8 (by omega)
  have hB8 := bnext hB7 hb8 (Nat.le_refl _)
  have hBB0_8 := bnext hBB0_7 hb8 (Nat.le_refl _)
  obtain ⟨hc0, hf0⟩ := bcell hBB0_8
  have hm0_0 : w.heap.size < w8.heap.size := by omega
  have hm0_1 : w.heap.size + 1 < w8.heap.size := by omega
  have hBB1_8 := bnext hBB1_7 hb8 (Nat.le_refl _)
  obtain ⟨hc1, hf1⟩ := bcell hBB1_8
  have hm1_0 : w4.heap.size < w8.heap.size := by omega
  try rw [decide_eq_true rfl]
  go_wp2_with fail
  refine (toShipS_any _ _ _ (rf.mono (by omega)) (by omega)).mono ?_; rintro e w9 ⟨v9, rfl, ho9, hb9⟩
  have s9 := hb9.size
  replace rc := rc.keep hb9 (by omega)
  replace rf := rf.keep hb9 (by omega)
  replace rd := rd.keep hb9 (by omega)
  replace re := re.keep hb9 (by omega)
  have hB9 := bnext hB8 hb9 (Nat.le_refl _)
  have hBB0_9 := bnext hBB0_8 hb9 (Nat.le_refl _)
  clear hc0 hf0; obtain ⟨hc0, hf0⟩ := bcell hBB0_9
  have hm0_0 : w.heap.size < w9.heap.size := by omega
  have hm0_1 : w.heap.size + 1 < w9.heap.size := by omega
  have hBB1_9 := bnext hBB1_8 hb9 (Nat.le_refl _)
  clear hc1 hf1; obtain ⟨hc1, hf1⟩ := bcell hBB1_9
  have hm1_0 : w4.heap.size < w9.heap.size := by omega
  have og := ho9.b
  have rg := og.rdB ShipD.enc_len
  clear ho9
  clear og
  go_wp2_with fail
  refine (eqShipS_any _ _ _ _ _ (re.mono (by omega)) (rg.mono (by omega))).mono ?_; rintro e w10 ⟨rfl, hb10⟩
  have s10 := hb10.size
  replace rc := rc.keep hb10 (by omega)
  replace rf := rf.keep hb10 (by omega)
  replace rd := rd.keep hb10 (by omega)
  replace re := re.keep hb10 (by omega)
  replace rg := rg.keep hb10 (by omega)
  have hB10 := bnext hB9 hb10 (Nat.le_refl _)
  have hBB0_10 := bnext hBB0_9 hb10 (Nat.le_refl _)
  clear hc0 hf0; obtain ⟨hc0, hf0⟩ := bcell hBB0_10
  have hm0_0 : w.heap.size < w10.heap.size := by omega
  have hm0_1 : w.heap.size + 1 < w10.heap.size := by omega
  have hBB1_10 := bnext hBB1_9 hb10 (Nat.le_refl _)
  clear hc1 hf1; obtain ⟨hc1, hf1⟩ := bcell hBB1_10
  have hm1_0 : w4.heap.size < w10.heap.size := by omega
  go_wp2_with fail
  go_ret
  exact ⟨rfl, hB10⟩
namespace fnExactPassageOk
set_option maxRecDepth 100000 in
theorem lifted (os : Os) (started : os.Started) (H : Type) (enc : TypeId × Value → H) :
    ReturnsInHanded {} Try.checked os 12 .any (Rows.fnExactPassageOkSpec.pre6 enc Try.prog Try.f12 Rows.fnExactPassageOkRow.domain false) (Rows.fnExactPassageOkSpec.post enc Try.prog Try.f12 false true false false) := by
  refine returnsInHanded_of_change (C := Try.checked) own started (by kernel_rfl) Try.func12
    (ChangeSpec.witness6 (enc := enc) (C := Try.checked) false ⟨#[], #[.agg #[.slice none 0 0, .slice none 0 0], .slice none 0 0, .agg #[.int .i64 0, .int .i64 0, .bool false, .int .i64 0, .int .i64 0]], []⟩ 8 (by kernel_rfl) (by kernel_rfl) (by kernel_rfl) (by kernel_rfl)) ?_
  intro W base args ds gs before hval0 hW hcnd _
  have hval : ∀ (j : Nat) t v, Try.f12.params[j]? = some t → args[j]? = some v → Value.okWide Try.prog W .any base t v := hval0
  have hW' := hW
  obtain ⟨p, q, hA0, hV, hbef, hfz, hnd⟩ := hW
  have hA : DataW.TrodAll enc Try.prog W 0 (fun _ => true) true Try.f12.params.toList args.toList ds p := hA0
  rw [Try.params12] at hA hval
  obtain ⟨v0, vs0, d0, ds0, p0, q0, hargs, rfl, hp0, h0, r0⟩ := trodAll_cons hA
  obtain ⟨v1, vs1, d1, ds1, p1, q1, rfl, rfl, hp1, h1, r1⟩ := trodAll_cons r0
  obtain ⟨v2, vs2, d2, ds2, p2, q2, rfl, rfl, hp2, h2, r2⟩ := trodAll_cons r1
  obtain ⟨rfl, rfl, hpn⟩ := trodAll_nil r2
  obtain rfl : args = #[v0, v1, v2] := by cases args; simp_all
  obtain ⟨rfl, rfl⟩ := trodVars_none hV
  obtain ⟨b0, c0, a0, rfl, g0, w0, x0⟩ := openChart (hval 0 25 v0 rfl rfl) h0
  obtain ⟨a1, g1, w1⟩ := openShipS (hval 1 70 v1 rfl rfl) h1
  obtain ⟨a2, rfl, w2⟩ := openPassage (hval 2 45 v2 rfl rfl) h2
  refine (FnExactPassageOk_walk W b0 c0 a0 g0 w0 x0 _ a1 g1 w1 a2 w2).mono fun e W' ⟨he, hg⟩ => ?_
  subst he
  exact ⟨_, rfl, post_law laidOut (by kernel_rfl) rfl Try.underlying4 rfl ⟨rfl, rfl, rfl⟩ hW' hg⟩
theorem proved : Rows.FnExactPassageOkSaid :=
  OpenClaim.holds_of_wide 12 Try.f12 rfl rfl rfl rfl rfl rfl rfl ⟨rfl, rfl, rfl, rfl, rfl⟩ rfl rfl rfl rfl rfl (by kernel_rfl) Try.func12 (by kernel_rfl)
    (of_decide_eq_true (by kernel_rfl)) (by unfold Func.isWrapper; first | (rw [if_pos (by decide +kernel)]; kernel_rfl) | (rw [if_neg (by decide +kernel)]; exact ⟨rfl, rfl⟩))
    (fun os started H enc _ => lifted os started H enc)
end fnExactPassageOk
end Go.Proofs.Ytefidlecandnlaa
