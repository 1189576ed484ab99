/- The law FnExactArrivalOf: for every input it returns true and leaves its arguments as they were. No condition. -/
import Derived.Test.YtefidlecandnlaaRoute
import Derived.Test.YtefidlecandnlaaLaw2
namespace Go.Proofs.Ytefidlecandnlaa
open Go.RowKit Go.WideShapes Go.ChangeShapes Go.ChangeAt Go.Joins Go.Deep
set_option linter.unusedVariables false
set_option maxRecDepth 100000 in
set_option maxHeartbeats 4000000 in
theorem FnExactArrivalOf_walk (w : World) (vc1 vc2 : Value) (c : ChartD) (rc : RdChart w w.heap.size vc1 vc2 c) (hokc : ∀ x ∈ c.points, x.name.size ≤ maxLen) (hoksc : ∀ x ∈ c.segs, x.ok) (s : ShipD) (hoks : s.ok) (va : Value) (a : List Int) (ra : RdI w va a) (hoka : ∀ x ∈ a, (Lit.int .i64 x).wf = true) (vb : Value) (b : List Int) (rb : RdI w vb b) (hokb : ∀ x ∈ b, (Lit.int .i64 x).wf = true) :
    Calls Try.prog 7 #[.agg #[vc1, vc2], s.val, va, vb] w fun e w' => e = .returned (.bool true) ∧ Below w.heap.size w w' := by
  obtain ⟨Ac, cc, Bc, dc, rfl, rfl⟩ : ∃ Az cz Bz dz, vc1 = .slice Az c.points.length cz ∧ vc2 = .slice Bz c.segs.length dz := by obtain ⟨⟨Az, cz, h, _⟩, ⟨Bz, dz, h2, _⟩⟩ := rc; exact ⟨Az, cz, Bz, dz, h, h2⟩
  obtain ⟨Aa, ca, rfl, hca, hma, hha⟩ : ∃ Az cz, va = .slice Az a.length cz ∧ a.length ≤ cz ∧ cz ≤ maxLen ∧ RdI w (.slice Az a.length cz) a := by obtain ⟨Az, cz, rfl, hc, hm, h⟩ := ra; exact ⟨Az, cz, rfl, hc, hm, ⟨Az, cz, rfl, hc, hm, h⟩⟩
  unfold maxLen at hma
  replace ra := hha; clear hha
  obtain ⟨Ab, cb, rfl, hcb, hmb, hhb⟩ : ∃ Az cz, vb = .slice Az b.length cz ∧ b.length ≤ cz ∧ cz ≤ maxLen ∧ RdI w (.slice Az b.length cz) b := by obtain ⟨Az, cz, rfl, hc, hm, h⟩ := rb; exact ⟨Az, cz, rfl, hc, hm, ⟨Az, cz, rfl, hc, hm, h⟩⟩
  unfold maxLen at hmb
  replace rb := hhb; clear hhb
  go_enter Try.func7, Try.ntmps7
  by_cases hbiga : (1048576 : Int) < (a.length : Int)
  · go_wp2_with fail
    go_ret
    exact ⟨rfl, (by repeat (first | exact Below.refl _ _ | assumption | refine Below.setCell ?_ (by first | omega | (simp <;> omega)) _ | refine Below.alloc ?_ (by first | omega | (simp <;> omega)) _ | refine below_drewN ?_ _ | refine Below.drew ?_ | refine Below.trans ?_ (Below.mono (by assumption) (by first | omega | (simp <;> omega)))))⟩
  have hbiga' : (a.length : Int) ≤ 1048576 := by omega
  have hlena : a.length ≤ 1048576 := by omega
  clear hbiga
  by_cases hbigb : (1048576 : Int) < (b.length : Int)
  · go_wp2_with fail
    go_ret
    exact ⟨rfl, (by repeat (first | exact Below.refl _ _ | assumption | refine Below.setCell ?_ (by first | omega | (simp <;> omega)) _ | refine Below.alloc ?_ (by first | omega | (simp <;> omega)) _ | refine below_drewN ?_ _ | refine Below.drew ?_ | refine Below.trans ?_ (Below.mono (by assumption) (by first | omega | (simp <;> omega)))))⟩
  have hbigb' : (b.length : Int) ≤ 1048576 := by omega
  have hlenb : b.length ≤ 1048576 := by omega
  clear hbigb
  go_wp2_with fail
  generalize hW0 : ((w.alloc (.cells #[.slice Ac c.points.length cc, .slice Bc c.segs.length dc] 25)).alloc (.cells #[.string s.name, .int .i64 s.length, .int .i64 s.draught, .int .i64 s.line, .int .i64 s.tugs, .bool s.slow] 27)) = W0
  have hB0 : Below w.heap.size w W0 := by rw [← hW0]; exact (by repeat (first | exact Below.refl _ _ | assumption | refine Below.setCell ?_ (by first | omega | (simp <;> omega)) _ | refine Below.alloc ?_ (by first | omega | (simp <;> omega)) _ | refine below_drewN ?_ _ | refine Below.drew ?_ | refine Below.trans ?_ (Below.mono (by assumption) (by first | omega | (simp <;> omega)))))
  have hl0 : w.heap.size < W0.heap.size := by rw [← hW0]; simp <;> omega
  have hx0_0 : W0.cell? ⟨w.heap.size, 0, none⟩ = some (.slice Ac c.points.length cc) := by rw [← hW0]; simp [go_sem]
  have hx0_1 : W0.cell? ⟨w.heap.size, 1, none⟩ = some (.slice Bc c.segs.length dc) := by rw [← hW0]; simp [go_sem]
  have hl1 : w.heap.size + 1 < W0.heap.size := by rw [← hW0]; simp <;> omega
  have hx1_0 : W0.cell? ⟨w.heap.size + 1, 0, none⟩ = some (.string s.name) := by rw [← hW0]; simp [go_sem]
  have hx1_1 : W0.cell? ⟨w.heap.size + 1, 1, none⟩ = some (.int .i64 s.length) := by rw [← hW0]; simp [go_sem]
  have hx1_2 : W0.cell? ⟨w.heap.size + 1, 2, none⟩ = some (.int .i64 s.draught) := by rw [← hW0]; simp [go_sem]
  have hx1_3 : W0.cell? ⟨w.heap.size + 1, 3, none⟩ = some (.int .i64 s.line) := by rw [← hW0]; simp [go_sem]
  have hx1_4 : W0.cell? ⟨w.heap.size + 1, 4, none⟩ = some (.int .i64 s.tugs) := by rw [← hW0]; simp [go_sem]
  have hx1_5 : W0.cell? ⟨w.heap.size + 1, 5, none⟩ = some (.bool s.slow) := by rw [← hW0]; simp [go_sem]
  have s0 := hB0.size
  clear hW0
  replace rc := rc.keep hB0 (by omega)
  replace ra := ra.keep hB0 (by omega)
  replace rb := rb.keep hB0 (by omega)
  have hBB0 := Below.refl W0.heap.size W0
  obtain ⟨hc0, hf0⟩ := bcell hBB0
  go_wp2_with fail
  refine (szChart_any _ _ c 1048576 _ (rc.mono (by omega)) hokc (by omega) (by omega)).mono ?_; rintro e w1 ⟨z1, rfl, hz1, hm1, hb1⟩
  have s1 := hb1.size
  replace rc := rc.keep hb1 (by omega)
  replace ra := ra.keep hb1 (by omega)
  replace rb := rb.keep hb1 (by omega)
  have hB1 := bnext hB0 hb1 (Nat.le_refl _)
  have hBB0_1 := bnext hBB0 hb1 (Nat.le_refl _)
  clear hc0 hf0; obtain ⟨hc0, hf0⟩ := bcell hBB0_1
  have hm0_0 : w.heap.size < w1.heap.size := by omega
  have hm0_1 : w.heap.size + 1 < w1.heap.size := by omega
  by_cases hn1 : z1 < 0
  · clear hz1
    go_wp2_with fail
    go_ret
    exact ⟨rfl, hB1⟩
  obtain ⟨p1, q1⟩ := hz1 (by omega)
  have hpc : c.points.length ≤ 1048576 := by omega
  have hsc : c.segs.length ≤ 1048576 := by omega
  go_wp2_with fail
  refine (szShip_any s.name s.length s.draught s.line s.tugs s.slow z1 _ (ShipD.ok_size hoks) (by omega) (by omega)).mono ?_; rintro e w2 ⟨z2, rfl, hz2, hm2, hb2⟩
  have s2 := hb2.size
  replace rc := rc.keep hb2 (by omega)
  replace ra := ra.keep hb2 (by omega)
  replace rb := rb.keep hb2 (by omega)
  have hB2 := bnext hB1 hb2 (Nat.le_refl _)
  have hBB0_2 := bnext hBB0_1 hb2 (Nat.le_refl _)
  clear hc0 hf0; obtain ⟨hc0, hf0⟩ := bcell hBB0_2
  have hm0_0 : w.heap.size < w2.heap.size := by omega
  have hm0_1 : w.heap.size + 1 < w2.heap.size := by omega
  by_cases hn2 : z2 < 0
  · clear hz2
    go_wp2_with fail
    go_ret
    exact ⟨rfl, hB2⟩
  obtain ⟨p2, q2⟩ := hz2 (by omega)
  have hy0_0_0 : w2.cell? ⟨w.heap.size, 0, none⟩ = some (.slice Ac c.points.length cc) := by rw [hBB0_2.cell (p := ⟨w.heap.size, 0, none⟩) (by omega)]; exact hx0_0
  have hy0_0_1 : w2.cell? ⟨w.heap.size, 1, none⟩ = some (.slice Bc c.segs.length dc) := by rw [hBB0_2.cell (p := ⟨w.heap.size, 1, none⟩) (by omega)]; exact hx0_1
  have hy0_1_0 : w2.cell? ⟨w.heap.size + 1, 0, none⟩ = some (.string s.name) := by rw [hBB0_2.cell (p := ⟨w.heap.size + 1, 0, none⟩) (by omega)]; exact hx1_0
  have hy0_1_1 : w2.cell? ⟨w.heap.size + 1, 1, none⟩ = some (.int .i64 s.length) := by rw [hBB0_2.cell (p := ⟨w.heap.size + 1, 1, none⟩) (by omega)]; exact hx1_1
  have hy0_1_2 : w2.cell? ⟨w.heap.size + 1, 2, none⟩ = some (.int .i64 s.draught) := by rw [hBB0_2.cell (p := ⟨w.heap.size + 1, 2, none⟩) (by omega)]; exact hx1_2
  have hy0_1_3 : w2.cell? ⟨w.heap.size + 1, 3, none⟩ = some (.int .i64 s.line) := by rw [hBB0_2.cell (p := ⟨w.heap.size + 1, 3, none⟩) (by omega)]; exact hx1_3
  have hy0_1_4 : w2.cell? ⟨w.heap.size + 1, 4, none⟩ = some (.int .i64 s.tugs) := by rw [hBB0_2.cell (p := ⟨w.heap.size + 1, 4, none⟩) (by omega)]; exact hx1_4
  have hy0_1_5 : w2.cell? ⟨w.heap.size + 1, 5, none⟩ = some (.bool s.slow) := by rw [hBB0_2.cell (p := ⟨w.heap.size + 1, 5, none⟩) (by omega)]; exact hx1_5
  clear hc0 hf0
  have hlw0 : w.heap.size < w2.heap.size := by omega
  have hlw1 : w.heap.size + 1 < w2.heap.size := by omega
  have urc := rc.mono (show _ ≤ w2.heap.size by omega)
  have ura := ra.mono (show _ ≤ w2.heap.size by omega)
  have urb := rb.mono (show _ ≤ w2.heap.size by omega)
  have hle_a : a.length ≤ 1048576 := by omega
  have hle_b : b.length ≤ 1048576 := by omega
  go_wp2_with fail
  go_region_held3 (fun w' => w'.cell? ⟨w.heap.size, 0, none⟩ = some (.slice Ac c.points.length cc) ∧ w'.cell? ⟨w.heap.size, 1, none⟩ = some (.slice Bc c.segs.length dc) ∧ w'.cell? ⟨w.heap.size + 1, 0, none⟩ = some (.string s.name) ∧ w'.cell? ⟨w.heap.size + 1, 1, none⟩ = some (.int .i64 s.length) ∧ w'.cell? ⟨w.heap.size + 1, 2, none⟩ = some (.int .i64 s.draught) ∧ w'.cell? ⟨w.heap.size + 1, 3, none⟩ = some (.int .i64 s.line) ∧ w'.cell? ⟨w.heap.size + 1, 4, none⟩ = some (.int .i64 s.tugs) ∧ w'.cell? ⟨w.heap.size + 1, 5, none⟩ = some (.bool s.slow) ∧ w.heap.size < w'.heap.size ∧ w.heap.size + 1 < w'.heap.size ∧ Below w2.heap.size w2 w')
    (first | exact ⟨hy0_0_0, hy0_0_1, hy0_1_0, hy0_1_1, hy0_1_2, hy0_1_3, hy0_1_4, hy0_1_5, hlw0, hlw1, Below.drew (Below.refl _ _)⟩ | exact ⟨cellKeepL hb' g0_0_0 hlz0, cellKeepL hb' g0_0_1 hlz0, cellKeepL hb' g0_1_0 hlz1, cellKeepL hb' g0_1_1 hlz1, cellKeepL hb' g0_1_2 hlz1, cellKeepL hb' g0_1_3 hlz1, cellKeepL hb' g0_1_4 hlz1, cellKeepL hb' g0_1_5 hlz1, Nat.lt_of_lt_of_le hlz0 hb'.size, Nat.lt_of_lt_of_le hlz1 hb'.size, hBz⟩ | ((repeat' apply And.intro) <;> first | assumption | omega | (rw [hc _ _ (by omega)]; assumption) | (simp [*]; done) | exact Below.drew (Below.refl _ _)))
    (first | (go_at_call 18; obtain ⟨g0_0_0, g0_0_1, g0_1_0, g0_1_1, g0_1_2, g0_1_3, g0_1_4, g0_1_5, hlz0, hlz1, hBz⟩ := (by with_reducible assumption : _ ∧ _); with_reducible refine (toChart_any _ _ c _ ((urc.keep hBz (Nat.le_refl _)).mono hBz.size) hpc hsc).mono ?_; rintro e wz ⟨gz1, gz2, rfl, hrc, hb'⟩; obtain ⟨hc, hf⟩ := bcell hb'; have hBz := bnext hBz hb' (Nat.le_refl _); (try replace hr0 := Rd.below hr0 hb'); (try replace hr0 := RdChart.below hr0 hb'); (try replace hr1 := Rd.below hr1 hb'); (try replace hr1 := RdChart.below hr1 hb'); (try replace hr2 := Rd.below hr2 hb'); (try replace hr2 := RdChart.below hr2 hb'); have hr0 := hrc) | (go_at_call 19; obtain ⟨g0_0_0, g0_0_1, g0_1_0, g0_1_1, g0_1_2, g0_1_3, g0_1_4, g0_1_5, hlz0, hlz1, hBz⟩ := (by with_reducible assumption : _ ∧ _); with_reducible refine (toShip_any _ _ _ _ _ _ _).mono ?_; rintro e wz ⟨rfl, hb'⟩; obtain ⟨hc, hf⟩ := bcell hb'; have hBz := bnext hBz hb' (Nat.le_refl _); (try replace hr0 := Rd.below hr0 hb'); (try replace hr0 := RdChart.below hr0 hb'); (try replace hr1 := Rd.below hr1 hb'); (try replace hr1 := RdChart.below hr1 hb'); (try replace hr2 := Rd.below hr2 hb'); (try replace hr2 := RdChart.below hr2 hb')) | (go_at_call 31; obtain ⟨g0_0_0, g0_0_1, g0_1_0, g0_1_1, g0_1_2, g0_1_3, g0_1_4, g0_1_5, hlz0, hlz1, hBz⟩ := (by with_reducible assumption : _ ∧ _); with_reducible refine (toIntS_at _ a _ ((ura.keep hBz (Nat.le_refl _)).mono hBz.size) hle_a).mono ?_; rintro e wz ⟨rfl, ho, hb'⟩; obtain ⟨hc, hf⟩ := bcell hb'; have hBz := bnext hBz hb' (Nat.le_refl _); (try replace hr0 := Rd.below hr0 hb'); (try replace hr0 := RdChart.below hr0 hb'); (try replace hr1 := Rd.below hr1 hb'); (try replace hr1 := RdChart.below hr1 hb'); (try replace hr2 := Rd.below hr2 hb'); (try replace hr2 := RdChart.below hr2 hb'); have hr1 := Own.rd encI_len ho) | (go_at_call 31; obtain ⟨g0_0_0, g0_0_1, g0_1_0, g0_1_1, g0_1_2, g0_1_3, g0_1_4, g0_1_5, hlz0, hlz1, hBz⟩ := (by with_reducible assumption : _ ∧ _); with_reducible refine (toIntS_at _ b _ ((urb.keep hBz (Nat.le_refl _)).mono hBz.size) hle_b).mono ?_; rintro e wz ⟨rfl, ho, hb'⟩; obtain ⟨hc, hf⟩ := bcell hb'; have hBz := bnext hBz hb' (Nat.le_refl _); (try replace hr0 := Rd.below hr0 hb'); (try replace hr0 := RdChart.below hr0 hb'); (try replace hr1 := Rd.below hr1 hb'); (try replace hr1 := RdChart.below hr1 hb'); (try replace hr2 := Rd.below hr2 hb'); (try replace hr2 := RdChart.below hr2 hb'); have hr2 := Own.rd encI_len ho) | (go_at_call 30; obtain ⟨g0_0_0, g0_0_1, g0_1_0, g0_1_1, g0_1_2, g0_1_3, g0_1_4, g0_1_5, hlz0, hlz1, hBz⟩ := (by with_reducible assumption : _ ∧ _); with_reducible refine (spec_ArrivalOf_any _ _ _ _ c s a b _ hr0 hr1 hr2 hlena hokc (ShipD.ok_size hoks)).mono ?_; rintro e wz ⟨rfl, hb'⟩; obtain ⟨hc, hf⟩ := bcell hb'; have hBz := bnext hBz hb' (Nat.le_refl _); (try replace hr0 := Rd.below hr0 hb'); (try replace hr0 := RdChart.below hr0 hb'); (try replace hr1 := Rd.below hr1 hb'); (try replace hr1 := RdChart.below hr1 hb'); (try replace hr2 := Rd.below hr2 hb'); (try replace hr2 := RdChart.below hr2 hb')))
  rename World => w3
  have hb3 := hBz
  clear hc hf hBz urc ura urb hle_a hle_b
  have s3 := hb3.size
  replace rc := rc.keep hb3 (by omega)
  replace ra := ra.keep hb3 (by omega)
  replace rb := rb.keep hb3 (by omega)
  have hB3 := bnext hB2 hb3 (Nat.le_refl _)
  have hBB0_3 := bnext hBB0_2 hb3 (Nat.le_refl _)
  obtain ⟨hc0, hf0⟩ := bcell hBB0_3
  have hm0_0 : w.heap.size < w3.heap.size := by omega
  have hm0_1 : w.heap.size + 1 < w3.heap.size := by omega
  go_wp2_with fail
  refine (toChart_any _ _ c _ (rc.mono (by omega)) hpc hsc).mono ?_; rintro e w4 ⟨g1d, g2d, rfl, rd, hb4⟩
  have s4 := hb4.size
  replace rc := rc.keep hb4 (by omega)
  replace ra := ra.keep hb4 (by omega)
  replace rb := rb.keep hb4 (by omega)
  have hB4 := bnext hB3 hb4 (Nat.le_refl _)
  have hBB0_4 := bnext hBB0_3 hb4 (Nat.le_refl _)
  clear hc0 hf0; obtain ⟨hc0, hf0⟩ := bcell hBB0_4
  have hm0_0 : w.heap.size < w4.heap.size := by omega
  have hm0_1 : w.heap.size + 1 < w4.heap.size := by omega
  go_wp2_with fail
  generalize hW5 : w4.alloc (.cells #[.slice (some ⟨g1d, 0, none⟩) c.points.length c.points.length, .slice (some ⟨g2d, 0, none⟩) c.segs.length c.segs.length] 34) = w5
  have hb5 : Below w4.heap.size w4 w5 := by rw [← hW5]; exact (Below.refl _ _).alloc (Nat.le_refl _) _
  have hl1x : w4.heap.size < w5.heap.size := by rw [← hW5]; simp
  have hz1_0 : w5.cell? ⟨w4.heap.size, 0, none⟩ = some (.slice (some ⟨g1d, 0, none⟩) c.points.length c.points.length) := by rw [← hW5]; simp [go_sem]
  have hz1_1 : w5.cell? ⟨w4.heap.size, 1, none⟩ = some (.slice (some ⟨g2d, 0, none⟩) c.segs.length c.segs.length) := by rw [← hW5]; simp [go_sem]
  clear hW5
  have s5 := hb5.size
  replace rc := rc.keep hb5 (by omega)
  replace ra := ra.keep hb5 (by omega)
  replace rb := rb.keep hb5 (by omega)
  replace rd := rd.keep hb5 (by omega)
  have hB5 := bnext hB4 hb5 (Nat.le_refl _)
  have hBB0_5 := bnext hBB0_4 hb5 (Nat.le_refl _)
  clear hc0 hf0; obtain ⟨hc0, hf0⟩ := bcell hBB0_5
  have hm0_0 : w.heap.size < w5.heap.size := by omega
  have hm0_1 : w.heap.size + 1 < w5.heap.size := by omega
  have hBB1 := Below.refl w5.heap.size w5
  obtain ⟨hc1, hf1⟩ := bcell hBB1
  go_wp2_with fail
  refine (toIntS_any _ _ _ (ra.mono (by omega)) (by omega)).mono ?_; rintro e w6 ⟨v6, rfl, ho6, hb6⟩
  have s6 := hb6.size
  replace rc := rc.keep hb6 (by omega)
  replace ra := ra.keep hb6 (by omega)
  replace rb := rb.keep hb6 (by omega)
  replace rd := rd.keep hb6 (by omega)
  have hB6 := bnext hB5 hb6 (Nat.le_refl _)
  have hBB0_6 := bnext hBB0_5 hb6 (Nat.le_refl _)
  clear hc0 hf0; obtain ⟨hc0, hf0⟩ := bcell hBB0_6
  have hm0_0 : w.heap.size < w6.heap.size := by omega
  have hm0_1 : w.heap.size + 1 < w6.heap.size := by omega
  have hBB1_6 := bnext hBB1 hb6 (Nat.le_refl _)
  clear hc1 hf1; obtain ⟨hc1, hf1⟩ := bcell hBB1_6
  have hm1_0 : w4.heap.size < w6.heap.size := by omega
  have oe := ho6.b
  have re := oe.rdB encI_len
  clear ho6
  clear oe
  go_wp2_with fail
  refine (toIntS_any _ _ _ (rb.mono (by omega)) (by omega)).mono ?_; rintro e w7 ⟨v7, rfl, ho7, hb7⟩
  have s7 := hb7.size
  replace rc := rc.keep hb7 (by omega)
  replace ra := ra.keep hb7 (by omega)
  replace rb := rb.keep hb7 (by omega)
  replace rd := rd.keep hb7 (by omega)
  replace re := re.keep hb7 (by omega)
  have hB7 := bnext hB6 hb7 (Nat.le_refl _)
  have hBB0_7 := bnext hBB0_6 hb7 (Nat.le_refl _)
  clear hc0 hf0; obtain ⟨hc0, hf0⟩ := bcell hBB0_7
  have hm0_0 : w.heap.size < w7.heap.size := by omega
  have hm0_1 : w.heap.size + 1 < w7.heap.size := by omega
  have hBB1_7 := bnext hBB1_6 hb7 (Nat.le_refl _)
  clear hc1 hf1; obtain ⟨hc1, hf1⟩ := bcell hBB1_7
  have hm1_0 : w4.heap.size < w7.heap.size := by omega
  have of := ho7.b
  have rf := of.rdB encI_len
  clear ho7
  clear of
  have hy0_0_0 : w7.cell? ⟨w.heap.size, 0, none⟩ = some (.slice Ac c.points.length cc) := by rw [hBB0_7.cell (p := ⟨w.heap.size, 0, none⟩) (by omega)]; exact hx0_0
  have hy0_0_1 : w7.cell? ⟨w.heap.size, 1, none⟩ = some (.slice Bc c.segs.length dc) := by rw [hBB0_7.cell (p := ⟨w.heap.size, 1, none⟩) (by omega)]; exact hx0_1
  have hy0_1_0 : w7.cell? ⟨w.heap.size + 1, 0, none⟩ = some (.string s.name) := by rw [hBB0_7.cell (p := ⟨w.heap.size + 1, 0, none⟩) (by omega)]; exact hx1_0
  have hy0_1_1 : w7.cell? ⟨w.heap.size + 1, 1, none⟩ = some (.int .i64 s.length) := by rw [hBB0_7.cell (p := ⟨w.heap.size + 1, 1, none⟩) (by omega)]; exact hx1_1
  have hy0_1_2 : w7.cell? ⟨w.heap.size + 1, 2, none⟩ = some (.int .i64 s.draught) := by rw [hBB0_7.cell (p := ⟨w.heap.size + 1, 2, none⟩) (by omega)]; exact hx1_2
  have hy0_1_3 : w7.cell? ⟨w.heap.size + 1, 3, none⟩ = some (.int .i64 s.line) := by rw [hBB0_7.cell (p := ⟨w.heap.size + 1, 3, none⟩) (by omega)]; exact hx1_3
  have hy0_1_4 : w7.cell? ⟨w.heap.size + 1, 4, none⟩ = some (.int .i64 s.tugs) := by rw [hBB0_7.cell (p := ⟨w.heap.size + 1, 4, none⟩) (by omega)]; exact hx1_4
  have hy0_1_5 : w7.cell? ⟨w.heap.size + 1, 5, none⟩ = some (.bool s.slow) := by rw [hBB0_7.cell (p := ⟨w.heap.size + 1, 5, none⟩) (by omega)]; exact hx1_5
  have hy1_0_0 : w7.cell? ⟨w4.heap.size, 0, none⟩ = some (.slice (some ⟨g1d, 0, none⟩) c.points.length c.points.length) := by rw [hBB1_7.cell (p := ⟨w4.heap.size, 0, none⟩) (by omega)]; exact hz1_0
  have hy1_0_1 : w7.cell? ⟨w4.heap.size, 1, none⟩ = some (.slice (some ⟨g2d, 0, none⟩) c.segs.length c.segs.length) := by rw [hBB1_7.cell (p := ⟨w4.heap.size, 1, none⟩) (by omega)]; exact hz1_1
  clear hc0 hf0 hc1 hf1
  have hlw0 : w.heap.size < w7.heap.size := by omega
  have hlw1 : w.heap.size + 1 < w7.heap.size := by omega
  have hlw2 : w4.heap.size < w7.heap.size := by omega
  have urd := rd.mono (show _ ≤ w7.heap.size by omega)
  have ure := re.mono (show _ ≤ w7.heap.size by omega)
  have urf := rf.mono (show _ ≤ w7.heap.size by omega)
  go_wp2_with fail
  go_region_held3 (fun w' => w'.cell? ⟨w.heap.size, 0, none⟩ = some (.slice Ac c.points.length cc) ∧ w'.cell? ⟨w.heap.size, 1, none⟩ = some (.slice Bc c.segs.length dc) ∧ w'.cell? ⟨w.heap.size + 1, 0, none⟩ = some (.string s.name) ∧ w'.cell? ⟨w.heap.size + 1, 1, none⟩ = some (.int .i64 s.length) ∧ w'.cell? ⟨w.heap.size + 1, 2, none⟩ = some (.int .i64 s.draught) ∧ w'.cell? ⟨w.heap.size + 1, 3, none⟩ = some (.int .i64 s.line) ∧ w'.cell? ⟨w.heap.size + 1, 4, none⟩ = some (.int .i64 s.tugs) ∧ w'.cell? ⟨w.heap.size + 1, 5, none⟩ = some (.bool s.slow) ∧ w'.cell? ⟨w4.heap.size, 0, none⟩ = some (.slice (some ⟨g1d, 0, none⟩) c.points.length c.points.length) ∧ w'.cell? ⟨w4.heap.size, 1, none⟩ = some (.slice (some ⟨g2d, 0, none⟩) c.segs.length c.segs.length) ∧ w.heap.size < w'.heap.size ∧ w.heap.size + 1 < w'.heap.size ∧ w4.heap.size < w'.heap.size ∧ Below w7.heap.size w7 w')
    (first | exact ⟨hy0_0_0, hy0_0_1, hy0_1_0, hy0_1_1, hy0_1_2, hy0_1_3, hy0_1_4, hy0_1_5, hy1_0_0, hy1_0_1, hlw0, hlw1, hlw2, Below.drew (Below.refl _ _)⟩ | exact ⟨cellKeepL hb' g0_0_0 hlz0, cellKeepL hb' g0_0_1 hlz0, cellKeepL hb' g0_1_0 hlz1, cellKeepL hb' g0_1_1 hlz1, cellKeepL hb' g0_1_2 hlz1, cellKeepL hb' g0_1_3 hlz1, cellKeepL hb' g0_1_4 hlz1, cellKeepL hb' g0_1_5 hlz1, cellKeepL hb' g1_0_0 hlz2, cellKeepL hb' g1_0_1 hlz2, Nat.lt_of_lt_of_le hlz0 hb'.size, Nat.lt_of_lt_of_le hlz1 hb'.size, Nat.lt_of_lt_of_le hlz2 hb'.size, hBz⟩ | ((repeat' apply And.intro) <;> first | assumption | omega | (rw [hc _ _ (by omega)]; assumption) | (simp [*]; done) | exact Below.drew (Below.refl _ _)))
    (first | (go_at_call 19; obtain ⟨g0_0_0, g0_0_1, g0_1_0, g0_1_1, g0_1_2, g0_1_3, g0_1_4, g0_1_5, g1_0_0, g1_0_1, hlz0, hlz1, hlz2, hBz⟩ := (by with_reducible assumption : _ ∧ _); with_reducible refine (toShip_any _ _ _ _ _ _ _).mono ?_; rintro e wz ⟨rfl, hb'⟩; obtain ⟨hc, hf⟩ := bcell hb'; have hBz := bnext hBz hb' (Nat.le_refl _)) | (go_at_call 32; obtain ⟨g0_0_0, g0_0_1, g0_1_0, g0_1_1, g0_1_2, g0_1_3, g0_1_4, g0_1_5, g1_0_0, g1_0_1, hlz0, hlz1, hlz2, hBz⟩ := (by with_reducible assumption : _ ∧ _); with_reducible refine (impl_ArrivalOf_any _ _ _ _ c s a b _ ((urd.keep hBz (Nat.le_refl _)).mono hBz.size) ((ure.keep hBz (Nat.le_refl _)).mono hBz.size) ((urf.keep hBz (Nat.le_refl _)).mono hBz.size) hlena hokc (ShipD.ok_size hoks)).mono ?_; rintro e wz ⟨rfl, hb'⟩; obtain ⟨hc, hf⟩ := bcell hb'; have hBz := bnext hBz hb' (Nat.le_refl _)))
  rename World => w8
  have hb8 := hBz
  clear hc hf hBz urd ure urf
  have s8 := hb8.size
  replace rc := rc.keep hb8 (by omega)
  replace ra := ra.keep hb8 (by omega)
  replace rb := rb.keep hb8 (by omega)
  replace rd := rd.keep hb8 (by omega)
  replace re := re.keep hb8 (by omega)
  replace rf := rf.keep hb8 (by omega)
  have hB8 := bnext hB7 hb8 (Nat.le_refl _)
  have hBB0_8 := bnext hBB0_7 hb8 (Nat.le_refl _)
  obtain ⟨hc0, hf0⟩ := bcell hBB0_8
  have hm0_0 : w.heap.size < w8.heap.size := by omega
  have hm0_1 : w.heap.size + 1 < w8.heap.size := by omega
  have hBB1_8 := bnext hBB1_7 hb8 (Nat.le_refl _)
  obtain ⟨hc1, hf1⟩ := bcell hBB1_8
  have hm1_0 : w4.heap.size < w8.heap.size := by omega
  have hy0_0_0 : w8.cell? ⟨w.heap.size, 0, none⟩ = some (.slice Ac c.points.length cc) := by rw [hBB0_8.cell (p := ⟨w.heap.size, 0, none⟩) (by omega)]; exact hx0_0
  have hy0_0_1 : w8.cell? ⟨w.heap.size, 1, none⟩ = some (.slice Bc c.segs.length dc) := by rw [hBB0_8.cell (p := ⟨w.heap.size, 1, none⟩) (by omega)]; exact hx0_1
  have hy0_1_0 : w8.cell? ⟨w.heap.size + 1, 0, none⟩ = some (.string s.name) := by rw [hBB0_8.cell (p := ⟨w.heap.size + 1, 0, none⟩) (by omega)]; exact hx1_0
  have hy0_1_1 : w8.cell? ⟨w.heap.size + 1, 1, none⟩ = some (.int .i64 s.length) := by rw [hBB0_8.cell (p := ⟨w.heap.size + 1, 1, none⟩) (by omega)]; exact hx1_1
  have hy0_1_2 : w8.cell? ⟨w.heap.size + 1, 2, none⟩ = some (.int .i64 s.draught) := by rw [hBB0_8.cell (p := ⟨w.heap.size + 1, 2, none⟩) (by omega)]; exact hx1_2
  have hy0_1_3 : w8.cell? ⟨w.heap.size + 1, 3, none⟩ = some (.int .i64 s.line) := by rw [hBB0_8.cell (p := ⟨w.heap.size + 1, 3, none⟩) (by omega)]; exact hx1_3
  have hy0_1_4 : w8.cell? ⟨w.heap.size + 1, 4, none⟩ = some (.int .i64 s.tugs) := by rw [hBB0_8.cell (p := ⟨w.heap.size + 1, 4, none⟩) (by omega)]; exact hx1_4
  have hy0_1_5 : w8.cell? ⟨w.heap.size + 1, 5, none⟩ = some (.bool s.slow) := by rw [hBB0_8.cell (p := ⟨w.heap.size + 1, 5, none⟩) (by omega)]; exact hx1_5
  have hy1_0_0 : w8.cell? ⟨w4.heap.size, 0, none⟩ = some (.slice (some ⟨g1d, 0, none⟩) c.points.length c.points.length) := by rw [hBB1_8.cell (p := ⟨w4.heap.size, 0, none⟩) (by omega)]; exact hz1_0
  have hy1_0_1 : w8.cell? ⟨w4.heap.size, 1, none⟩ = some (.slice (some ⟨g2d, 0, none⟩) c.segs.length c.segs.length) := by rw [hBB1_8.cell (p := ⟨w4.heap.size, 1, none⟩) (by omega)]; exact hz1_1
  clear hc0 hf0 hc1 hf1
  have hlw0 : w.heap.size < w8.heap.size := by omega
  have hlw1 : w.heap.size + 1 < w8.heap.size := by omega
  have hlw2 : w4.heap.size < w8.heap.size := by omega
  have urc := rc.mono (show _ ≤ w8.heap.size by omega)
  have urd := rd.mono (show _ ≤ w8.heap.size by omega)
  go_wp2_with fail
  go_region_held3 (fun w' => w'.cell? ⟨w.heap.size, 0, none⟩ = some (.slice Ac c.points.length cc) ∧ w'.cell? ⟨w.heap.size, 1, none⟩ = some (.slice Bc c.segs.length dc) ∧ w'.cell? ⟨w.heap.size + 1, 0, none⟩ = some (.string s.name) ∧ w'.cell? ⟨w.heap.size + 1, 1, none⟩ = some (.int .i64 s.length) ∧ w'.cell? ⟨w.heap.size + 1, 2, none⟩ = some (.int .i64 s.draught) ∧ w'.cell? ⟨w.heap.size + 1, 3, none⟩ = some (.int .i64 s.line) ∧ w'.cell? ⟨w.heap.size + 1, 4, none⟩ = some (.int .i64 s.tugs) ∧ w'.cell? ⟨w.heap.size + 1, 5, none⟩ = some (.bool s.slow) ∧ w'.cell? ⟨w4.heap.size, 0, none⟩ = some (.slice (some ⟨g1d, 0, none⟩) c.points.length c.points.length) ∧ w'.cell? ⟨w4.heap.size, 1, none⟩ = some (.slice (some ⟨g2d, 0, none⟩) c.segs.length c.segs.length) ∧ w.heap.size < w'.heap.size ∧ w.heap.size + 1 < w'.heap.size ∧ w4.heap.size < w'.heap.size ∧ Below w8.heap.size w8 w')
    (first | exact ⟨hy0_0_0, hy0_0_1, hy0_1_0, hy0_1_1, hy0_1_2, hy0_1_3, hy0_1_4, hy0_1_5, hy1_0_0, hy1_0_1, hlw0, hlw1, hlw2, Below.drew (Below.refl _ _)⟩ | exact ⟨cellKeepL hb' g0_0_0 hlz0, cellKeepL hb' g0_0_1 hlz0, cellKeepL hb' g0_1_0 hlz1, cellKeepL hb' g0_1_1 hlz1, cellKeepL hb' g0_1_2 hlz1, cellKeepL hb' g0_1_3 hlz1, cellKeepL hb' g0_1_4 hlz1, cellKeepL hb' g0_1_5 hlz1, cellKeepL hb' g1_0_0 hlz2, cellKeepL hb' g1_0_1 hlz2, Nat.lt_of_lt_of_le hlz0 hb'.size, Nat.lt_of_lt_of_le hlz1 hb'.size, Nat.lt_of_lt_of_le hlz2 hb'.size, hBz⟩ | ((repeat' apply And.intro) <;> first | assumption | omega | (rw [hc _ _ (by omega)]; assumption) | (simp [*]; done) | exact Below.drew (Below.refl _ _)))
    (first | (go_at_call 18; obtain ⟨g0_0_0, g0_0_1, g0_1_0, g0_1_1, g0_1_2, g0_1_3, g0_1_4, g0_1_5, g1_0_0, g1_0_1, hlz0, hlz1, hlz2, hBz⟩ := (by with_reducible assumption : _ ∧ _); with_reducible refine (toChart_any _ _ c _ ((urc.keep hBz (Nat.le_refl _)).mono hBz.size) hpc hsc).mono ?_; rintro e wz ⟨gz1, gz2, rfl, hrc, hb'⟩; obtain ⟨hc, hf⟩ := bcell hb'; have hBz := bnext hBz hb' (Nat.le_refl _); (try replace hr0 := Rd.below hr0 hb'); (try replace hr0 := RdChart.below hr0 hb'); have hr0 := hrc) | (go_at_call 21; obtain ⟨g0_0_0, g0_0_1, g0_1_0, g0_1_1, g0_1_2, g0_1_3, g0_1_4, g0_1_5, g1_0_0, g1_0_1, hlz0, hlz1, hlz2, hBz⟩ := (by with_reducible assumption : _ ∧ _); with_reducible refine (eqChart_any _ _ _ _ c c _ ((urd.keep hBz (Nat.le_refl _)).mono hBz.size) hr0).mono ?_; rintro e wz ⟨rfl, hb'⟩; obtain ⟨hc, hf⟩ := bcell hb'; have hBz := bnext hBz hb' (Nat.le_refl _); (try replace hr0 := Rd.below hr0 hb'); (try replace hr0 := RdChart.below hr0 hb')))
  rename World => w9
  have hb9 := hBz
  clear hc hf hBz urc urd
  have s9 := hb9.size
  replace rc := rc.keep hb9 (by omega)
  replace ra := ra.keep hb9 (by omega)
  replace rb := rb.keep hb9 (by omega)
  replace rd := rd.keep hb9 (by omega)
  replace re := re.keep hb9 (by omega)
  replace rf := rf.keep hb9 (by omega)
  have hB9 := bnext hB8 hb9 (Nat.le_refl _)
  have hBB0_9 := bnext hBB0_8 hb9 (Nat.le_refl _)
  obtain ⟨hc0, hf0⟩ := bcell hBB0_9
  have hm0_0 : w.heap.size < w9.heap.size := by omega
  have hm0_1 : w.heap.size + 1 < w9.heap.size := by omega
  have hBB1_9 := bnext hBB1_8 hb9 (Nat.le_refl _)
  obtain ⟨hc1, hf1⟩ := bcell hBB1_9
  have hm1_0 : w4.heap.size < w9.heap.size := by omega
  try rw [decide_eq_true rfl]
  go_wp2_with fail
  refine (toIntS_any _ _ _ (ra.mono (by omega)) (by omega)).mono ?_; rintro e w10 ⟨v10, rfl, ho10, hb10⟩
  have s10 := hb10.size
  replace rc := rc.keep hb10 (by omega)
  replace ra := ra.keep hb10 (by omega)
  replace rb := rb.keep hb10 (by omega)
  replace rd := rd.keep hb10 (by omega)
  replace re := re.keep hb10 (by omega)
  replace rf := rf.keep hb10 (by omega)
  have hB10 := bnext hB9 hb10 (Nat.le_refl _)
  have hBB0_10 := bnext hBB0_9 hb10 (Nat.le_refl _)
  clear hc0 hf0; obtain ⟨hc0, hf0⟩ := bcell hBB0_10
  have hm0_0 : w.heap.size < w10.heap.size := by omega
  have hm0_1 : w.heap.size + 1 < w10.heap.size := by omega
  have hBB1_10 := bnext hBB1_9 hb10 (Nat.le_refl _)
  clear hc1 hf1; obtain ⟨hc1, hf1⟩ := bcell hBB1_10
  have hm1_0 : w4.heap.size < w10.heap.size := by omega
  have og := ho10.b
  have rg := og.rdB encI_len
  clear ho10
  clear og
  go_wp2_with fail
  refine (eqIntS_any _ _ _ _ _ (re.mono (by omega)) (rg.mono (by omega))).mono ?_; rintro e w11 ⟨rfl, hb11⟩
  have s11 := hb11.size
  replace rc := rc.keep hb11 (by omega)
  replace ra := ra.keep hb11 (by omega)
  replace rb := rb.keep hb11 (by omega)
  replace rd := rd.keep hb11 (by omega)
  replace re := re.keep hb11 (by omega)
  replace rf := rf.keep hb11 (by omega)
  replace rg := rg.keep hb11 (by omega)
  have hB11 := bnext hB10 hb11 (Nat.le_refl _)
  have hBB0_11 := bnext hBB0_10 hb11 (Nat.le_refl _)
  clear hc0 hf0; obtain ⟨hc0, hf0⟩ := bcell hBB0_11
  have hm0_0 : w.heap.size < w11.heap.size := by omega
  have hm0_1 : w.heap.size + 1 < w11.heap.size := by omega
  have hBB1_11 := bnext hBB1_10 hb11 (Nat.le_refl _)
  clear hc1 hf1; obtain ⟨hc1, hf1⟩ := bcell hBB1_11
  have hm1_0 : w4.heap.size < w11.heap.size := by omega
  go_wp2_with fail
  refine (toIntS_any _ _ _ (rb.mono (by omega)) (by omega)).mono ?_; rintro e w12 ⟨v12, rfl, ho12, hb12⟩
  have s12 := hb12.size
  replace rc := rc.keep hb12 (by omega)
  replace ra := ra.keep hb12 (by omega)
  replace rb := rb.keep hb12 (by omega)
  replace rd := rd.keep hb12 (by omega)
  replace re := re.keep hb12 (by omega)
  replace rf := rf.keep hb12 (by omega)
  replace rg := rg.keep hb12 (by omega)
  have hB12 := bnext hB11 hb12 (Nat.le_refl _)
  have hBB0_12 := bnext hBB0_11 hb12 (Nat.le_refl _)
  clear hc0 hf0; obtain ⟨hc0, hf0⟩ := bcell hBB0_12
  have hm0_0 : w.heap.size < w12.heap.size := by omega
  have hm0_1 : w.heap.size + 1 < w12.heap.size := by omega
  have hBB1_12 := bnext hBB1_11 hb12 (Nat.le_refl _)
  clear hc1 hf1; obtain ⟨hc1, hf1⟩ := bcell hBB1_12
  have hm1_0 : w4.heap.size < w12.heap.size := by omega
  have oh := ho12.b
  have rh := oh.rdB encI_len
  clear ho12
  clear oh
  go_wp2_with fail
  refine (eqIntS_any _ _ _ _ _ (rf.mono (by omega)) (rh.mono (by omega))).mono ?_; rintro e w13 ⟨rfl, hb13⟩
  have s13 := hb13.size
  replace rc := rc.keep hb13 (by omega)
  replace ra := ra.keep hb13 (by omega)
  replace rb := rb.keep hb13 (by omega)
  replace rd := rd.keep hb13 (by omega)
  replace re := re.keep hb13 (by omega)
  replace rf := rf.keep hb13 (by omega)
  replace rg := rg.keep hb13 (by omega)
  replace rh := rh.keep hb13 (by omega)
  have hB13 := bnext hB12 hb13 (Nat.le_refl _)
  have hBB0_13 := bnext hBB0_12 hb13 (Nat.le_refl _)
  clear hc0 hf0; obtain ⟨hc0, hf0⟩ := bcell hBB0_13
  have hm0_0 : w.heap.size < w13.heap.size := by omega
  have hm0_1 : w.heap.size + 1 < w13.heap.size := by omega
  have hBB1_13 := bnext hBB1_12 hb13 (Nat.le_refl _)
  clear hc1 hf1; obtain ⟨hc1, hf1⟩ := bcell hBB1_13
  have hm1_0 : w4.heap.size < w13.heap.size := by omega
  go_wp2_with fail
  go_ret
  exact ⟨rfl, hB13⟩
namespace fnExactArrivalOf
set_option maxRecDepth 100000 in
theorem lifted (os : Os) (started : os.Started) (H : Type) (enc : TypeId × Value → H) :
    ReturnsInHanded {} Try.checked os 7 .any (Rows.fnExactArrivalOfSpec.pre6 enc Try.prog Try.f7 Rows.fnExactArrivalOfRow.domain false) (Rows.fnExactArrivalOfSpec.post enc Try.prog Try.f7 false true false false) := by
  refine returnsInHanded_of_change (C := Try.checked) own started (by kernel_rfl) Try.func7
    (ChangeSpec.witness6 (enc := enc) (C := Try.checked) false ⟨#[], #[.agg #[.slice none 0 0, .slice none 0 0], .agg #[.string ⟨#[]⟩, .int .i64 0, .int .i64 0, .int .i64 0, .int .i64 0, .bool false], .slice none 0 0, .slice none 0 0], []⟩ 8 (by kernel_rfl) (by kernel_rfl) (by kernel_rfl) (by kernel_rfl)) ?_
  intro W base args ds gs before hval0 hW hcnd _
  have hval : ∀ (j : Nat) t v, Try.f7.params[j]? = some t → args[j]? = some v → Value.okWide Try.prog W .any base t v := hval0
  have hW' := hW
  obtain ⟨p, q, hA0, hV, hbef, hfz, hnd⟩ := hW
  have hA : DataW.TrodAll enc Try.prog W 0 (fun _ => true) true Try.f7.params.toList args.toList ds p := hA0
  rw [Try.params7] at hA hval
  obtain ⟨v0, vs0, d0, ds0, p0, q0, hargs, rfl, hp0, h0, r0⟩ := trodAll_cons hA
  obtain ⟨v1, vs1, d1, ds1, p1, q1, rfl, rfl, hp1, h1, r1⟩ := trodAll_cons r0
  obtain ⟨v2, vs2, d2, ds2, p2, q2, rfl, rfl, hp2, h2, r2⟩ := trodAll_cons r1
  obtain ⟨v3, vs3, d3, ds3, p3, q3, rfl, rfl, hp3, h3, r3⟩ := trodAll_cons r2
  obtain ⟨rfl, rfl, hpn⟩ := trodAll_nil r3
  obtain rfl : args = #[v0, v1, v2, v3] := by cases args; simp_all
  obtain ⟨rfl, rfl⟩ := trodVars_none hV
  obtain ⟨b0, c0, a0, rfl, g0, w0, x0⟩ := openChart (hval 0 25 v0 rfl rfl) h0
  obtain ⟨a1, rfl, w1⟩ := openShip (hval 1 27 v1 rfl rfl) h1
  obtain ⟨a2, g2, w2⟩ := open_rowsI Try.underlying52 Try.underlying3 (by kernel_rfl) (hval 2 52 v2 rfl rfl) h2
  obtain ⟨a3, g3, w3⟩ := open_rowsI Try.underlying52 Try.underlying3 (by kernel_rfl) (hval 3 52 v3 rfl rfl) h3
  refine (FnExactArrivalOf_walk W b0 c0 a0 g0 w0 x0 a1 w1 _ a2 g2 w2 _ a3 g3 w3).mono fun e W' ⟨he, hg⟩ => ?_
  subst he
  exact ⟨_, rfl, post_law laidOut (by kernel_rfl) rfl Try.underlying4 rfl ⟨rfl, rfl, rfl⟩ hW' hg⟩
theorem proved : Rows.FnExactArrivalOfSaid :=
  OpenClaim.holds_of_wide 7 Try.f7 rfl rfl rfl rfl rfl rfl rfl ⟨rfl, rfl, rfl, rfl, rfl⟩ rfl rfl rfl rfl rfl (by kernel_rfl) Try.func7 (by kernel_rfl)
    (of_decide_eq_true (by kernel_rfl)) (by unfold Func.isWrapper; first | (rw [if_pos (by decide +kernel)]; kernel_rfl) | (rw [if_neg (by decide +kernel)]; exact ⟨rfl, rfl⟩))
    (fun os started H enc _ => lifted os started H enc)
end fnExactArrivalOf
end Go.Proofs.Ytefidlecandnlaa
