/- The law FnExactGap: for every input it returns true and leaves its arguments as they were. No condition. -/
import Derived.Test.YtdbpgfbbkejljaaDuty
import Derived.Test.YtdbpgfbbkejljaaLaw2
namespace Go.Proofs.Ytdbpgfbbkejljaa
open Go.RowKit Go.WideShapes Go.ChangeShapes Go.ChangeAt Go.Joins Go.Deep
set_option linter.unusedVariables false
set_option maxRecDepth 100000 in
set_option maxHeartbeats 4000000 in
theorem FnExactGap_walk (w : World) (p : Int) (hwp : (Lit.int .i64 p).wf = true) (va : Value) (a : List Int) (ra : RdI w va a) (hoka : ∀ x ∈ a, (Lit.int .i64 x).wf = true) (x : DutyD) (hokx : x.ok) (y : DutyD) (hoky : y.ok) :
    Calls Try.prog 4 #[.int .i64 p, va, x.val, y.val] w fun e w' => e = .returned (.bool true) ∧ Below w.heap.size w w' := by
  obtain ⟨Aa, ca, rfl, hca, hma, hha⟩ : ∃ A c, va = .slice A a.length c ∧ a.length ≤ c ∧ c ≤ maxLen ∧ RdI w (.slice A a.length c) a := by obtain ⟨A, c, rfl, hc, hm, h⟩ := ra; exact ⟨A, c, rfl, hc, hm, ⟨A, c, rfl, hc, hm, h⟩⟩
  unfold maxLen at hma
  replace ra := hha; clear hha
  go_enter Try.func4, Try.ntmps4
  by_cases hbiga : (1048576 : Int) < (a.length : Int)
  · go_wp2_with fail
    go_ret
    exact ⟨rfl, (by repeat (first | exact Below.refl _ _ | assumption | refine Below.setCell ?_ (by first | omega | (simp <;> omega)) _ | refine Below.alloc ?_ (by first | omega | (simp <;> omega)) _ | refine below_drewN ?_ _ | refine Below.drew ?_ | refine Below.trans ?_ (Below.mono (by assumption) (by first | omega | (simp <;> omega)))))⟩
  have hbiga' : (a.length : Int) ≤ 1048576 := by omega
  have hlena : a.length ≤ 1048576 := by omega
  clear hbiga
  go_wp2_with fail
  generalize hW0 : ((w.alloc (.cells #[.int .i64 x.start, .int .i64 x.fin, .int .i64 x.a, .int .i64 x.b] 31)).alloc (.cells #[.int .i64 y.start, .int .i64 y.fin, .int .i64 y.a, .int .i64 y.b] 31)) = W0
  have hB0 : Below w.heap.size w W0 := by rw [← hW0]; exact (by repeat (first | exact Below.refl _ _ | assumption | refine Below.setCell ?_ (by first | omega | (simp <;> omega)) _ | refine Below.alloc ?_ (by first | omega | (simp <;> omega)) _ | refine below_drewN ?_ _ | refine Below.drew ?_ | refine Below.trans ?_ (Below.mono (by assumption) (by first | omega | (simp <;> omega)))))
  have hl0 : w.heap.size < W0.heap.size := by rw [← hW0]; simp <;> omega
  have hx0_0 : W0.cell? ⟨w.heap.size, 0, none⟩ = some (.int .i64 x.start) := by rw [← hW0]; simp
  have hx0_1 : W0.cell? ⟨w.heap.size, 1, none⟩ = some (.int .i64 x.fin) := by rw [← hW0]; simp
  have hx0_2 : W0.cell? ⟨w.heap.size, 2, none⟩ = some (.int .i64 x.a) := by rw [← hW0]; simp
  have hx0_3 : W0.cell? ⟨w.heap.size, 3, none⟩ = some (.int .i64 x.b) := by rw [← hW0]; simp
  have hl1 : w.heap.size + 1 < W0.heap.size := by rw [← hW0]; simp <;> omega
  have hx1_0 : W0.cell? ⟨w.heap.size + 1, 0, none⟩ = some (.int .i64 y.start) := by rw [← hW0]; simp
  have hx1_1 : W0.cell? ⟨w.heap.size + 1, 1, none⟩ = some (.int .i64 y.fin) := by rw [← hW0]; simp
  have hx1_2 : W0.cell? ⟨w.heap.size + 1, 2, none⟩ = some (.int .i64 y.a) := by rw [← hW0]; simp
  have hx1_3 : W0.cell? ⟨w.heap.size + 1, 3, none⟩ = some (.int .i64 y.b) := by rw [← hW0]; simp
  have s0 := hB0.size
  clear hW0
  replace ra := ra.keep hB0 (by omega)
  have hBB0 := Below.refl W0.heap.size W0
  obtain ⟨hc, hf⟩ := bcell hBB0
  have hy0_0 : W0.cell? ⟨w.heap.size, 0, none⟩ = some (.int .i64 x.start) := by rw [hBB0.cell (p := ⟨w.heap.size, 0, none⟩) (by omega)]; exact hx0_0
  have hy0_1 : W0.cell? ⟨w.heap.size, 1, none⟩ = some (.int .i64 x.fin) := by rw [hBB0.cell (p := ⟨w.heap.size, 1, none⟩) (by omega)]; exact hx0_1
  have hy0_2 : W0.cell? ⟨w.heap.size, 2, none⟩ = some (.int .i64 x.a) := by rw [hBB0.cell (p := ⟨w.heap.size, 2, none⟩) (by omega)]; exact hx0_2
  have hy0_3 : W0.cell? ⟨w.heap.size, 3, none⟩ = some (.int .i64 x.b) := by rw [hBB0.cell (p := ⟨w.heap.size, 3, none⟩) (by omega)]; exact hx0_3
  have hy1_0 : W0.cell? ⟨w.heap.size + 1, 0, none⟩ = some (.int .i64 y.start) := by rw [hBB0.cell (p := ⟨w.heap.size + 1, 0, none⟩) (by omega)]; exact hx1_0
  have hy1_1 : W0.cell? ⟨w.heap.size + 1, 1, none⟩ = some (.int .i64 y.fin) := by rw [hBB0.cell (p := ⟨w.heap.size + 1, 1, none⟩) (by omega)]; exact hx1_1
  have hy1_2 : W0.cell? ⟨w.heap.size + 1, 2, none⟩ = some (.int .i64 y.a) := by rw [hBB0.cell (p := ⟨w.heap.size + 1, 2, none⟩) (by omega)]; exact hx1_2
  have hy1_3 : W0.cell? ⟨w.heap.size + 1, 3, none⟩ = some (.int .i64 y.b) := by rw [hBB0.cell (p := ⟨w.heap.size + 1, 3, none⟩) (by omega)]; exact hx1_3
  clear hc hf
  have hlw : w.heap.size + 1 < W0.heap.size := by omega
  go_wp2_with fail
  go_region_held3 (fun w' => w'.cell? ⟨w.heap.size, 0, none⟩ = some (.int .i64 x.start) ∧ w'.cell? ⟨w.heap.size, 1, none⟩ = some (.int .i64 x.fin) ∧ w'.cell? ⟨w.heap.size, 2, none⟩ = some (.int .i64 x.a) ∧ w'.cell? ⟨w.heap.size, 3, none⟩ = some (.int .i64 x.b) ∧ w'.cell? ⟨w.heap.size + 1, 0, none⟩ = some (.int .i64 y.start) ∧ w'.cell? ⟨w.heap.size + 1, 1, none⟩ = some (.int .i64 y.fin) ∧ w'.cell? ⟨w.heap.size + 1, 2, none⟩ = some (.int .i64 y.a) ∧ w'.cell? ⟨w.heap.size + 1, 3, none⟩ = some (.int .i64 y.b) ∧ w.heap.size + 1 < w'.heap.size ∧ Below W0.heap.size W0 w')
    (((repeat' apply And.intro) <;> first | assumption | omega | (rw [hc _ _ (by omega)]; assumption) | (simp [*]; done) | exact Below.drew (Below.refl _ _)))
    (first | (go_at_call 16; obtain ⟨g0_0, g0_1, g0_2, g0_3, g1_0, g1_1, g1_2, g1_3, hlz, hBz⟩ := (by with_reducible assumption : _ ∧ _); refine (toIntS_at _ a _ ((ra.keep hBz (by omega)).mono (by have := hBz.size; omega)) (by omega)).mono ?_; rintro e wz ⟨rfl, ho, hb'⟩; obtain ⟨hc, hf⟩ := bcell hb'; have hzz := hb'.size; have hBz := bnext hBz hb' (Nat.le_refl _); (try replace hr0 := Rd.below hr0 hb'); have hr0 := Own.rd encI_len ho) | (go_at_call 17; obtain ⟨g0_0, g0_1, g0_2, g0_3, g1_0, g1_1, g1_2, g1_3, hlz, hBz⟩ := (by with_reducible assumption : _ ∧ _); refine (toDuty_any _ _ _ _ _).mono ?_; rintro e wz ⟨rfl, hb'⟩; obtain ⟨hc, hf⟩ := bcell hb'; have hzz := hb'.size; have hBz := bnext hBz hb' (Nat.le_refl _); (try replace hr0 := Rd.below hr0 hb')) | (go_at_call 15; obtain ⟨g0_0, g0_1, g0_2, g0_3, g1_0, g1_1, g1_2, g1_3, hlz, hBz⟩ := (by with_reducible assumption : _ ∧ _); refine (spec_Gap_any _ _ a _ _ _ _ _ _ _ _ _ hr0).mono ?_; rintro e wz ⟨rfl, hb'⟩; obtain ⟨hc, hf⟩ := bcell hb'; have hzz := hb'.size; have hBz := bnext hBz hb' (Nat.le_refl _); (try replace hr0 := Rd.below hr0 hb')))
  rename World => w1
  have hb1 := hBz
  clear hc hf hBz
  have s1 := hb1.size
  replace ra := ra.keep hb1 (by omega)
  have hB1 := bnext hB0 hb1 (Nat.le_refl _)
  have hBB1 := bnext hBB0 hb1 (Nat.le_refl _)
  obtain ⟨hc, hf⟩ := bcell hBB1
  have hm0 : w.heap.size < w1.heap.size := by omega
  have hm1 : w.heap.size + 1 < w1.heap.size := by omega
  go_wp2_with fail
  refine (toIntS_any _ _ _ (ra.mono (by omega)) (by omega)).mono ?_; rintro e w2 ⟨v2, rfl, ho2, hb2⟩
  have s2 := hb2.size
  replace ra := ra.keep hb2 (by omega)
  have hB2 := bnext hB1 hb2 (Nat.le_refl _)
  have hBB2 := bnext hBB1 hb2 (Nat.le_refl _)
  clear hc hf; obtain ⟨hc, hf⟩ := bcell hBB2
  have hm0 : w.heap.size < w2.heap.size := by omega
  have hm1 : w.heap.size + 1 < w2.heap.size := by omega
  have od := ho2.b
  have rd := od.rdB encI_len
  clear ho2
  clear od
  have hy0_0 : w2.cell? ⟨w.heap.size, 0, none⟩ = some (.int .i64 x.start) := by rw [hBB2.cell (p := ⟨w.heap.size, 0, none⟩) (by omega)]; exact hx0_0
  have hy0_1 : w2.cell? ⟨w.heap.size, 1, none⟩ = some (.int .i64 x.fin) := by rw [hBB2.cell (p := ⟨w.heap.size, 1, none⟩) (by omega)]; exact hx0_1
  have hy0_2 : w2.cell? ⟨w.heap.size, 2, none⟩ = some (.int .i64 x.a) := by rw [hBB2.cell (p := ⟨w.heap.size, 2, none⟩) (by omega)]; exact hx0_2
  have hy0_3 : w2.cell? ⟨w.heap.size, 3, none⟩ = some (.int .i64 x.b) := by rw [hBB2.cell (p := ⟨w.heap.size, 3, none⟩) (by omega)]; exact hx0_3
  have hy1_0 : w2.cell? ⟨w.heap.size + 1, 0, none⟩ = some (.int .i64 y.start) := by rw [hBB2.cell (p := ⟨w.heap.size + 1, 0, none⟩) (by omega)]; exact hx1_0
  have hy1_1 : w2.cell? ⟨w.heap.size + 1, 1, none⟩ = some (.int .i64 y.fin) := by rw [hBB2.cell (p := ⟨w.heap.size + 1, 1, none⟩) (by omega)]; exact hx1_1
  have hy1_2 : w2.cell? ⟨w.heap.size + 1, 2, none⟩ = some (.int .i64 y.a) := by rw [hBB2.cell (p := ⟨w.heap.size + 1, 2, none⟩) (by omega)]; exact hx1_2
  have hy1_3 : w2.cell? ⟨w.heap.size + 1, 3, none⟩ = some (.int .i64 y.b) := by rw [hBB2.cell (p := ⟨w.heap.size + 1, 3, none⟩) (by omega)]; exact hx1_3
  clear hc hf
  have hlw : w.heap.size + 1 < w2.heap.size := by omega
  go_wp2_with fail
  go_region_held3 (fun w' => w'.cell? ⟨w.heap.size, 0, none⟩ = some (.int .i64 x.start) ∧ w'.cell? ⟨w.heap.size, 1, none⟩ = some (.int .i64 x.fin) ∧ w'.cell? ⟨w.heap.size, 2, none⟩ = some (.int .i64 x.a) ∧ w'.cell? ⟨w.heap.size, 3, none⟩ = some (.int .i64 x.b) ∧ w'.cell? ⟨w.heap.size + 1, 0, none⟩ = some (.int .i64 y.start) ∧ w'.cell? ⟨w.heap.size + 1, 1, none⟩ = some (.int .i64 y.fin) ∧ w'.cell? ⟨w.heap.size + 1, 2, none⟩ = some (.int .i64 y.a) ∧ w'.cell? ⟨w.heap.size + 1, 3, none⟩ = some (.int .i64 y.b) ∧ w.heap.size + 1 < w'.heap.size ∧ Below w2.heap.size w2 w')
    (((repeat' apply And.intro) <;> first | assumption | omega | (rw [hc _ _ (by omega)]; assumption) | (simp [*]; done) | exact Below.drew (Below.refl _ _)))
    (first | (go_at_call 17; obtain ⟨g0_0, g0_1, g0_2, g0_3, g1_0, g1_1, g1_2, g1_3, hlz, hBz⟩ := (by with_reducible assumption : _ ∧ _); refine (toDuty_any _ _ _ _ _).mono ?_; rintro e wz ⟨rfl, hb'⟩; obtain ⟨hc, hf⟩ := bcell hb'; have hzz := hb'.size; have hBz := bnext hBz hb' (Nat.le_refl _)) | (go_at_call 18; obtain ⟨g0_0, g0_1, g0_2, g0_3, g1_0, g1_1, g1_2, g1_3, hlz, hBz⟩ := (by with_reducible assumption : _ ∧ _); refine (impl_Gap_any _ _ a _ _ _ _ _ _ _ _ _ ((rd.keep hBz (by omega)).mono (by have := hBz.size; omega))).mono ?_; rintro e wz ⟨rfl, hb'⟩; obtain ⟨hc, hf⟩ := bcell hb'; have hzz := hb'.size; have hBz := bnext hBz hb' (Nat.le_refl _)))
  rename World => w3
  have hb3 := hBz
  clear hc hf hBz
  have s3 := hb3.size
  replace ra := ra.keep hb3 (by omega)
  replace rd := rd.keep hb3 (by omega)
  have hB3 := bnext hB2 hb3 (Nat.le_refl _)
  have hBB3 := bnext hBB2 hb3 (Nat.le_refl _)
  obtain ⟨hc, hf⟩ := bcell hBB3
  have hm0 : w.heap.size < w3.heap.size := by omega
  have hm1 : w.heap.size + 1 < w3.heap.size := by omega
  go_wp2_with fail
  refine (toIntS_any _ _ _ (ra.mono (by omega)) (by omega)).mono ?_; rintro e w4 ⟨v4, rfl, ho4, hb4⟩
  have s4 := hb4.size
  replace ra := ra.keep hb4 (by omega)
  replace rd := rd.keep hb4 (by omega)
  have hB4 := bnext hB3 hb4 (Nat.le_refl _)
  have hBB4 := bnext hBB3 hb4 (Nat.le_refl _)
  clear hc hf; obtain ⟨hc, hf⟩ := bcell hBB4
  have hm0 : w.heap.size < w4.heap.size := by omega
  have hm1 : w.heap.size + 1 < w4.heap.size := by omega
  have oe := ho4.b
  have re := oe.rdB encI_len
  clear ho4
  clear oe
  go_wp2_with fail
  refine (eqIntS_any _ _ _ _ _ (rd.mono (by omega)) (re.mono (by omega))).mono ?_; rintro e w5 ⟨rfl, hb5⟩
  have s5 := hb5.size
  replace ra := ra.keep hb5 (by omega)
  replace rd := rd.keep hb5 (by omega)
  replace re := re.keep hb5 (by omega)
  have hB5 := bnext hB4 hb5 (Nat.le_refl _)
  have hBB5 := bnext hBB4 hb5 (Nat.le_refl _)
  clear hc hf; obtain ⟨hc, hf⟩ := bcell hBB5
  have hm0 : w.heap.size < w5.heap.size := by omega
  have hm1 : w.heap.size + 1 < w5.heap.size := by omega
  go_wp2_with fail
  go_ret
  exact ⟨rfl, hB5⟩
namespace fnExactGap
set_option maxRecDepth 100000 in
theorem lifted (os : Os) (started : os.Started) (H : Type) (enc : TypeId × Value → H) :
    ReturnsInHanded {} Try.checked os 4 .any (Rows.fnExactGapSpec.pre6 enc Try.prog Try.f4 Rows.fnExactGapRow.domain false) (Rows.fnExactGapSpec.post enc Try.prog Try.f4 false true false false) := by
  refine returnsInHanded_of_change (C := Try.checked) own started (by kernel_rfl) Try.func4
    (ChangeSpec.witness6 (enc := enc) (C := Try.checked) false ⟨#[], #[.int .i64 0, .slice none 0 0, .agg #[.int .i64 0, .int .i64 0, .int .i64 0, .int .i64 0], .agg #[.int .i64 0, .int .i64 0, .int .i64 0, .int .i64 0]], []⟩ 8 (by kernel_rfl) (by kernel_rfl) (by kernel_rfl) (by kernel_rfl)) ?_
  intro W base args ds gs before hval0 hW hcnd _
  have hval : ∀ (j : Nat) t v, Try.f4.params[j]? = some t → args[j]? = some v → Value.okWide Try.prog W .any base t v := hval0
  have hW' := hW
  obtain ⟨p, q, hA0, hV, hbef, hfz, hnd⟩ := hW
  have hA : DataW.TrodAll enc Try.prog W 0 (fun _ => true) true Try.f4.params.toList args.toList ds p := hA0
  rw [Try.params4] at hA hval
  obtain ⟨v0, vs0, d0, ds0, p0, q0, hargs, rfl, hp0, h0, r0⟩ := trodAll_cons hA
  obtain ⟨v1, vs1, d1, ds1, p1, q1, rfl, rfl, hp1, h1, r1⟩ := trodAll_cons r0
  obtain ⟨v2, vs2, d2, ds2, p2, q2, rfl, rfl, hp2, h2, r2⟩ := trodAll_cons r1
  obtain ⟨v3, vs3, d3, ds3, p3, q3, rfl, rfl, hp3, h3, r3⟩ := trodAll_cons r2
  obtain ⟨rfl, rfl, hpn⟩ := trodAll_nil r3
  obtain rfl : args = #[v0, v1, v2, v3] := by cases args; simp_all
  obtain ⟨rfl, rfl⟩ := trodVars_none hV
  obtain ⟨a0, rfl, -, -, w0⟩ := open_int Try.underlying3 (hval 0 3 v0 rfl rfl) h0
  obtain ⟨a1, g1, w1⟩ := open_rowsI Try.underlying29 Try.underlying3 (by kernel_rfl) (hval 1 29 v1 rfl rfl) h1
  obtain ⟨a2, rfl, w2⟩ := openDuty (hval 2 31 v2 rfl rfl) h2
  obtain ⟨a3, rfl, w3⟩ := openDuty (hval 3 31 v3 rfl rfl) h3
  refine (FnExactGap_walk W a0 w0 _ a1 g1 w1 a2 w2 a3 w3).mono fun e W' ⟨he, hg⟩ => ?_
  subst he
  exact ⟨_, rfl, post_law laidOut (by kernel_rfl) rfl Try.underlying4 rfl ⟨rfl, rfl, rfl⟩ hW' hg⟩
theorem proved : Rows.FnExactGapSaid :=
  OpenClaim.holds_of_wide 4 Try.f4 rfl rfl rfl rfl rfl rfl rfl ⟨rfl, rfl, rfl, rfl, rfl⟩ rfl rfl rfl rfl rfl (by kernel_rfl) Try.func4 (by kernel_rfl)
    (of_decide_eq_true (by kernel_rfl)) (by unfold Func.isWrapper; first | (rw [if_pos (by decide +kernel)]; kernel_rfl) | (rw [if_neg (by decide +kernel)]; exact ⟨rfl, rfl⟩))
    (fun os started H enc _ => lifted os started H enc)
end fnExactGap
end Go.Proofs.Ytdbpgfbbkejljaa
