/- The law FnExactMostShips: for every input it returns true and leaves its arguments as they were. No condition. -/
import Derived.Test.YtjmffhpfmfmnlaaMostW
import Derived.Test.YtjmffhpfmfmnlaaLaw2
namespace Go.Proofs.Ytjmffhpfmfmnlaa
open Go.RowKit Go.WideShapes Go.ChangeShapes Go.ChangeAt Go.Joins Go.Deep
set_option linter.unusedVariables false
set_option maxRecDepth 100000 in
set_option maxHeartbeats 4000000 in
theorem FnExactMostShips_walk (w : World) (k0 k1 k2 : Int) (hwk0 : (Lit.int .i64 k0).wf = true) (hwk1 : (Lit.int .i64 k1).wf = true) (hwk2 : (Lit.int .i64 k2).wf = true) (va : Value) (a : List Int) (ra : RdI w va a) (hoka : ∀ x ∈ a, (Lit.int .i64 x).wf = true) :
    Calls Try.prog 7 #[.agg #[.int .i64 k0, .int .i64 k1, .int .i64 k2], va] w fun e w' => e = .returned (.bool true) ∧ Below w.heap.size w w' := by
  obtain ⟨Aa, ca, rfl, hca, hma, hha⟩ : ∃ Az cz, va = .slice Az a.length cz ∧ a.length ≤ cz ∧ cz ≤ maxLen ∧ RdI w (.slice Az a.length cz) a := by obtain ⟨Az, cz, rfl, hc, hm, h⟩ := ra; exact ⟨Az, cz, rfl, hc, hm, ⟨Az, cz, rfl, hc, hm, h⟩⟩
  unfold maxLen at hma
  replace ra := hha; clear hha
  go_enter Try.func7, Try.ntmps7
  by_cases hbiga : (1048576 : Int) < (a.length : Int)
  · go_wp2_with fail
    go_ret
    exact ⟨rfl, (by repeat (first | exact Below.refl _ _ | assumption | refine Below.setCell ?_ (by first | omega | (simp <;> omega)) _ | refine Below.alloc ?_ (by first | omega | (simp <;> omega)) _ | refine below_drewN ?_ _ | refine Below.drew ?_ | refine Below.trans ?_ (Below.mono (by assumption) (by first | omega | (simp <;> omega)))))⟩
  have hbiga' : (a.length : Int) ≤ 1048576 := by omega
  have hlena : a.length ≤ 1048576 := by omega
  clear hbiga
  go_wp2_with fail
  generalize hW0 : (w.alloc (.cells #[.int .i64 k0, .int .i64 k1, .int .i64 k2] 23)) = W0
  have hB0 : Below w.heap.size w W0 := by rw [← hW0]; exact (by repeat (first | exact Below.refl _ _ | assumption | refine Below.setCell ?_ (by first | omega | (simp <;> omega)) _ | refine Below.alloc ?_ (by first | omega | (simp <;> omega)) _ | refine below_drewN ?_ _ | refine Below.drew ?_ | refine Below.trans ?_ (Below.mono (by assumption) (by first | omega | (simp <;> omega)))))
  have hl0 : w.heap.size < W0.heap.size := by rw [← hW0]; simp <;> omega
  have hx0_0 : W0.cell? ⟨w.heap.size, 0, none⟩ = some (.int .i64 k0) := by rw [← hW0]; simp [go_sem]
  have hx0_1 : W0.cell? ⟨w.heap.size, 1, none⟩ = some (.int .i64 k1) := by rw [← hW0]; simp [go_sem]
  have hx0_2 : W0.cell? ⟨w.heap.size, 2, none⟩ = some (.int .i64 k2) := by rw [← hW0]; simp [go_sem]
  have s0 := hB0.size
  clear hW0
  replace ra := ra.keep hB0 (by omega)
  have hBB0 := Below.refl W0.heap.size W0
  obtain ⟨hc0, hf0⟩ := bcell hBB0
  go_wp2_with fail
  refine (toChamber_any _ _ _ _).mono ?_; rintro e w1 ⟨rfl, hb1⟩
  have s1 := hb1.size
  replace ra := ra.keep hb1 (by omega)
  have hB1 := bnext hB0 hb1 (Nat.le_refl _)
  have hBB0_1 := bnext hBB0 hb1 (Nat.le_refl _)
  clear hc0 hf0; obtain ⟨hc0, hf0⟩ := bcell hBB0_1
  have hm0_0 : w.heap.size < w1.heap.size := by omega
  go_wp2_with fail
  refine (toIntS_any _ _ _ (ra.mono (by omega)) (by omega)).mono ?_; rintro e w2 ⟨v2, rfl, ho2, hb2⟩
  have s2 := hb2.size
  replace ra := ra.keep hb2 (by omega)
  have hB2 := bnext hB1 hb2 (Nat.le_refl _)
  have hBB0_2 := bnext hBB0_1 hb2 (Nat.le_refl _)
  clear hc0 hf0; obtain ⟨hc0, hf0⟩ := bcell hBB0_2
  have hm0_0 : w.heap.size < w2.heap.size := by omega
  have oc := ho2.b
  have rc := oc.rdB encI_len
  clear ho2
  clear oc
  go_wp2_with fail
  refine (spec_MostShips_any k0 k1 k2 _ a _ (rc.mono (by omega))).mono ?_; rintro e w3 ⟨rfl, hb3⟩
  have s3 := hb3.size
  replace ra := ra.keep hb3 (by omega)
  replace rc := rc.keep hb3 (by omega)
  have hB3 := bnext hB2 hb3 (Nat.le_refl _)
  have hBB0_3 := bnext hBB0_2 hb3 (Nat.le_refl _)
  clear hc0 hf0; obtain ⟨hc0, hf0⟩ := bcell hBB0_3
  have hm0_0 : w.heap.size < w3.heap.size := by omega
  clear rc
  go_wp2_with fail
  refine (toIntS_any _ _ _ (ra.mono (by omega)) (by omega)).mono ?_; rintro e w4 ⟨v4, rfl, ho4, hb4⟩
  have s4 := hb4.size
  replace ra := ra.keep hb4 (by omega)
  have hB4 := bnext hB3 hb4 (Nat.le_refl _)
  have hBB0_4 := bnext hBB0_3 hb4 (Nat.le_refl _)
  clear hc0 hf0; obtain ⟨hc0, hf0⟩ := bcell hBB0_4
  have hm0_0 : w.heap.size < w4.heap.size := by omega
  have oe := ho4.b
  have re := oe.rdB encI_len
  clear ho4
  clear oe
  go_wp2_with fail
  refine (toChamber_any _ _ _ _).mono ?_; rintro e w5 ⟨rfl, hb5⟩
  have s5 := hb5.size
  replace ra := ra.keep hb5 (by omega)
  replace re := re.keep hb5 (by omega)
  have hB5 := bnext hB4 hb5 (Nat.le_refl _)
  have hBB0_5 := bnext hBB0_4 hb5 (Nat.le_refl _)
  clear hc0 hf0; obtain ⟨hc0, hf0⟩ := bcell hBB0_5
  have hm0_0 : w.heap.size < w5.heap.size := by omega
  go_wp2_with fail
  refine (impl_MostShips_any k0 k1 k2 _ a _ (re.mono (by omega))).mono ?_; rintro e w6 ⟨rfl, hb6⟩
  have s6 := hb6.size
  replace ra := ra.keep hb6 (by omega)
  replace re := re.keep hb6 (by omega)
  have hB6 := bnext hB5 hb6 (Nat.le_refl _)
  have hBB0_6 := bnext hBB0_5 hb6 (Nat.le_refl _)
  clear hc0 hf0; obtain ⟨hc0, hf0⟩ := bcell hBB0_6
  have hm0_0 : w.heap.size < w6.heap.size := by omega
  go_wp2_with fail
  refine (toIntS_any _ _ _ (ra.mono (by omega)) (by omega)).mono ?_; rintro e w7 ⟨v7, rfl, ho7, hb7⟩
  have s7 := hb7.size
  replace ra := ra.keep hb7 (by omega)
  replace re := re.keep hb7 (by omega)
  have hB7 := bnext hB6 hb7 (Nat.le_refl _)
  have hBB0_7 := bnext hBB0_6 hb7 (Nat.le_refl _)
  clear hc0 hf0; obtain ⟨hc0, hf0⟩ := bcell hBB0_7
  have hm0_0 : w.heap.size < w7.heap.size := by omega
  have og := ho7.b
  have rg := og.rdB encI_len
  clear ho7
  clear og
  go_wp2_with fail
  refine (eqIntS_any _ _ _ _ _ (re.mono (by omega)) (rg.mono (by omega))).mono ?_; rintro e w8 ⟨rfl, hb8⟩
  have s8 := hb8.size
  replace ra := ra.keep hb8 (by omega)
  replace re := re.keep hb8 (by omega)
  replace rg := rg.keep hb8 (by omega)
  have hB8 := bnext hB7 hb8 (Nat.le_refl _)
  have hBB0_8 := bnext hBB0_7 hb8 (Nat.le_refl _)
  clear hc0 hf0; obtain ⟨hc0, hf0⟩ := bcell hBB0_8
  have hm0_0 : w.heap.size < w8.heap.size := by omega
  go_wp2_with fail
  go_ret
  exact ⟨rfl, hB8⟩
namespace fnExactMostShips
set_option maxRecDepth 100000 in
theorem lifted (os : Os) (started : os.Started) (H : Type) (enc : TypeId × Value → H) :
    ReturnsInHanded {} Try.checked os 7 .any (Rows.fnExactMostShipsSpec.pre6 enc Try.prog Try.f7 Rows.fnExactMostShipsRow.domain false) (Rows.fnExactMostShipsSpec.post enc Try.prog Try.f7 false true false false) := by
  refine returnsInHanded_of_change (C := Try.checked) own started (by kernel_rfl) Try.func7
    (ChangeSpec.witness6 (enc := enc) (C := Try.checked) false ⟨#[], #[.agg #[.int .i64 0, .int .i64 0, .int .i64 0], .slice none 0 0], []⟩ 8 (by kernel_rfl) (by kernel_rfl) (by kernel_rfl) (by kernel_rfl)) ?_
  intro W base args ds gs before hval0 hW hcnd _
  have hval : ∀ (j : Nat) t v, Try.f7.params[j]? = some t → args[j]? = some v → Value.okWide Try.prog W .any base t v := hval0
  have hW' := hW
  obtain ⟨p, q, hA0, hV, hbef, hfz, hnd⟩ := hW
  have hA : DataW.TrodAll enc Try.prog W 0 (fun _ => true) true Try.f7.params.toList args.toList ds p := hA0
  rw [Try.params7] at hA hval
  obtain ⟨v0, vs0, d0, ds0, p0, q0, hargs, rfl, hp0, h0, r0⟩ := trodAll_cons hA
  obtain ⟨v1, vs1, d1, ds1, p1, q1, rfl, rfl, hp1, h1, r1⟩ := trodAll_cons r0
  obtain ⟨rfl, rfl, hpn⟩ := trodAll_nil r1
  obtain rfl : args = #[v0, v1] := by cases args; simp_all
  obtain ⟨rfl, rfl⟩ := trodVars_none hV
  obtain ⟨cs0, rfl, hl0, hf0⟩ := open_struct Try.underlying23 (by kernel_rfl) (by kernel_rfl) (hval 0 23 v0 rfl rfl) h0
  obtain ⟨c0_0, c0_1, c0_2, rfl⟩ := list3 hl0
  obtain ⟨u0_0, y0_0, m0_0, g0_0, hy0_0⟩ := hf0 0 _ rfl
  have g0_0 := Option.some.inj g0_0; subst g0_0
  obtain ⟨a0_0, e0_0, -, w0_0⟩ := DataW.trod_int Try.underlying3 hy0_0
  simp only [List.cons.injEq, and_true] at e0_0; subst e0_0
  obtain ⟨u0_1, y0_1, m0_1, g0_1, hy0_1⟩ := hf0 1 _ rfl
  have g0_1 := Option.some.inj g0_1; subst g0_1
  obtain ⟨a0_1, e0_1, -, w0_1⟩ := DataW.trod_int Try.underlying3 hy0_1
  simp only [List.cons.injEq, and_true] at e0_1; subst e0_1
  obtain ⟨u0_2, y0_2, m0_2, g0_2, hy0_2⟩ := hf0 2 _ rfl
  have g0_2 := Option.some.inj g0_2; subst g0_2
  obtain ⟨a0_2, e0_2, -, w0_2⟩ := DataW.trod_int Try.underlying3 hy0_2
  simp only [List.cons.injEq, and_true] at e0_2; subst e0_2
  obtain ⟨a1, g1, w1⟩ := open_rowsI Try.underlying24 Try.underlying3 (by kernel_rfl) (hval 1 24 v1 rfl rfl) h1
  refine (FnExactMostShips_walk W a0_0 a0_1 a0_2 w0_0 w0_1 w0_2 _ a1 g1 w1).mono fun e W' ⟨he, hg⟩ => ?_
  subst he
  exact ⟨_, rfl, post_law laidOut (by kernel_rfl) rfl Try.underlying4 rfl ⟨rfl, rfl, rfl⟩ hW' hg⟩
theorem proved : Rows.FnExactMostShipsSaid :=
  OpenClaim.holds_of_wide 7 Try.f7 rfl rfl rfl rfl rfl rfl rfl ⟨rfl, rfl, rfl, rfl, rfl⟩ rfl rfl rfl rfl rfl (by kernel_rfl) Try.func7 (by kernel_rfl)
    (of_decide_eq_true (by kernel_rfl)) (by unfold Func.isWrapper; first | (rw [if_pos (by decide +kernel)]; kernel_rfl) | (rw [if_neg (by decide +kernel)]; exact ⟨rfl, rfl⟩))
    (fun os started H enc _ => lifted os started H enc)
end fnExactMostShips
end Go.Proofs.Ytjmffhpfmfmnlaa
