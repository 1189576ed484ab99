/- The law FnExactNextTurn: for every input it returns true and leaves its arguments as they were. No condition. -/
import Derived.Test.YtigdmppbbeakgaaLockFn
namespace Go.Proofs.Ytigdmppbbeakgaa
open Go.RowKit Go.WideShapes Go.ChangeShapes Go.ChangeAt Go.Joins Go.Deep
set_option linter.unusedVariables false
set_option maxRecDepth 100000 in
set_option maxHeartbeats 4000000 in
theorem FnExactNextTurn_walk (w : World) (k0 k1 k2 : Int) (hwk0 : (Lit.int .i64 k0).wf = true) (hwk1 : (Lit.int .i64 k1).wf = true) (hwk2 : (Lit.int .i64 k2).wf = true) (va : Value) (a : List LockR) (ra : RdLk w w.heap.size va a) (hoka : ∀ r ∈ a, (Lit.int .i64 r.start).wf = true ∧ ∀ x ∈ r.ships, (Lit.int .i64 x).wf = true) (u : Bool) (s : Int) (hws : (Lit.int .i64 s).wf = true) :
    Calls Try.prog 14 #[.agg #[.int .i64 k0, .int .i64 k1, .int .i64 k2], va, .bool u, .int .i64 s] w fun e w' => e = .returned (.bool true) ∧ Below w.heap.size w w' := by
  go_enter Try.func14, Try.ntmps14
  go_wp2_with fail
  generalize hW0 : (w.alloc (.cells #[.int .i64 k0, .int .i64 k1, .int .i64 k2] 37)) = W0
  have hB0 : Below w.heap.size w W0 := by rw [← hW0]; exact (by repeat (first | exact Below.refl _ _ | assumption | refine Below.setCell ?_ (by first | omega | (simp <;> omega)) _ | refine Below.alloc ?_ (by first | omega | (simp <;> omega)) _ | refine below_drewN ?_ _ | refine Below.drew ?_ | refine Below.trans ?_ (Below.mono (by assumption) (by first | omega | (simp <;> omega)))))
  have hl0 : w.heap.size < W0.heap.size := by rw [← hW0]; simp <;> omega
  have hx0_0 : W0.cell? ⟨w.heap.size, 0, none⟩ = some (.int .i64 k0) := by rw [← hW0]; simp
  have hx0_1 : W0.cell? ⟨w.heap.size, 1, none⟩ = some (.int .i64 k1) := by rw [← hW0]; simp
  have hx0_2 : W0.cell? ⟨w.heap.size, 2, none⟩ = some (.int .i64 k2) := by rw [← hW0]; simp
  have s0 := hB0.size
  clear hW0
  replace ra := ra.keep hB0 (by omega)
  have hBB0 := Below.refl W0.heap.size W0
  obtain ⟨hc, hf⟩ := bcell hBB0
  go_wp2_with fail
  refine (szLockingS_any _ _ 1048576 _ (ra.mono (by omega)) (by omega) (by omega)).mono ?_; rintro e w1 ⟨z1, rfl, hz1, hm1, hb1⟩
  have s1 := hb1.size
  replace ra := ra.keep hb1 (by omega)
  have hB1 := bnext hB0 hb1 (Nat.le_refl _)
  have hBB1 := bnext hBB0 hb1 (Nat.le_refl _)
  clear hc hf
  obtain ⟨hc, hf⟩ := bcell hBB1
  have hm0 : w.heap.size < w1.heap.size := by omega
  by_cases hn1 : z1 < 0
  · clear hz1
    go_wp2_with fail
    go_ret
    exact ⟨rfl, hB1⟩
  obtain ⟨p1, q1⟩ := hz1 (by omega)
  obtain ⟨qa0, qa1⟩ := q1
  have qa2 : ∀ r ∈ a, r.ships.length ≤ 1048576 := fun r hr => Nat.le_trans (lkTotal_mem hr) qa1
  go_wp2_with fail
  refine (toChamber_any _ _ _ _).mono ?_; rintro e w2 ⟨rfl, hb2⟩
  have s2 := hb2.size
  replace ra := ra.keep hb2 (by omega)
  have hB2 := bnext hB1 hb2 (Nat.le_refl _)
  have hBB2 := bnext hBB1 hb2 (Nat.le_refl _)
  clear hc hf
  obtain ⟨hc, hf⟩ := bcell hBB2
  have hm0 : w.heap.size < w2.heap.size := by omega
  go_wp2_with fail
  refine (toLockingS_any _ a _ (ra.mono (by omega)) (by omega) qa2).mono ?_; rintro e w3 ⟨v3, c, rfl, ho3, hdc, hb3⟩
  have s3 := hb3.size
  replace ra := ra.keep hb3 (by omega)
  have hB3 := bnext hB2 hb3 (Nat.le_refl _)
  have hBB3 := bnext hBB2 hb3 (Nat.le_refl _)
  clear hc hf
  obtain ⟨hc, hf⟩ := bcell hBB3
  have hm0 : w.heap.size < w3.heap.size := by omega
  have rc := ho3.rd
  clear ho3
  go_wp2_with fail
  refine (spec_NextTurn_any _ _ _ _ c _ _ _ (rc.mono (by omega))).mono ?_; rintro e w4 ⟨rfl, hb4⟩
  have s4 := hb4.size
  replace ra := ra.keep hb4 (by omega)
  replace rc := rc.keep hb4 (by omega)
  have hB4 := bnext hB3 hb4 (Nat.le_refl _)
  have hBB4 := bnext hBB3 hb4 (Nat.le_refl _)
  clear hc hf
  obtain ⟨hc, hf⟩ := bcell hBB4
  have hm0 : w.heap.size < w4.heap.size := by omega
  rw [hdc]
  clear rc
  go_wp2_with fail
  refine (toLockingS_any _ a _ (ra.mono (by omega)) (by omega) qa2).mono ?_; rintro e w5 ⟨v5, d, rfl, ho5, hdd, hb5⟩
  have s5 := hb5.size
  replace ra := ra.keep hb5 (by omega)
  have hB5 := bnext hB4 hb5 (Nat.le_refl _)
  have hBB5 := bnext hBB4 hb5 (Nat.le_refl _)
  clear hc hf
  obtain ⟨hc, hf⟩ := bcell hBB5
  have hm0 : w.heap.size < w5.heap.size := by omega
  have rd := ho5.rd
  clear ho5
  go_wp2_with fail
  refine (toChamber_any _ _ _ _).mono ?_; rintro e w6 ⟨rfl, hb6⟩
  have s6 := hb6.size
  replace ra := ra.keep hb6 (by omega)
  replace rd := rd.keep hb6 (by omega)
  have hB6 := bnext hB5 hb6 (Nat.le_refl _)
  have hBB6 := bnext hBB5 hb6 (Nat.le_refl _)
  clear hc hf
  obtain ⟨hc, hf⟩ := bcell hBB6
  have hm0 : w.heap.size < w6.heap.size := by omega
  go_wp2_with fail
  refine (impl_NextTurn_any _ _ _ _ d _ _ _ (rd.mono (by omega))).mono ?_; rintro e w7 ⟨rfl, hb7⟩
  have s7 := hb7.size
  replace ra := ra.keep hb7 (by omega)
  replace rd := rd.keep hb7 (by omega)
  have hB7 := bnext hB6 hb7 (Nat.le_refl _)
  have hBB7 := bnext hBB6 hb7 (Nat.le_refl _)
  clear hc hf
  obtain ⟨hc, hf⟩ := bcell hBB7
  have hm0 : w.heap.size < w7.heap.size := by omega
  rw [hdd]
  go_wp2_with fail
  refine (toLockingS_any _ a _ (ra.mono (by omega)) (by omega) qa2).mono ?_; rintro e w8 ⟨v8, e, rfl, ho8, hde, hb8⟩
  have s8 := hb8.size
  replace ra := ra.keep hb8 (by omega)
  replace rd := rd.keep hb8 (by omega)
  have hB8 := bnext hB7 hb8 (Nat.le_refl _)
  have hBB8 := bnext hBB7 hb8 (Nat.le_refl _)
  clear hc hf
  obtain ⟨hc, hf⟩ := bcell hBB8
  have hm0 : w.heap.size < w8.heap.size := by omega
  have re := ho8.rd
  clear ho8
  go_wp2_with fail
  refine (eqLockingS_any _ _ d e _ (rd.mono (by omega)) (re.mono (by omega))).mono ?_; rintro e w9 ⟨rfl, hb9⟩
  have s9 := hb9.size
  replace ra := ra.keep hb9 (by omega)
  replace rd := rd.keep hb9 (by omega)
  replace re := re.keep hb9 (by omega)
  have hB9 := bnext hB8 hb9 (Nat.le_refl _)
  have hBB9 := bnext hBB8 hb9 (Nat.le_refl _)
  clear hc hf
  obtain ⟨hc, hf⟩ := bcell hBB9
  have hm0 : w.heap.size < w9.heap.size := by omega
  rw [hdd, hde, decide_eq_true rfl]
  go_wp2_with fail
  go_ret
  exact ⟨rfl, hB9⟩
namespace fnExactNextTurn
set_option maxRecDepth 100000 in
theorem lifted (os : Os) (started : os.Started) (H : Type) (enc : TypeId × Value → H) :
    ReturnsInHanded {} Try.checked os 14 .any (Rows.fnExactNextTurnSpec.pre6 enc Try.prog Try.f14 Rows.fnExactNextTurnRow.domain false) (Rows.fnExactNextTurnSpec.post enc Try.prog Try.f14 false true false false) := by
  refine returnsInHanded_of_change (C := Try.checked) own started (by kernel_rfl) Try.func14
    (ChangeSpec.witness6 (enc := enc) (C := Try.checked) false ⟨#[], #[.agg #[.int .i64 0, .int .i64 0, .int .i64 0], .slice none 0 0, .bool false, .int .i64 0], []⟩ 8 (by kernel_rfl) (by kernel_rfl) (by kernel_rfl) (by kernel_rfl)) ?_
  intro W base args ds gs before hval0 hW hcnd _
  have hval : ∀ (j : Nat) t v, Try.f14.params[j]? = some t → args[j]? = some v → Value.okWide Try.prog W .any base t v := hval0
  have hW' := hW
  obtain ⟨p, q, hA0, hV, hbef, hfz, hnd⟩ := hW
  have hA : DataW.TrodAll enc Try.prog W 0 (fun _ => true) true Try.f14.params.toList args.toList ds p := hA0
  rw [Try.params14] at hA hval
  obtain ⟨v0, vs0, d0, ds0, p0, q0, hargs, rfl, hp0, h0, r0⟩ := trodAll_cons hA
  obtain ⟨v1, vs1, d1, ds1, p1, q1, rfl, rfl, hp1, h1, r1⟩ := trodAll_cons r0
  obtain ⟨v2, vs2, d2, ds2, p2, q2, rfl, rfl, hp2, h2, r2⟩ := trodAll_cons r1
  obtain ⟨v3, vs3, d3, ds3, p3, q3, rfl, rfl, hp3, h3, r3⟩ := trodAll_cons r2
  obtain ⟨rfl, rfl, hpn⟩ := trodAll_nil r3
  obtain rfl : args = #[v0, v1, v2, v3] := by cases args; simp_all
  obtain ⟨rfl, rfl⟩ := trodVars_none hV
  obtain ⟨cs0, rfl, hl0, hf0⟩ := open_struct Try.underlying37 (by kernel_rfl) (by kernel_rfl) (hval 0 37 v0 rfl rfl) h0
  obtain ⟨c0_0, c0_1, c0_2, rfl⟩ := list3 hl0
  obtain ⟨u0_0, y0_0, m0_0, g0_0, hy0_0⟩ := hf0 0 _ rfl
  have g0_0 := Option.some.inj g0_0; subst g0_0
  obtain ⟨a0_0, e0_0, -, w0_0⟩ := DataW.trod_int Try.underlying3 hy0_0
  simp only [List.cons.injEq, and_true] at e0_0; subst e0_0
  obtain ⟨u0_1, y0_1, m0_1, g0_1, hy0_1⟩ := hf0 1 _ rfl
  have g0_1 := Option.some.inj g0_1; subst g0_1
  obtain ⟨a0_1, e0_1, -, w0_1⟩ := DataW.trod_int Try.underlying3 hy0_1
  simp only [List.cons.injEq, and_true] at e0_1; subst e0_1
  obtain ⟨u0_2, y0_2, m0_2, g0_2, hy0_2⟩ := hf0 2 _ rfl
  have g0_2 := Option.some.inj g0_2; subst g0_2
  obtain ⟨a0_2, e0_2, -, w0_2⟩ := DataW.trod_int Try.underlying3 hy0_2
  simp only [List.cons.injEq, and_true] at e0_2; subst e0_2
  obtain ⟨a1, g1, w1⟩ := openLockingS (hval 1 53 v1 rfl rfl) h1
  obtain ⟨a2, rfl, -, -⟩ := open_bool Try.underlying4 (hval 2 4 v2 rfl rfl) h2
  obtain ⟨a3, rfl, -, -, w3⟩ := open_int Try.underlying3 (hval 3 3 v3 rfl rfl) h3
  refine (FnExactNextTurn_walk W a0_0 a0_1 a0_2 w0_0 w0_1 w0_2 _ a1 g1 w1 a2 a3 w3).mono fun e W' ⟨he, hg⟩ => ?_
  subst he
  exact ⟨_, rfl, post_law laidOut (by kernel_rfl) rfl Try.underlying4 rfl ⟨rfl, rfl, rfl⟩ hW' hg⟩
theorem proved : Rows.FnExactNextTurnSaid :=
  OpenClaim.holds_of_wide 14 Try.f14 rfl rfl rfl rfl rfl rfl rfl ⟨rfl, rfl, rfl, rfl, rfl⟩ rfl rfl rfl rfl rfl (by kernel_rfl) Try.func14 (by kernel_rfl)
    (of_decide_eq_true (by kernel_rfl)) (by unfold Func.isWrapper; first | (rw [if_pos (by decide +kernel)]; kernel_rfl) | (rw [if_neg (by decide +kernel)]; exact ⟨rfl, rfl⟩))
    (fun os started H enc _ => lifted os started H enc)
end fnExactNextTurn
end Go.Proofs.Ytigdmppbbeakgaa
