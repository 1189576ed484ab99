/- The law FnExactLockPlanOk: for every input it returns true and leaves its arguments as they were. No condition. -/
import Derived.Test.YtjmffhpfmfmnlaaPlan3
import Derived.Test.YtjmffhpfmfmnlaaLockMark
import Derived.Test.YtjmffhpfmfmnlaaLaw2
namespace Go.Proofs.Ytjmffhpfmfmnlaa
open Go.RowKit Go.WideShapes Go.ChangeShapes Go.ChangeAt Go.Joins Go.Deep
set_option linter.unusedVariables false
set_option maxRecDepth 100000 in
set_option maxHeartbeats 4000000 in
theorem FnExactLockPlanOk_walk (w : World) (k0 k1 k2 : Int) (hwk0 : (Lit.int .i64 k0).wf = true) (hwk1 : (Lit.int .i64 k1).wf = true) (hwk2 : (Lit.int .i64 k2).wf = true) (vf : Value) (f : List ShipD) (rf : RdShip w vf f) (hokf : ∀ x ∈ f, x.ok) (va : Value) (a : List LockR) (ra : RdLk w w.heap.size va a) (hoka : ∀ r ∈ a, (Lit.int .i64 r.start).wf = true ∧ ∀ x ∈ r.ships, (Lit.int .i64 x).wf = true) :
    Calls Try.prog 9 #[.agg #[.int .i64 k0, .int .i64 k1, .int .i64 k2], vf, va] w fun e w' => e = .returned (.bool true) ∧ Below w.heap.size w w' := by
  go_enter Try.func9, Try.ntmps9
  go_wp2_with fail
  generalize hW0 : (w.alloc (.cells #[.int .i64 k0, .int .i64 k1, .int .i64 k2] 23)) = W0
  have hB0 : Below w.heap.size w W0 := by rw [← hW0]; exact (by repeat (first | exact Below.refl _ _ | assumption | refine Below.setCell ?_ (by first | omega | (simp <;> omega)) _ | refine Below.alloc ?_ (by first | omega | (simp <;> omega)) _ | refine below_drewN ?_ _ | refine Below.drew ?_ | refine Below.trans ?_ (Below.mono (by assumption) (by first | omega | (simp <;> omega)))))
  have hl0 : w.heap.size < W0.heap.size := by rw [← hW0]; simp <;> omega
  have hx0_0 : W0.cell? ⟨w.heap.size, 0, none⟩ = some (.int .i64 k0) := by rw [← hW0]; simp [go_sem]
  have hx0_1 : W0.cell? ⟨w.heap.size, 1, none⟩ = some (.int .i64 k1) := by rw [← hW0]; simp [go_sem]
  have hx0_2 : W0.cell? ⟨w.heap.size, 2, none⟩ = some (.int .i64 k2) := by rw [← hW0]; simp [go_sem]
  have s0 := hB0.size
  clear hW0
  replace rf := rf.keep hB0 (by omega)
  replace ra := ra.keep hB0 (by omega)
  have hBB0 := Below.refl W0.heap.size W0
  obtain ⟨hc0, hf0⟩ := bcell hBB0
  go_wp2_with fail
  refine (szShipS_any _ _ 1048576 _ (rf.mono (by omega)) (fun x hx => ShipD.ok_size (hokf x hx)) (by omega) (by omega)).mono ?_; rintro e w1 ⟨z1, rfl, hz1, hm1, hb1⟩
  have s1 := hb1.size
  replace rf := rf.keep hb1 (by omega)
  replace ra := ra.keep hb1 (by omega)
  have hB1 := bnext hB0 hb1 (Nat.le_refl _)
  have hBB0_1 := bnext hBB0 hb1 (Nat.le_refl _)
  clear hc0 hf0; obtain ⟨hc0, hf0⟩ := bcell hBB0_1
  have hm0_0 : w.heap.size < w1.heap.size := by omega
  by_cases hn1 : z1 < 0
  · clear hz1
    go_wp2_with fail
    go_ret
    exact ⟨rfl, hB1⟩
  obtain ⟨p1, q1⟩ := hz1 (by omega)
  go_wp2_with fail
  refine (szLockingS_any _ _ z1 _ (ra.mono (by omega)) (by omega) (by omega)).mono ?_; rintro e w2 ⟨z2, rfl, hz2, hm2, hb2⟩
  have s2 := hb2.size
  replace rf := rf.keep hb2 (by omega)
  replace ra := ra.keep hb2 (by omega)
  have hB2 := bnext hB1 hb2 (Nat.le_refl _)
  have hBB0_2 := bnext hBB0_1 hb2 (Nat.le_refl _)
  clear hc0 hf0; obtain ⟨hc0, hf0⟩ := bcell hBB0_2
  have hm0_0 : w.heap.size < w2.heap.size := by omega
  by_cases hn2 : z2 < 0
  · clear hz2
    go_wp2_with fail
    go_ret
    exact ⟨rfl, hB2⟩
  obtain ⟨p2, q2⟩ := hz2 (by omega)
  obtain ⟨qa0, qa1⟩ := q2
  have qa2 : ∀ r ∈ a, r.ships.length ≤ 1048576 := fun r hr => Nat.le_trans (lkTotal_mem hr) qa1
  go_wp2_with fail
  refine (toChamber_any _ _ _ _).mono ?_; rintro e w3 ⟨rfl, hb3⟩
  have s3 := hb3.size
  replace rf := rf.keep hb3 (by omega)
  replace ra := ra.keep hb3 (by omega)
  have hB3 := bnext hB2 hb3 (Nat.le_refl _)
  have hBB0_3 := bnext hBB0_2 hb3 (Nat.le_refl _)
  clear hc0 hf0; obtain ⟨hc0, hf0⟩ := bcell hBB0_3
  have hm0_0 : w.heap.size < w3.heap.size := by omega
  go_wp2_with fail
  refine (toShipS_any _ _ _ (rf.mono (by omega)) (by omega)).mono ?_; rintro e w4 ⟨v4, rfl, ho4, hb4⟩
  have s4 := hb4.size
  replace rf := rf.keep hb4 (by omega)
  replace ra := ra.keep hb4 (by omega)
  have hB4 := bnext hB3 hb4 (Nat.le_refl _)
  have hBB0_4 := bnext hBB0_3 hb4 (Nat.le_refl _)
  clear hc0 hf0; obtain ⟨hc0, hf0⟩ := bcell hBB0_4
  have hm0_0 : w.heap.size < w4.heap.size := by omega
  have on := ho4.b
  have rn := on.rdB ShipD.enc_len
  clear ho4
  clear on
  go_wp2_with fail
  refine (toLockingS_any _ a _ (ra.mono (by omega)) (by omega) qa2).mono ?_; rintro e w5 ⟨v5, c, rfl, ho5, hdc, hb5⟩
  have s5 := hb5.size
  replace rf := rf.keep hb5 (by omega)
  replace ra := ra.keep hb5 (by omega)
  replace rn := rn.keep hb5 (by omega)
  have hB5 := bnext hB4 hb5 (Nat.le_refl _)
  have hBB0_5 := bnext hBB0_4 hb5 (Nat.le_refl _)
  clear hc0 hf0; obtain ⟨hc0, hf0⟩ := bcell hBB0_5
  have hm0_0 : w.heap.size < w5.heap.size := by omega
  have rc := ho5.rd
  clear ho5
  have qc1 : lkTotal c ≤ 1048576 := by rw [lkTotal_d hdc]; exact qa1
  have qc2 : ∀ r ∈ c, r.ships.length ≤ 1048576 := fun r hr => Nat.le_trans (lkTotal_mem hr) qc1
  have qc3 : c.length = a.length := by have := congrArg List.length hdc; simpa using this
  go_wp2_with fail
  refine (spec_LockPlanOk_any k0 k1 k2 _ _ f c _ (rn.mono (by omega)) (rc.mono (by omega)) hokf qc2).mono ?_; rintro e w6 ⟨rfl, hb6⟩
  have s6 := hb6.size
  replace rf := rf.keep hb6 (by omega)
  replace ra := ra.keep hb6 (by omega)
  replace rn := rn.keep hb6 (by omega)
  replace rc := rc.keep hb6 (by omega)
  have hB6 := bnext hB5 hb6 (Nat.le_refl _)
  have hBB0_6 := bnext hBB0_5 hb6 (Nat.le_refl _)
  clear hc0 hf0; obtain ⟨hc0, hf0⟩ := bcell hBB0_6
  have hm0_0 : w.heap.size < w6.heap.size := by omega
  clear rn
  clear rc
  rw [hdc]
  go_wp2_with fail
  refine (toShipS_any _ _ _ (rf.mono (by omega)) (by omega)).mono ?_; rintro e w7 ⟨v7, rfl, ho7, hb7⟩
  have s7 := hb7.size
  replace rf := rf.keep hb7 (by omega)
  replace ra := ra.keep hb7 (by omega)
  have hB7 := bnext hB6 hb7 (Nat.le_refl _)
  have hBB0_7 := bnext hBB0_6 hb7 (Nat.le_refl _)
  clear hc0 hf0; obtain ⟨hc0, hf0⟩ := bcell hBB0_7
  have hm0_0 : w.heap.size < w7.heap.size := by omega
  have od := ho7.b
  have rd := od.rdB ShipD.enc_len
  clear ho7
  clear od
  go_wp2_with fail
  refine (toLockingS_any _ a _ (ra.mono (by omega)) (by omega) qa2).mono ?_; rintro e w8 ⟨v8, e, rfl, ho8, hde, hb8⟩
  have s8 := hb8.size
  replace rf := rf.keep hb8 (by omega)
  replace ra := ra.keep hb8 (by omega)
  replace rd := rd.keep hb8 (by omega)
  have hB8 := bnext hB7 hb8 (Nat.le_refl _)
  have hBB0_8 := bnext hBB0_7 hb8 (Nat.le_refl _)
  clear hc0 hf0; obtain ⟨hc0, hf0⟩ := bcell hBB0_8
  have hm0_0 : w.heap.size < w8.heap.size := by omega
  have re := ho8.rd
  clear ho8
  have qe1 : lkTotal e ≤ 1048576 := by rw [lkTotal_d hde]; exact qa1
  have qe2 : ∀ r ∈ e, r.ships.length ≤ 1048576 := fun r hr => Nat.le_trans (lkTotal_mem hr) qe1
  have qe3 : e.length = a.length := by have := congrArg List.length hde; simpa using this
  go_wp2_with fail
  refine (toChamber_any _ _ _ _).mono ?_; rintro e w9 ⟨rfl, hb9⟩
  have s9 := hb9.size
  replace rf := rf.keep hb9 (by omega)
  replace ra := ra.keep hb9 (by omega)
  replace rd := rd.keep hb9 (by omega)
  replace re := re.keep hb9 (by omega)
  have hB9 := bnext hB8 hb9 (Nat.le_refl _)
  have hBB0_9 := bnext hBB0_8 hb9 (Nat.le_refl _)
  clear hc0 hf0; obtain ⟨hc0, hf0⟩ := bcell hBB0_9
  have hm0_0 : w.heap.size < w9.heap.size := by omega
  go_wp2_with fail
  refine (impl_LockPlanOk_any k0 k1 k2 _ _ f e _ (rd.mono (by omega)) (re.mono (by omega)) hokf qe2).mono ?_; rintro e w10 ⟨rfl, hb10⟩
  have s10 := hb10.size
  replace rf := rf.keep hb10 (by omega)
  replace ra := ra.keep hb10 (by omega)
  replace rd := rd.keep hb10 (by omega)
  replace re := re.keep hb10 (by omega)
  have hB10 := bnext hB9 hb10 (Nat.le_refl _)
  have hBB0_10 := bnext hBB0_9 hb10 (Nat.le_refl _)
  clear hc0 hf0; obtain ⟨hc0, hf0⟩ := bcell hBB0_10
  have hm0_0 : w.heap.size < w10.heap.size := by omega
  rw [hde]
  go_wp2_with fail
  refine (toShipS_any _ _ _ (rf.mono (by omega)) (by omega)).mono ?_; rintro e w11 ⟨v11, rfl, ho11, hb11⟩
  have s11 := hb11.size
  replace rf := rf.keep hb11 (by omega)
  replace ra := ra.keep hb11 (by omega)
  replace rd := rd.keep hb11 (by omega)
  replace re := re.keep hb11 (by omega)
  have hB11 := bnext hB10 hb11 (Nat.le_refl _)
  have hBB0_11 := bnext hBB0_10 hb11 (Nat.le_refl _)
  clear hc0 hf0; obtain ⟨hc0, hf0⟩ := bcell hBB0_11
  have hm0_0 : w.heap.size < w11.heap.size := by omega
  have og := ho11.b
  have rg := og.rdB ShipD.enc_len
  clear ho11
  clear og
  go_wp2_with fail
  refine (eqShipS_any _ _ _ _ _ (rd.mono (by omega)) (rg.mono (by omega))).mono ?_; rintro e w12 ⟨rfl, hb12⟩
  have s12 := hb12.size
  replace rf := rf.keep hb12 (by omega)
  replace ra := ra.keep hb12 (by omega)
  replace rd := rd.keep hb12 (by omega)
  replace re := re.keep hb12 (by omega)
  replace rg := rg.keep hb12 (by omega)
  have hB12 := bnext hB11 hb12 (Nat.le_refl _)
  have hBB0_12 := bnext hBB0_11 hb12 (Nat.le_refl _)
  clear hc0 hf0; obtain ⟨hc0, hf0⟩ := bcell hBB0_12
  have hm0_0 : w.heap.size < w12.heap.size := by omega
  go_wp2_with fail
  refine (toLockingS_any _ a _ (ra.mono (by omega)) (by omega) qa2).mono ?_; rintro e w13 ⟨v13, h, rfl, ho13, hdh, hb13⟩
  have s13 := hb13.size
  replace rf := rf.keep hb13 (by omega)
  replace ra := ra.keep hb13 (by omega)
  replace rd := rd.keep hb13 (by omega)
  replace re := re.keep hb13 (by omega)
  replace rg := rg.keep hb13 (by omega)
  have hB13 := bnext hB12 hb13 (Nat.le_refl _)
  have hBB0_13 := bnext hBB0_12 hb13 (Nat.le_refl _)
  clear hc0 hf0; obtain ⟨hc0, hf0⟩ := bcell hBB0_13
  have hm0_0 : w.heap.size < w13.heap.size := by omega
  have rh := ho13.rd
  clear ho13
  have qh1 : lkTotal h ≤ 1048576 := by rw [lkTotal_d hdh]; exact qa1
  have qh2 : ∀ r ∈ h, r.ships.length ≤ 1048576 := fun r hr => Nat.le_trans (lkTotal_mem hr) qh1
  have qh3 : h.length = a.length := by have := congrArg List.length hdh; simpa using this
  go_wp2_with fail
  refine (eqLockingS_any _ _ e h _ (re.mono (by omega)) (rh.mono (by omega))).mono ?_; rintro e w14 ⟨rfl, hb14⟩
  have s14 := hb14.size
  replace rf := rf.keep hb14 (by omega)
  replace ra := ra.keep hb14 (by omega)
  replace rd := rd.keep hb14 (by omega)
  replace re := re.keep hb14 (by omega)
  replace rg := rg.keep hb14 (by omega)
  replace rh := rh.keep hb14 (by omega)
  have hB14 := bnext hB13 hb14 (Nat.le_refl _)
  have hBB0_14 := bnext hBB0_13 hb14 (Nat.le_refl _)
  clear hc0 hf0; obtain ⟨hc0, hf0⟩ := bcell hBB0_14
  have hm0_0 : w.heap.size < w14.heap.size := by omega
  rw [hde, hdh, decide_eq_true rfl]
  go_wp2_with fail
  go_ret
  exact ⟨rfl, hB14⟩
namespace fnExactLockPlanOk
set_option maxRecDepth 100000 in
theorem lifted (os : Os) (started : os.Started) (H : Type) (enc : TypeId × Value → H) :
    ReturnsInHanded {} Try.checked os 9 .any (Rows.fnExactLockPlanOkSpec.pre6 enc Try.prog Try.f9 Rows.fnExactLockPlanOkRow.domain false) (Rows.fnExactLockPlanOkSpec.post enc Try.prog Try.f9 false true false false) := by
  refine returnsInHanded_of_change (C := Try.checked) own started (by kernel_rfl) Try.func9
    (ChangeSpec.witness6 (enc := enc) (C := Try.checked) false ⟨#[], #[.agg #[.int .i64 0, .int .i64 0, .int .i64 0], .slice none 0 0, .slice none 0 0], []⟩ 8 (by kernel_rfl) (by kernel_rfl) (by kernel_rfl) (by kernel_rfl)) ?_
  intro W base args ds gs before hval0 hW hcnd _
  have hval : ∀ (j : Nat) t v, Try.f9.params[j]? = some t → args[j]? = some v → Value.okWide Try.prog W .any base t v := hval0
  have hW' := hW
  obtain ⟨p, q, hA0, hV, hbef, hfz, hnd⟩ := hW
  have hA : DataW.TrodAll enc Try.prog W 0 (fun _ => true) true Try.f9.params.toList args.toList ds p := hA0
  rw [Try.params9] at hA hval
  obtain ⟨v0, vs0, d0, ds0, p0, q0, hargs, rfl, hp0, h0, r0⟩ := trodAll_cons hA
  obtain ⟨v1, vs1, d1, ds1, p1, q1, rfl, rfl, hp1, h1, r1⟩ := trodAll_cons r0
  obtain ⟨v2, vs2, d2, ds2, p2, q2, rfl, rfl, hp2, h2, r2⟩ := trodAll_cons r1
  obtain ⟨rfl, rfl, hpn⟩ := trodAll_nil r2
  obtain rfl : args = #[v0, v1, v2] := by cases args; simp_all
  obtain ⟨rfl, rfl⟩ := trodVars_none hV
  obtain ⟨cs0, rfl, hl0, hf0⟩ := open_struct Try.underlying23 (by kernel_rfl) (by kernel_rfl) (hval 0 23 v0 rfl rfl) h0
  obtain ⟨c0_0, c0_1, c0_2, rfl⟩ := list3 hl0
  obtain ⟨u0_0, y0_0, m0_0, g0_0, hy0_0⟩ := hf0 0 _ rfl
  have g0_0 := Option.some.inj g0_0; subst g0_0
  obtain ⟨a0_0, e0_0, -, w0_0⟩ := DataW.trod_int Try.underlying3 hy0_0
  simp only [List.cons.injEq, and_true] at e0_0; subst e0_0
  obtain ⟨u0_1, y0_1, m0_1, g0_1, hy0_1⟩ := hf0 1 _ rfl
  have g0_1 := Option.some.inj g0_1; subst g0_1
  obtain ⟨a0_1, e0_1, -, w0_1⟩ := DataW.trod_int Try.underlying3 hy0_1
  simp only [List.cons.injEq, and_true] at e0_1; subst e0_1
  obtain ⟨u0_2, y0_2, m0_2, g0_2, hy0_2⟩ := hf0 2 _ rfl
  have g0_2 := Option.some.inj g0_2; subst g0_2
  obtain ⟨a0_2, e0_2, -, w0_2⟩ := DataW.trod_int Try.underlying3 hy0_2
  simp only [List.cons.injEq, and_true] at e0_2; subst e0_2
  obtain ⟨a1, g1, w1⟩ := openShipS (hval 1 44 v1 rfl rfl) h1
  obtain ⟨a2, g2, w2⟩ := openLockingS (hval 2 45 v2 rfl rfl) h2
  refine (FnExactLockPlanOk_walk W a0_0 a0_1 a0_2 w0_0 w0_1 w0_2 _ a1 g1 w1 _ a2 g2 w2).mono fun e W' ⟨he, hg⟩ => ?_
  subst he
  exact ⟨_, rfl, post_law laidOut (by kernel_rfl) rfl Try.underlying4 rfl ⟨rfl, rfl, rfl⟩ hW' hg⟩
theorem proved : Rows.FnExactLockPlanOkSaid :=
  OpenClaim.holds_of_wide 9 Try.f9 rfl rfl rfl rfl rfl rfl rfl ⟨rfl, rfl, rfl, rfl, rfl⟩ rfl rfl rfl rfl rfl (by kernel_rfl) Try.func9 (by kernel_rfl)
    (of_decide_eq_true (by kernel_rfl)) (by unfold Func.isWrapper; first | (rw [if_pos (by decide +kernel)]; kernel_rfl) | (rw [if_neg (by decide +kernel)]; exact ⟨rfl, rfl⟩))
    (fun os started H enc _ => lifted os started H enc)
end fnExactLockPlanOk
end Go.Proofs.Ytjmffhpfmfmnlaa
