/- The law FnExactPrefixLockings: for every input it returns true and leaves its arguments as they were. No condition. -/
import Derived.Test.YtjmffhpfmfmnlaaPrefix
import Derived.Test.YtjmffhpfmfmnlaaTou
import Derived.Test.YtjmffhpfmfmnlaaLaw2
namespace Go.Proofs.Ytjmffhpfmfmnlaa
open Go.RowKit Go.WideShapes Go.ChangeShapes Go.ChangeAt Go.Joins Go.Deep
set_option linter.unusedVariables false
set_option maxRecDepth 100000 in
set_option maxHeartbeats 4000000 in
theorem FnExactPrefixLockings_walk (w : World) (k0 k1 k2 : Int) (hwk0 : (Lit.int .i64 k0).wf = true) (hwk1 : (Lit.int .i64 k1).wf = true) (hwk2 : (Lit.int .i64 k2).wf = true) (va : Value) (a : List Int) (ra : RdI w va a) (hoka : ∀ x ∈ a, (Lit.int .i64 x).wf = true) :
    Calls Try.prog 5 #[.agg #[.int .i64 k0, .int .i64 k1, .int .i64 k2], va] w fun e w' => e = .returned (.bool true) ∧ Below w.heap.size w w' := by
  obtain ⟨Aa, ca, rfl, hca, hma, hha⟩ : ∃ Az cz, va = .slice Az a.length cz ∧ a.length ≤ cz ∧ cz ≤ maxLen ∧ RdI w (.slice Az a.length cz) a := by obtain ⟨Az, cz, rfl, hc, hm, h⟩ := ra; exact ⟨Az, cz, rfl, hc, hm, ⟨Az, cz, rfl, hc, hm, h⟩⟩
  unfold maxLen at hma
  replace ra := hha; clear hha
  go_enter Try.func5, Try.ntmps5
  by_cases hbiga : (1048576 : Int) < (a.length : Int)
  · go_wp2_with fail
    go_ret
    exact ⟨rfl, (by repeat (first | exact Below.refl _ _ | assumption | refine Below.setCell ?_ (by first | omega | (simp <;> omega)) _ | refine Below.alloc ?_ (by first | omega | (simp <;> omega)) _ | refine below_drewN ?_ _ | refine Below.drew ?_ | refine Below.trans ?_ (Below.mono (by assumption) (by first | omega | (simp <;> omega)))))⟩
  have hbiga' : (a.length : Int) ≤ 1048576 := by omega
  have hlena : a.length ≤ 1048576 := by omega
  clear hbiga
  go_wp2_with fail
  generalize hW0 : (w.alloc (.cells #[.int .i64 k0, .int .i64 k1, .int .i64 k2] 23)) = W0
  have hB0 : Below w.heap.size w W0 := by rw [← hW0]; exact (by repeat (first | exact Below.refl _ _ | assumption | refine Below.setCell ?_ (by first | omega | (simp <;> omega)) _ | refine Below.alloc ?_ (by first | omega | (simp <;> omega)) _ | refine below_drewN ?_ _ | refine Below.drew ?_ | refine Below.trans ?_ (Below.mono (by assumption) (by first | omega | (simp <;> omega)))))
  have hl0 : w.heap.size < W0.heap.size := by rw [← hW0]; simp <;> omega
  have hx0_0 : W0.cell? ⟨w.heap.size, 0, none⟩ = some (.int .i64 k0) := by rw [← hW0]; simp [go_sem]
  have hx0_1 : W0.cell? ⟨w.heap.size, 1, none⟩ = some (.int .i64 k1) := by rw [← hW0]; simp [go_sem]
  have hx0_2 : W0.cell? ⟨w.heap.size, 2, none⟩ = some (.int .i64 k2) := by rw [← hW0]; simp [go_sem]
  have s0 := hB0.size
  clear hW0
  replace ra := ra.keep hB0 (by omega)
  have hBB0 := Below.refl W0.heap.size W0
  obtain ⟨hc0, hf0⟩ := bcell hBB0
  have hLp := prefixLockings_len k0 k1 k2 a
  go_wp2_with fail
  refine (toChamber_any _ _ _ _).mono ?_; rintro e w1 ⟨rfl, hb1⟩
  have s1 := hb1.size
  replace ra := ra.keep hb1 (by omega)
  have hB1 := bnext hB0 hb1 (Nat.le_refl _)
  have hBB0_1 := bnext hBB0 hb1 (Nat.le_refl _)
  clear hc0 hf0; obtain ⟨hc0, hf0⟩ := bcell hBB0_1
  have hm0_0 : w.heap.size < w1.heap.size := by omega
  go_wp2_with fail
  refine (toIntS_any _ _ _ (ra.mono (by omega)) (by omega)).mono ?_; rintro e w2 ⟨v2, rfl, ho2, hb2⟩
  have s2 := hb2.size
  replace ra := ra.keep hb2 (by omega)
  have hB2 := bnext hB1 hb2 (Nat.le_refl _)
  have hBB0_2 := bnext hBB0_1 hb2 (Nat.le_refl _)
  clear hc0 hf0; obtain ⟨hc0, hf0⟩ := bcell hBB0_2
  have hm0_0 : w.heap.size < w2.heap.size := by omega
  have oc := ho2.b
  have rc := oc.rdB encI_len
  clear ho2
  clear oc
  go_wp2_with fail
  refine (spec_PrefixLockings_any k0 k1 k2 _ a _ (rc.mono (by omega))).mono ?_; rintro e w3 ⟨v3, rfl, ho3, hb3⟩
  have s3 := hb3.size
  replace ra := ra.keep hb3 (by omega)
  replace rc := rc.keep hb3 (by omega)
  have hB3 := bnext hB2 hb3 (Nat.le_refl _)
  have hBB0_3 := bnext hBB0_2 hb3 (Nat.le_refl _)
  clear hc0 hf0; obtain ⟨hc0, hf0⟩ := bcell hBB0_3
  have hm0_0 : w.heap.size < w3.heap.size := by omega
  have ox := ho3.b
  have rx := ox.rdB encI_len
  clear ho3
  clear rc
  go_wp2_with fail
  refine (toIntS_any _ _ _ (ra.mono (by omega)) (by omega)).mono ?_; rintro e w4 ⟨v4, rfl, ho4, hb4⟩
  have s4 := hb4.size
  replace ra := ra.keep hb4 (by omega)
  replace rx := rx.keep hb4 (by omega)
  replace ox := ox.keep hb4 (by omega)
  have hB4 := bnext hB3 hb4 (Nat.le_refl _)
  have hBB0_4 := bnext hBB0_3 hb4 (Nat.le_refl _)
  clear hc0 hf0; obtain ⟨hc0, hf0⟩ := bcell hBB0_4
  have hm0_0 : w.heap.size < w4.heap.size := by omega
  have oe := ho4.b
  have re := oe.rdB encI_len
  clear ho4
  go_wp2_with fail
  refine (toChamber_any _ _ _ _).mono ?_; rintro e w5 ⟨rfl, hb5⟩
  have s5 := hb5.size
  replace ra := ra.keep hb5 (by omega)
  replace rx := rx.keep hb5 (by omega)
  replace ox := ox.keep hb5 (by omega)
  replace re := re.keep hb5 (by omega)
  replace oe := oe.keep hb5 (by omega)
  have hB5 := bnext hB4 hb5 (Nat.le_refl _)
  have hBB0_5 := bnext hBB0_4 hb5 (Nat.le_refl _)
  clear hc0 hf0; obtain ⟨hc0, hf0⟩ := bcell hBB0_5
  have hm0_0 : w.heap.size < w5.heap.size := by omega
  go_wp2_with fail
  refine (impl_PrefixLockings_any k0 k1 k2 _ a _ (re.mono (by omega))).mono ?_; rintro e w6 ⟨v6, rfl, ho6, hb6⟩
  have s6 := hb6.size
  replace ra := ra.keep hb6 (by omega)
  replace rx := rx.keep hb6 (by omega)
  replace ox := ox.keep hb6 (by omega)
  replace re := re.keep hb6 (by omega)
  replace oe := oe.keep hb6 (by omega)
  have hB6 := bnext hB5 hb6 (Nat.le_refl _)
  have hBB0_6 := bnext hBB0_5 hb6 (Nat.le_refl _)
  clear hc0 hf0; obtain ⟨hc0, hf0⟩ := bcell hBB0_6
  have hm0_0 : w.heap.size < w6.heap.size := by omega
  have oy := ho6.b
  have ry := oy.rdB encI_len
  clear ho6
  go_wp2_with fail
  refine (eqIntS_any _ _ _ _ _ (ry.mono (by omega)) (rx.mono (by omega))).mono ?_; rintro e w7 ⟨rfl, hb7⟩
  have s7 := hb7.size
  replace ra := ra.keep hb7 (by omega)
  replace rx := rx.keep hb7 (by omega)
  replace ox := ox.keep hb7 (by omega)
  replace re := re.keep hb7 (by omega)
  replace oe := oe.keep hb7 (by omega)
  replace ry := ry.keep hb7 (by omega)
  replace oy := oy.keep hb7 (by omega)
  have hB7 := bnext hB6 hb7 (Nat.le_refl _)
  have hBB0_7 := bnext hBB0_6 hb7 (Nat.le_refl _)
  clear hc0 hf0; obtain ⟨hc0, hf0⟩ := bcell hBB0_7
  have hm0_0 : w.heap.size < w7.heap.size := by omega
  go_wp2_with fail
  refine (toIntS_any _ _ _ (ra.mono (by omega)) (by omega)).mono ?_; rintro e w8 ⟨v8, rfl, ho8, hb8⟩
  have s8 := hb8.size
  replace ra := ra.keep hb8 (by omega)
  replace rx := rx.keep hb8 (by omega)
  replace ox := ox.keep hb8 (by omega)
  replace re := re.keep hb8 (by omega)
  replace oe := oe.keep hb8 (by omega)
  replace ry := ry.keep hb8 (by omega)
  replace oy := oy.keep hb8 (by omega)
  have hB8 := bnext hB7 hb8 (Nat.le_refl _)
  have hBB0_8 := bnext hBB0_7 hb8 (Nat.le_refl _)
  clear hc0 hf0; obtain ⟨hc0, hf0⟩ := bcell hBB0_8
  have hm0_0 : w.heap.size < w8.heap.size := by omega
  have og := ho8.b
  have rg := og.rdB encI_len
  clear ho8
  clear og
  go_wp2_with fail
  refine (eqIntS_any _ _ _ _ _ (re.mono (by omega)) (rg.mono (by omega))).mono ?_; rintro e w9 ⟨rfl, hb9⟩
  have s9 := hb9.size
  replace ra := ra.keep hb9 (by omega)
  replace rx := rx.keep hb9 (by omega)
  replace ox := ox.keep hb9 (by omega)
  replace re := re.keep hb9 (by omega)
  replace oe := oe.keep hb9 (by omega)
  replace ry := ry.keep hb9 (by omega)
  replace oy := oy.keep hb9 (by omega)
  replace rg := rg.keep hb9 (by omega)
  have hB9 := bnext hB8 hb9 (Nat.le_refl _)
  have hBB0_9 := bnext hBB0_8 hb9 (Nat.le_refl _)
  clear hc0 hf0; obtain ⟨hc0, hf0⟩ := bcell hBB0_9
  have hm0_0 : w.heap.size < w9.heap.size := by omega
  clear rg
  go_wp2_with fail
  refine (markIntS_any _ _ _ _ _ oe.1 (by omega) (by omega) (by omega)).mono ?_; rintro e w10 ⟨rfl, ho10, hg10⟩
  have ht10 := Tou.grown hg10 (fun k hk => ⟨(World.ownsRow.lt oe.1 k hk).1, oe.2 k hk⟩)
  replace oe := oe.again ho10; clear ho10 hg10
  have s10 := ht10.size
  replace ox := ox.tou ht10 (by omega)
  replace oy := oy.tou ht10 (by omega)
  replace ra := ra.keep (ht10.below (by omega)) (by omega)
  replace rx := ox.rdB encI_len
  replace re := oe.rdB encI_len
  replace ry := oy.rdB encI_len
  have hB10 := hB9.trans ((ht10.below (by omega)).mono (by omega))
  have hBB0_10 := hBB0_9.trans ((ht10.below (by omega)).mono (by omega))
  clear hc0 hf0; obtain ⟨hc0, hf0⟩ := bcell hBB0_10
  have hm0_0 : w.heap.size < w10.heap.size := by omega
  clear re
  clear oe
  go_wp2_with fail
  refine (eqIntS_any _ _ _ _ _ (ry.mono (by omega)) (rx.mono (by omega))).mono ?_; rintro e w11 ⟨rfl, hb11⟩
  have s11 := hb11.size
  replace ra := ra.keep hb11 (by omega)
  replace rx := rx.keep hb11 (by omega)
  replace ox := ox.keep hb11 (by omega)
  replace ry := ry.keep hb11 (by omega)
  replace oy := oy.keep hb11 (by omega)
  have hB11 := bnext hB10 hb11 (Nat.le_refl _)
  have hBB0_11 := bnext hBB0_10 hb11 (Nat.le_refl _)
  clear hc0 hf0; obtain ⟨hc0, hf0⟩ := bcell hBB0_11
  have hm0_0 : w.heap.size < w11.heap.size := by omega
  go_wp2_with fail
  refine (markIntS_any _ _ _ _ _ oy.1 (by omega) (by omega) (by omega)).mono ?_; rintro e w12 ⟨rfl, ho12, hg12⟩
  have ht12 := Tou.grown hg12 (fun k hk => ⟨(World.ownsRow.lt oy.1 k hk).1, oy.2 k hk⟩)
  replace oy := oy.again ho12; clear ho12 hg12
  have s12 := ht12.size
  replace ox := ox.tou ht12 (by omega)
  replace ra := ra.keep (ht12.below (by omega)) (by omega)
  replace rx := ox.rdB encI_len
  replace ry := oy.rdB encI_len
  have hB12 := hB11.trans ((ht12.below (by omega)).mono (by omega))
  have hBB0_12 := hBB0_11.trans ((ht12.below (by omega)).mono (by omega))
  clear hc0 hf0; obtain ⟨hc0, hf0⟩ := bcell hBB0_12
  have hm0_0 : w.heap.size < w12.heap.size := by omega
  go_wp2_with fail
  refine (heldIntS_any _ _ _ _ (ry.mono (by omega)) (by omega) (by omega) (by omega)).mono ?_; rintro e w13 ⟨rfl, hb13⟩
  have s13 := hb13.size
  replace ra := ra.keep hb13 (by omega)
  replace rx := rx.keep hb13 (by omega)
  replace ox := ox.keep hb13 (by omega)
  replace ry := ry.keep hb13 (by omega)
  replace oy := oy.keep hb13 (by omega)
  have hB13 := bnext hB12 hb13 (Nat.le_refl _)
  have hBB0_13 := bnext hBB0_12 hb13 (Nat.le_refl _)
  clear hc0 hf0; obtain ⟨hc0, hf0⟩ := bcell hBB0_13
  have hm0_0 : w.heap.size < w13.heap.size := by omega
  go_wp2_with fail
  refine (toChamber_any _ _ _ _).mono ?_; rintro e w14 ⟨rfl, hb14⟩
  have s14 := hb14.size
  replace ra := ra.keep hb14 (by omega)
  replace rx := rx.keep hb14 (by omega)
  replace ox := ox.keep hb14 (by omega)
  replace ry := ry.keep hb14 (by omega)
  replace oy := oy.keep hb14 (by omega)
  have hB14 := bnext hB13 hb14 (Nat.le_refl _)
  have hBB0_14 := bnext hBB0_13 hb14 (Nat.le_refl _)
  clear hc0 hf0; obtain ⟨hc0, hf0⟩ := bcell hBB0_14
  have hm0_0 : w.heap.size < w14.heap.size := by omega
  go_wp2_with fail
  refine (toIntS_any _ _ _ (ra.mono (by omega)) (by omega)).mono ?_; rintro e w15 ⟨v15, rfl, ho15, hb15⟩
  have s15 := hb15.size
  replace ra := ra.keep hb15 (by omega)
  replace rx := rx.keep hb15 (by omega)
  replace ox := ox.keep hb15 (by omega)
  replace ry := ry.keep hb15 (by omega)
  replace oy := oy.keep hb15 (by omega)
  have hB15 := bnext hB14 hb15 (Nat.le_refl _)
  have hBB0_15 := bnext hBB0_14 hb15 (Nat.le_refl _)
  clear hc0 hf0; obtain ⟨hc0, hf0⟩ := bcell hBB0_15
  have hm0_0 : w.heap.size < w15.heap.size := by omega
  have oc := ho15.b
  have rc := oc.rdB encI_len
  clear ho15
  clear oc
  go_wp2_with fail
  refine (impl_PrefixLockings_any k0 k1 k2 _ a _ (rc.mono (by omega))).mono ?_; rintro e w16 ⟨v16, rfl, ho16, hb16⟩
  have s16 := hb16.size
  replace ra := ra.keep hb16 (by omega)
  replace rx := rx.keep hb16 (by omega)
  replace ox := ox.keep hb16 (by omega)
  replace ry := ry.keep hb16 (by omega)
  replace oy := oy.keep hb16 (by omega)
  replace rc := rc.keep hb16 (by omega)
  have hB16 := bnext hB15 hb16 (Nat.le_refl _)
  have hBB0_16 := bnext hBB0_15 hb16 (Nat.le_refl _)
  clear hc0 hf0; obtain ⟨hc0, hf0⟩ := bcell hBB0_16
  have hm0_0 : w.heap.size < w16.heap.size := by omega
  have oz := ho16.b
  have rz := oz.rdB encI_len
  clear ho16
  clear rc
  go_wp2_with fail
  refine (eqIntS_any _ _ _ _ _ (rz.mono (by omega)) (rx.mono (by omega))).mono ?_; rintro e w17 ⟨rfl, hb17⟩
  have s17 := hb17.size
  replace ra := ra.keep hb17 (by omega)
  replace rx := rx.keep hb17 (by omega)
  replace ox := ox.keep hb17 (by omega)
  replace ry := ry.keep hb17 (by omega)
  replace oy := oy.keep hb17 (by omega)
  replace rz := rz.keep hb17 (by omega)
  replace oz := oz.keep hb17 (by omega)
  have hB17 := bnext hB16 hb17 (Nat.le_refl _)
  have hBB0_17 := bnext hBB0_16 hb17 (Nat.le_refl _)
  clear hc0 hf0; obtain ⟨hc0, hf0⟩ := bcell hBB0_17
  have hm0_0 : w.heap.size < w17.heap.size := by omega
  go_wp2_with fail
  refine (heldIntS_any _ _ _ _ (ry.mono (by omega)) (by omega) (by omega) (by omega)).mono ?_; rintro e w18 ⟨rfl, hb18⟩
  have s18 := hb18.size
  replace ra := ra.keep hb18 (by omega)
  replace rx := rx.keep hb18 (by omega)
  replace ox := ox.keep hb18 (by omega)
  replace ry := ry.keep hb18 (by omega)
  replace oy := oy.keep hb18 (by omega)
  replace rz := rz.keep hb18 (by omega)
  replace oz := oz.keep hb18 (by omega)
  have hB18 := bnext hB17 hb18 (Nat.le_refl _)
  have hBB0_18 := bnext hBB0_17 hb18 (Nat.le_refl _)
  clear hc0 hf0; obtain ⟨hc0, hf0⟩ := bcell hBB0_18
  have hm0_0 : w.heap.size < w18.heap.size := by omega
  go_wp2_with fail
  go_ret
  exact ⟨rfl, hB18⟩
namespace fnExactPrefixLockings
set_option maxRecDepth 100000 in
theorem lifted (os : Os) (started : os.Started) (H : Type) (enc : TypeId × Value → H) :
    ReturnsInHanded {} Try.checked os 5 .any (Rows.fnExactPrefixLockingsSpec.pre6 enc Try.prog Try.f5 Rows.fnExactPrefixLockingsRow.domain false) (Rows.fnExactPrefixLockingsSpec.post enc Try.prog Try.f5 false true false false) := by
  refine returnsInHanded_of_change (C := Try.checked) own started (by kernel_rfl) Try.func5
    (ChangeSpec.witness6 (enc := enc) (C := Try.checked) false ⟨#[], #[.agg #[.int .i64 0, .int .i64 0, .int .i64 0], .slice none 0 0], []⟩ 8 (by kernel_rfl) (by kernel_rfl) (by kernel_rfl) (by kernel_rfl)) ?_
  intro W base args ds gs before hval0 hW hcnd _
  have hval : ∀ (j : Nat) t v, Try.f5.params[j]? = some t → args[j]? = some v → Value.okWide Try.prog W .any base t v := hval0
  have hW' := hW
  obtain ⟨p, q, hA0, hV, hbef, hfz, hnd⟩ := hW
  have hA : DataW.TrodAll enc Try.prog W 0 (fun _ => true) true Try.f5.params.toList args.toList ds p := hA0
  rw [Try.params5] at hA hval
  obtain ⟨v0, vs0, d0, ds0, p0, q0, hargs, rfl, hp0, h0, r0⟩ := trodAll_cons hA
  obtain ⟨v1, vs1, d1, ds1, p1, q1, rfl, rfl, hp1, h1, r1⟩ := trodAll_cons r0
  obtain ⟨rfl, rfl, hpn⟩ := trodAll_nil r1
  obtain rfl : args = #[v0, v1] := by cases args; simp_all
  obtain ⟨rfl, rfl⟩ := trodVars_none hV
  obtain ⟨cs0, rfl, hl0, hf0⟩ := open_struct Try.underlying23 (by kernel_rfl) (by kernel_rfl) (hval 0 23 v0 rfl rfl) h0
  obtain ⟨c0_0, c0_1, c0_2, rfl⟩ := list3 hl0
  obtain ⟨u0_0, y0_0, m0_0, g0_0, hy0_0⟩ := hf0 0 _ rfl
  have g0_0 := Option.some.inj g0_0; subst g0_0
  obtain ⟨a0_0, e0_0, -, w0_0⟩ := DataW.trod_int Try.underlying3 hy0_0
  simp only [List.cons.injEq, and_true] at e0_0; subst e0_0
  obtain ⟨u0_1, y0_1, m0_1, g0_1, hy0_1⟩ := hf0 1 _ rfl
  have g0_1 := Option.some.inj g0_1; subst g0_1
  obtain ⟨a0_1, e0_1, -, w0_1⟩ := DataW.trod_int Try.underlying3 hy0_1
  simp only [List.cons.injEq, and_true] at e0_1; subst e0_1
  obtain ⟨u0_2, y0_2, m0_2, g0_2, hy0_2⟩ := hf0 2 _ rfl
  have g0_2 := Option.some.inj g0_2; subst g0_2
  obtain ⟨a0_2, e0_2, -, w0_2⟩ := DataW.trod_int Try.underlying3 hy0_2
  simp only [List.cons.injEq, and_true] at e0_2; subst e0_2
  obtain ⟨a1, g1, w1⟩ := open_rowsI Try.underlying24 Try.underlying3 (by kernel_rfl) (hval 1 24 v1 rfl rfl) h1
  refine (FnExactPrefixLockings_walk W a0_0 a0_1 a0_2 w0_0 w0_1 w0_2 _ a1 g1 w1).mono fun e W' ⟨he, hg⟩ => ?_
  subst he
  exact ⟨_, rfl, post_law laidOut (by kernel_rfl) rfl Try.underlying4 rfl ⟨rfl, rfl, rfl⟩ hW' hg⟩
theorem proved : Rows.FnExactPrefixLockingsSaid :=
  OpenClaim.holds_of_wide 5 Try.f5 rfl rfl rfl rfl rfl rfl rfl ⟨rfl, rfl, rfl, rfl, rfl⟩ rfl rfl rfl rfl rfl (by kernel_rfl) Try.func5 (by kernel_rfl)
    (of_decide_eq_true (by kernel_rfl)) (by unfold Func.isWrapper; first | (rw [if_pos (by decide +kernel)]; kernel_rfl) | (rw [if_neg (by decide +kernel)]; exact ⟨rfl, rfl⟩))
    (fun os started H enc _ => lifted os started H enc)
end fnExactPrefixLockings
end Go.Proofs.Ytjmffhpfmfmnlaa
