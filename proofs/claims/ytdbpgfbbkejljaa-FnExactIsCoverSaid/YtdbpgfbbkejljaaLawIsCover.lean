/- The law FnExactIsCover: for every input it returns true and leaves its arguments as they were. No condition. -/
import Derived.Test.YtdbpgfbbkejljaaCover3
import Derived.Test.YtdbpgfbbkejljaaLaw2
namespace Go.Proofs.Ytdbpgfbbkejljaa
open Go.RowKit Go.WideShapes Go.ChangeShapes Go.ChangeAt Go.Joins Go.Deep
set_option linter.unusedVariables false
set_option maxRecDepth 100000 in
set_option maxHeartbeats 4000000 in
theorem FnExactIsCover_walk (w : World) (p : Int) (hwp : (Lit.int .i64 p).wf = true) (va : Value) (a : List Int) (ra : RdI w va a) (hoka : ∀ x ∈ a, (Lit.int .i64 x).wf = true) (vl : Value) (l : List DutyD) (rl : RdDuty w vl l) (hokl : ∀ x ∈ l, x.ok) (vb : Value) (b : List Int) (rb : RdI w vb b) (hokb : ∀ x ∈ b, (Lit.int .i64 x).wf = true) :
    Calls Try.prog 6 #[.int .i64 p, va, vl, vb] w fun e w' => e = .returned (.bool true) ∧ Below w.heap.size w w' := by
  obtain ⟨Aa, ca, rfl, hca, hma, hha⟩ : ∃ Az cz, va = .slice Az a.length cz ∧ a.length ≤ cz ∧ cz ≤ maxLen ∧ RdI w (.slice Az a.length cz) a := by obtain ⟨Az, cz, rfl, hc, hm, h⟩ := ra; exact ⟨Az, cz, rfl, hc, hm, ⟨Az, cz, rfl, hc, hm, h⟩⟩
  unfold maxLen at hma
  replace ra := hha; clear hha
  obtain ⟨Ab, cb, rfl, hcb, hmb, hhb⟩ : ∃ Az cz, vb = .slice Az b.length cz ∧ b.length ≤ cz ∧ cz ≤ maxLen ∧ RdI w (.slice Az b.length cz) b := by obtain ⟨Az, cz, rfl, hc, hm, h⟩ := rb; exact ⟨Az, cz, rfl, hc, hm, ⟨Az, cz, rfl, hc, hm, h⟩⟩
  unfold maxLen at hmb
  replace rb := hhb; clear hhb
  go_enter Try.func6, Try.ntmps6
  by_cases hbiga : (1048576 : Int) < (a.length : Int)
  · go_wp2_with fail
    go_ret
    exact ⟨rfl, (by repeat (first | exact Below.refl _ _ | assumption | refine Below.setCell ?_ (by first | omega | (simp <;> omega)) _ | refine Below.alloc ?_ (by first | omega | (simp <;> omega)) _ | refine below_drewN ?_ _ | refine Below.drew ?_ | refine Below.trans ?_ (Below.mono (by assumption) (by first | omega | (simp <;> omega)))))⟩
  have hbiga' : (a.length : Int) ≤ 1048576 := by omega
  have hlena : a.length ≤ 1048576 := by omega
  clear hbiga
  by_cases hbigb : (1048576 : Int) < (b.length : Int)
  · go_wp2_with fail
    go_ret
    exact ⟨rfl, (by repeat (first | exact Below.refl _ _ | assumption | refine Below.setCell ?_ (by first | omega | (simp <;> omega)) _ | refine Below.alloc ?_ (by first | omega | (simp <;> omega)) _ | refine below_drewN ?_ _ | refine Below.drew ?_ | refine Below.trans ?_ (Below.mono (by assumption) (by first | omega | (simp <;> omega)))))⟩
  have hbigb' : (b.length : Int) ≤ 1048576 := by omega
  have hlenb : b.length ≤ 1048576 := by omega
  clear hbigb
  go_wp2_with fail
  refine (szDutyS_any _ _ 1048576 _ (rl.mono (by omega)) (by omega) (by omega)).mono ?_; rintro e w1 ⟨z1, rfl, hz1, hm1, hb1⟩
  have s1 := hb1.size
  replace ra := ra.keep hb1 (by omega)
  replace rl := rl.keep hb1 (by omega)
  replace rb := rb.keep hb1 (by omega)
  have hB1 := bnext (Below.refl _ _) hb1 (Nat.le_refl _)
  by_cases hn1 : z1 < 0
  · clear hz1
    go_wp2_with fail
    go_ret
    exact ⟨rfl, hB1⟩
  obtain ⟨p1, q1⟩ := hz1 (by omega)
  go_wp2_with fail
  refine (toIntS_any _ _ _ (ra.mono (by omega)) (by omega)).mono ?_; rintro e w2 ⟨v2, rfl, ho2, hb2⟩
  have s2 := hb2.size
  replace ra := ra.keep hb2 (by omega)
  replace rl := rl.keep hb2 (by omega)
  replace rb := rb.keep hb2 (by omega)
  have hB2 := bnext hB1 hb2 (Nat.le_refl _)
  have on1 := ho2.b
  have rn1 := on1.rdB encI_len
  clear ho2
  clear on1
  go_wp2_with fail
  refine (toDutyS_any _ _ _ (rl.mono (by omega)) (by omega)).mono ?_; rintro e w3 ⟨v3, rfl, ho3, hb3⟩
  have s3 := hb3.size
  replace ra := ra.keep hb3 (by omega)
  replace rl := rl.keep hb3 (by omega)
  replace rb := rb.keep hb3 (by omega)
  replace rn1 := rn1.keep hb3 (by omega)
  have hB3 := bnext hB2 hb3 (Nat.le_refl _)
  have on2 := ho3.b
  have rn2 := on2.rdB DutyD.enc_len
  clear ho3
  clear on2
  go_wp2_with fail
  refine (toIntS_any _ _ _ (rb.mono (by omega)) (by omega)).mono ?_; rintro e w4 ⟨v4, rfl, ho4, hb4⟩
  have s4 := hb4.size
  replace ra := ra.keep hb4 (by omega)
  replace rl := rl.keep hb4 (by omega)
  replace rb := rb.keep hb4 (by omega)
  replace rn1 := rn1.keep hb4 (by omega)
  replace rn2 := rn2.keep hb4 (by omega)
  have hB4 := bnext hB3 hb4 (Nat.le_refl _)
  have on3 := ho4.b
  have rn3 := on3.rdB encI_len
  clear ho4
  clear on3
  go_wp2_with fail
  refine (spec_IsCover_any p _ _ _ a l b _ (rn1.mono (by omega)) (rn2.mono (by omega)) (rn3.mono (by omega))).mono ?_; rintro e w5 ⟨rfl, hb5⟩
  have s5 := hb5.size
  replace ra := ra.keep hb5 (by omega)
  replace rl := rl.keep hb5 (by omega)
  replace rb := rb.keep hb5 (by omega)
  replace rn1 := rn1.keep hb5 (by omega)
  replace rn2 := rn2.keep hb5 (by omega)
  replace rn3 := rn3.keep hb5 (by omega)
  have hB5 := bnext hB4 hb5 (Nat.le_refl _)
  clear rn1
  clear rn2
  clear rn3
  go_wp2_with fail
  refine (toIntS_any _ _ _ (ra.mono (by omega)) (by omega)).mono ?_; rintro e w6 ⟨v6, rfl, ho6, hb6⟩
  have s6 := hb6.size
  replace ra := ra.keep hb6 (by omega)
  replace rl := rl.keep hb6 (by omega)
  replace rb := rb.keep hb6 (by omega)
  have hB6 := bnext hB5 hb6 (Nat.le_refl _)
  have on4 := ho6.b
  have rn4 := on4.rdB encI_len
  clear ho6
  clear on4
  go_wp2_with fail
  refine (toDutyS_any _ _ _ (rl.mono (by omega)) (by omega)).mono ?_; rintro e w7 ⟨v7, rfl, ho7, hb7⟩
  have s7 := hb7.size
  replace ra := ra.keep hb7 (by omega)
  replace rl := rl.keep hb7 (by omega)
  replace rb := rb.keep hb7 (by omega)
  replace rn4 := rn4.keep hb7 (by omega)
  have hB7 := bnext hB6 hb7 (Nat.le_refl _)
  have on5 := ho7.b
  have rn5 := on5.rdB DutyD.enc_len
  clear ho7
  clear on5
  go_wp2_with fail
  refine (toIntS_any _ _ _ (rb.mono (by omega)) (by omega)).mono ?_; rintro e w8 ⟨v8, rfl, ho8, hb8⟩
  have s8 := hb8.size
  replace ra := ra.keep hb8 (by omega)
  replace rl := rl.keep hb8 (by omega)
  replace rb := rb.keep hb8 (by omega)
  replace rn4 := rn4.keep hb8 (by omega)
  replace rn5 := rn5.keep hb8 (by omega)
  have hB8 := bnext hB7 hb8 (Nat.le_refl _)
  have on6 := ho8.b
  have rn6 := on6.rdB encI_len
  clear ho8
  clear on6
  go_wp2_with fail
  refine (impl_IsCover_any p _ _ _ a l b _ (rn4.mono (by omega)) (rn5.mono (by omega)) (rn6.mono (by omega))).mono ?_; rintro e w9 ⟨rfl, hb9⟩
  have s9 := hb9.size
  replace ra := ra.keep hb9 (by omega)
  replace rl := rl.keep hb9 (by omega)
  replace rb := rb.keep hb9 (by omega)
  replace rn4 := rn4.keep hb9 (by omega)
  replace rn5 := rn5.keep hb9 (by omega)
  replace rn6 := rn6.keep hb9 (by omega)
  have hB9 := bnext hB8 hb9 (Nat.le_refl _)
  go_wp2_with fail
  refine (toIntS_any _ _ _ (ra.mono (by omega)) (by omega)).mono ?_; rintro e w10 ⟨v10, rfl, ho10, hb10⟩
  have s10 := hb10.size
  replace ra := ra.keep hb10 (by omega)
  replace rl := rl.keep hb10 (by omega)
  replace rb := rb.keep hb10 (by omega)
  replace rn4 := rn4.keep hb10 (by omega)
  replace rn5 := rn5.keep hb10 (by omega)
  replace rn6 := rn6.keep hb10 (by omega)
  have hB10 := bnext hB9 hb10 (Nat.le_refl _)
  have on7 := ho10.b
  have rn7 := on7.rdB encI_len
  clear ho10
  clear on7
  go_wp2_with fail
  refine (eqIntS_any _ _ _ _ _ (rn4.mono (by omega)) (rn7.mono (by omega))).mono ?_; rintro e w11 ⟨rfl, hb11⟩
  have s11 := hb11.size
  replace ra := ra.keep hb11 (by omega)
  replace rl := rl.keep hb11 (by omega)
  replace rb := rb.keep hb11 (by omega)
  replace rn4 := rn4.keep hb11 (by omega)
  replace rn5 := rn5.keep hb11 (by omega)
  replace rn6 := rn6.keep hb11 (by omega)
  replace rn7 := rn7.keep hb11 (by omega)
  have hB11 := bnext hB10 hb11 (Nat.le_refl _)
  clear rn4
  clear rn7
  go_wp2_with fail
  refine (toDutyS_any _ _ _ (rl.mono (by omega)) (by omega)).mono ?_; rintro e w12 ⟨v12, rfl, ho12, hb12⟩
  have s12 := hb12.size
  replace ra := ra.keep hb12 (by omega)
  replace rl := rl.keep hb12 (by omega)
  replace rb := rb.keep hb12 (by omega)
  replace rn5 := rn5.keep hb12 (by omega)
  replace rn6 := rn6.keep hb12 (by omega)
  have hB12 := bnext hB11 hb12 (Nat.le_refl _)
  have on8 := ho12.b
  have rn8 := on8.rdB DutyD.enc_len
  clear ho12
  clear on8
  go_wp2_with fail
  refine (eqDutyS_any _ _ _ _ _ (rn5.mono (by omega)) (rn8.mono (by omega))).mono ?_; rintro e w13 ⟨rfl, hb13⟩
  have s13 := hb13.size
  replace ra := ra.keep hb13 (by omega)
  replace rl := rl.keep hb13 (by omega)
  replace rb := rb.keep hb13 (by omega)
  replace rn5 := rn5.keep hb13 (by omega)
  replace rn6 := rn6.keep hb13 (by omega)
  replace rn8 := rn8.keep hb13 (by omega)
  have hB13 := bnext hB12 hb13 (Nat.le_refl _)
  clear rn5
  clear rn8
  go_wp2_with fail
  refine (toIntS_any _ _ _ (rb.mono (by omega)) (by omega)).mono ?_; rintro e w14 ⟨v14, rfl, ho14, hb14⟩
  have s14 := hb14.size
  replace ra := ra.keep hb14 (by omega)
  replace rl := rl.keep hb14 (by omega)
  replace rb := rb.keep hb14 (by omega)
  replace rn6 := rn6.keep hb14 (by omega)
  have hB14 := bnext hB13 hb14 (Nat.le_refl _)
  have on9 := ho14.b
  have rn9 := on9.rdB encI_len
  clear ho14
  clear on9
  go_wp2_with fail
  refine (eqIntS_any _ _ _ _ _ (rn6.mono (by omega)) (rn9.mono (by omega))).mono ?_; rintro e w15 ⟨rfl, hb15⟩
  have s15 := hb15.size
  replace ra := ra.keep hb15 (by omega)
  replace rl := rl.keep hb15 (by omega)
  replace rb := rb.keep hb15 (by omega)
  replace rn6 := rn6.keep hb15 (by omega)
  replace rn9 := rn9.keep hb15 (by omega)
  have hB15 := bnext hB14 hb15 (Nat.le_refl _)
  clear rn6
  clear rn9
  go_wp2_with fail
  go_ret
  exact ⟨rfl, hB15⟩
namespace fnExactIsCover
set_option maxRecDepth 100000 in
theorem lifted (os : Os) (started : os.Started) (H : Type) (enc : TypeId × Value → H) :
    ReturnsInHanded {} Try.checked os 6 .any (Rows.fnExactIsCoverSpec.pre6 enc Try.prog Try.f6 Rows.fnExactIsCoverRow.domain false) (Rows.fnExactIsCoverSpec.post enc Try.prog Try.f6 false true false false) := by
  refine returnsInHanded_of_change (C := Try.checked) own started (by kernel_rfl) Try.func6
    (ChangeSpec.witness6 (enc := enc) (C := Try.checked) false ⟨#[], #[.int .i64 0, .slice none 0 0, .slice none 0 0, .slice none 0 0], []⟩ 8 (by kernel_rfl) (by kernel_rfl) (by kernel_rfl) (by kernel_rfl)) ?_
  intro W base args ds gs before hval0 hW hcnd _
  have hval : ∀ (j : Nat) t v, Try.f6.params[j]? = some t → args[j]? = some v → Value.okWide Try.prog W .any base t v := hval0
  have hW' := hW
  obtain ⟨p, q, hA0, hV, hbef, hfz, hnd⟩ := hW
  have hA : DataW.TrodAll enc Try.prog W 0 (fun _ => true) true Try.f6.params.toList args.toList ds p := hA0
  rw [Try.params6] at hA hval
  obtain ⟨v0, vs0, d0, ds0, p0, q0, hargs, rfl, hp0, h0, r0⟩ := trodAll_cons hA
  obtain ⟨v1, vs1, d1, ds1, p1, q1, rfl, rfl, hp1, h1, r1⟩ := trodAll_cons r0
  obtain ⟨v2, vs2, d2, ds2, p2, q2, rfl, rfl, hp2, h2, r2⟩ := trodAll_cons r1
  obtain ⟨v3, vs3, d3, ds3, p3, q3, rfl, rfl, hp3, h3, r3⟩ := trodAll_cons r2
  obtain ⟨rfl, rfl, hpn⟩ := trodAll_nil r3
  obtain rfl : args = #[v0, v1, v2, v3] := by cases args; simp_all
  obtain ⟨rfl, rfl⟩ := trodVars_none hV
  obtain ⟨a0, rfl, -, -, w0⟩ := open_int Try.underlying3 (hval 0 3 v0 rfl rfl) h0
  obtain ⟨a1, g1, w1⟩ := open_rowsI Try.underlying29 Try.underlying3 (by kernel_rfl) (hval 1 29 v1 rfl rfl) h1
  obtain ⟨a2, g2, w2⟩ := openDutyS (hval 2 22 v2 rfl rfl) h2
  obtain ⟨a3, g3, w3⟩ := open_rowsI Try.underlying29 Try.underlying3 (by kernel_rfl) (hval 3 29 v3 rfl rfl) h3
  refine (FnExactIsCover_walk W a0 w0 _ a1 g1 w1 _ a2 g2 w2 _ a3 g3 w3).mono fun e W' ⟨he, hg⟩ => ?_
  subst he
  exact ⟨_, rfl, post_law laidOut (by kernel_rfl) rfl Try.underlying4 rfl ⟨rfl, rfl, rfl⟩ hW' hg⟩
theorem proved : Rows.FnExactIsCoverSaid :=
  OpenClaim.holds_of_wide 6 Try.f6 rfl rfl rfl rfl rfl rfl rfl ⟨rfl, rfl, rfl, rfl, rfl⟩ rfl rfl rfl rfl rfl (by kernel_rfl) Try.func6 (by kernel_rfl)
    (of_decide_eq_true (by kernel_rfl)) (by unfold Func.isWrapper; first | (rw [if_pos (by decide +kernel)]; kernel_rfl) | (rw [if_neg (by decide +kernel)]; exact ⟨rfl, rfl⟩))
    (fun os started H enc _ => lifted os started H enc)
end fnExactIsCover
end Go.Proofs.Ytdbpgfbbkejljaa
