/- The law FnExactDutiesOk: for every input it returns true and leaves its arguments as they were. No condition. -/
import Derived.Test.YtdbpgfbbkejljaaDuty
namespace Go.Proofs.Ytdbpgfbbkejljaa
open Go.RowKit Go.WideShapes Go.ChangeShapes Go.ChangeAt Go.Joins Go.Deep
set_option linter.unusedVariables false
set_option maxRecDepth 100000 in
set_option maxHeartbeats 4000000 in
theorem FnExactDutiesOk_walk (w : World) (va : Value) (a : List DutyD) (ra : RdDuty w va a) (hoka : ∀ x ∈ a, x.ok) :
    Calls Try.prog 3 #[va] w fun e w' => e = .returned (.bool true) ∧ Below w.heap.size w w' := by
  go_enter Try.func3, Try.ntmps3
  go_wp2_with fail
  refine (szDutyS_any _ _ 1048576 _ (ra.mono (by omega)) (by omega) (by omega)).mono ?_; rintro e w1 ⟨z1, rfl, hz1, hm1, hb1⟩
  have s1 := hb1.size
  replace ra := ra.keep hb1 (by omega)
  have hB1 := bnext (Below.refl _ _) hb1 (Nat.le_refl _)
  by_cases hn1 : z1 < 0
  · clear hz1
    go_wp2_with fail
    go_ret
    exact ⟨rfl, hB1⟩
  obtain ⟨p1, q1⟩ := hz1 (by omega)
  go_wp2_with fail
  refine (toDutyS_any _ _ _ (ra.mono (by omega)) (by omega)).mono ?_; rintro e w2 ⟨v2, rfl, ho2, hb2⟩
  have s2 := hb2.size
  replace ra := ra.keep hb2 (by omega)
  have hB2 := bnext hB1 hb2 (Nat.le_refl _)
  have oc := ho2.b
  have rc := oc.rdB DutyD.enc_len
  clear ho2
  clear oc
  go_wp2_with fail
  refine (spec_DutiesOk_any _ _ _ (rc.mono (by omega))).mono ?_; rintro e w3 ⟨rfl, hb3⟩
  have s3 := hb3.size
  replace ra := ra.keep hb3 (by omega)
  replace rc := rc.keep hb3 (by omega)
  have hB3 := bnext hB2 hb3 (Nat.le_refl _)
  clear rc
  go_wp2_with fail
  refine (toDutyS_any _ _ _ (ra.mono (by omega)) (by omega)).mono ?_; rintro e w4 ⟨v4, rfl, ho4, hb4⟩
  have s4 := hb4.size
  replace ra := ra.keep hb4 (by omega)
  have hB4 := bnext hB3 hb4 (Nat.le_refl _)
  have od := ho4.b
  have rd := od.rdB DutyD.enc_len
  clear ho4
  clear od
  go_wp2_with fail
  refine (impl_DutiesOk_any _ _ _ (rd.mono (by omega))).mono ?_; rintro e w5 ⟨rfl, hb5⟩
  have s5 := hb5.size
  replace ra := ra.keep hb5 (by omega)
  replace rd := rd.keep hb5 (by omega)
  have hB5 := bnext hB4 hb5 (Nat.le_refl _)
  go_wp2_with fail
  refine (toDutyS_any _ _ _ (ra.mono (by omega)) (by omega)).mono ?_; rintro e w6 ⟨v6, rfl, ho6, hb6⟩
  have s6 := hb6.size
  replace ra := ra.keep hb6 (by omega)
  replace rd := rd.keep hb6 (by omega)
  have hB6 := bnext hB5 hb6 (Nat.le_refl _)
  have oe := ho6.b
  have re := oe.rdB DutyD.enc_len
  clear ho6
  clear oe
  go_wp2_with fail
  refine (eqDutyS_any _ _ _ _ _ (rd.mono (by omega)) (re.mono (by omega))).mono ?_; rintro e w7 ⟨rfl, hb7⟩
  have s7 := hb7.size
  replace ra := ra.keep hb7 (by omega)
  replace rd := rd.keep hb7 (by omega)
  replace re := re.keep hb7 (by omega)
  have hB7 := bnext hB6 hb7 (Nat.le_refl _)
  go_wp2_with fail
  go_ret
  exact ⟨rfl, hB7⟩
namespace fnExactDutiesOk
set_option maxRecDepth 100000 in
theorem lifted (os : Os) (started : os.Started) (H : Type) (enc : TypeId × Value → H) :
    ReturnsInHanded {} Try.checked os 3 .any (Rows.fnExactDutiesOkSpec.pre6 enc Try.prog Try.f3 Rows.fnExactDutiesOkRow.domain false) (Rows.fnExactDutiesOkSpec.post enc Try.prog Try.f3 false true false false) := by
  refine returnsInHanded_of_change (C := Try.checked) own started (by kernel_rfl) Try.func3
    (ChangeSpec.witness6 (enc := enc) (C := Try.checked) false ⟨#[], #[.slice none 0 0], []⟩ 8 (by kernel_rfl) (by kernel_rfl) (by kernel_rfl) (by kernel_rfl)) ?_
  intro W base args ds gs before hval0 hW hcnd _
  have hval : ∀ (j : Nat) t v, Try.f3.params[j]? = some t → args[j]? = some v → Value.okWide Try.prog W .any base t v := hval0
  have hW' := hW
  obtain ⟨p, q, hA0, hV, hbef, hfz, hnd⟩ := hW
  have hA : DataW.TrodAll enc Try.prog W 0 (fun _ => true) true Try.f3.params.toList args.toList ds p := hA0
  rw [Try.params3] at hA hval
  obtain ⟨v0, vs0, d0, ds0, p0, q0, hargs, rfl, hp0, h0, r0⟩ := trodAll_cons hA
  obtain ⟨rfl, rfl, hpn⟩ := trodAll_nil r0
  obtain rfl : args = #[v0] := by cases args; simp_all
  obtain ⟨rfl, rfl⟩ := trodVars_none hV
  obtain ⟨a0, g0, w0⟩ := openDutyS (hval 0 22 v0 rfl rfl) h0
  refine (FnExactDutiesOk_walk W _ a0 g0 w0).mono fun e W' ⟨he, hg⟩ => ?_
  subst he
  exact ⟨_, rfl, post_law laidOut (by kernel_rfl) rfl Try.underlying4 rfl ⟨rfl, rfl, rfl⟩ hW' hg⟩
theorem proved : Rows.FnExactDutiesOkSaid :=
  OpenClaim.holds_of_wide 3 Try.f3 rfl rfl rfl rfl rfl rfl rfl ⟨rfl, rfl, rfl, rfl, rfl⟩ rfl rfl rfl rfl rfl (by kernel_rfl) Try.func3 (by kernel_rfl)
    (of_decide_eq_true (by kernel_rfl)) (by unfold Func.isWrapper; first | (rw [if_pos (by decide +kernel)]; kernel_rfl) | (rw [if_neg (by decide +kernel)]; exact ⟨rfl, rfl⟩))
    (fun os started H enc _ => lifted os started H enc)
end fnExactDutiesOk
end Go.Proofs.Ytdbpgfbbkejljaa
