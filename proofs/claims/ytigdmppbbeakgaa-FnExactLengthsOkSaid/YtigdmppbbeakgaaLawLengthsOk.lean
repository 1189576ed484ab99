/- The law FnExactLengthsOk: for every input it returns true and leaves its arguments as they were. No condition. -/
import Derived.Test.YtigdmppbbeakgaaLens
namespace Go.Proofs.Ytigdmppbbeakgaa
open Go.RowKit Go.WideShapes Go.ChangeShapes Go.ChangeAt Go.Joins Go.Deep
set_option linter.unusedVariables false
set_option maxRecDepth 100000 in
set_option maxHeartbeats 4000000 in
theorem FnExactLengthsOk_walk (w : World) (va : Value) (a : List Int) (ra : RdI w va a) (hoka : ∀ x ∈ a, (Lit.int .i64 x).wf = true) :
    Calls Try.prog 10 #[va] w fun e w' => e = .returned (.bool true) ∧ Below w.heap.size w w' := by
  obtain ⟨Aa, ca, rfl, hca, hma, hha⟩ : ∃ A c, va = .slice A a.length c ∧ a.length ≤ c ∧ c ≤ maxLen ∧ RdI w (.slice A a.length c) a := by obtain ⟨A, c, rfl, hc, hm, h⟩ := ra; exact ⟨A, c, rfl, hc, hm, ⟨A, c, rfl, hc, hm, h⟩⟩
  unfold maxLen at hma
  replace ra := hha; clear hha
  go_enter Try.func10, Try.ntmps10
  by_cases hbiga : (1048576 : Int) < (a.length : Int)
  · go_wp2_with fail
    go_ret
    exact ⟨rfl, (Below.refl _ _)⟩
  have hbiga' : (a.length : Int) ≤ 1048576 := by omega
  have hlena : a.length ≤ 1048576 := by omega
  clear hbiga
  go_wp2_with fail
  refine (toIntS_any _ _ _ (ra.mono (by omega)) (by omega)).mono ?_; rintro e w1 ⟨v1, rfl, ho1, hb1⟩
  have s1 := hb1.size
  replace ra := ra.keep hb1 (by omega)
  have hB1 := bnext (Below.refl _ _) hb1 (Nat.le_refl _)
  have oc := ho1.b
  have rc := oc.rdB encI_len
  clear ho1
  clear oc
  go_wp2_with fail
  refine (spec_LengthsOk_any _ _ _ (rc.mono (by omega))).mono ?_; rintro e w2 ⟨rfl, hb2⟩
  have s2 := hb2.size
  replace ra := ra.keep hb2 (by omega)
  replace rc := rc.keep hb2 (by omega)
  have hB2 := bnext hB1 hb2 (Nat.le_refl _)
  go_wp2_with fail
  refine (toIntS_any _ _ _ (ra.mono (by omega)) (by omega)).mono ?_; rintro e w3 ⟨v3, rfl, ho3, hb3⟩
  have s3 := hb3.size
  replace ra := ra.keep hb3 (by omega)
  replace rc := rc.keep hb3 (by omega)
  have hB3 := bnext hB2 hb3 (Nat.le_refl _)
  have od := ho3.b
  have rd := od.rdB encI_len
  clear ho3
  clear od
  go_wp2_with fail
  refine (impl_LengthsOk_any _ _ _ (rd.mono (by omega))).mono ?_; rintro e w4 ⟨rfl, hb4⟩
  have s4 := hb4.size
  replace ra := ra.keep hb4 (by omega)
  replace rc := rc.keep hb4 (by omega)
  replace rd := rd.keep hb4 (by omega)
  have hB4 := bnext hB3 hb4 (Nat.le_refl _)
  go_wp2_with fail
  refine (toIntS_any _ _ _ (ra.mono (by omega)) (by omega)).mono ?_; rintro e w5 ⟨v5, rfl, ho5, hb5⟩
  have s5 := hb5.size
  replace ra := ra.keep hb5 (by omega)
  replace rc := rc.keep hb5 (by omega)
  replace rd := rd.keep hb5 (by omega)
  have hB5 := bnext hB4 hb5 (Nat.le_refl _)
  have oe := ho5.b
  have re := oe.rdB encI_len
  clear ho5
  clear oe
  go_wp2_with fail
  refine (eqIntS_any _ _ _ _ _ (rd.mono (by omega)) (re.mono (by omega))).mono ?_; rintro e w6 ⟨rfl, hb6⟩
  have s6 := hb6.size
  replace ra := ra.keep hb6 (by omega)
  replace rc := rc.keep hb6 (by omega)
  replace rd := rd.keep hb6 (by omega)
  replace re := re.keep hb6 (by omega)
  have hB6 := bnext hB5 hb6 (Nat.le_refl _)
  go_wp2_with fail
  go_ret
  exact ⟨rfl, hB6⟩
namespace fnExactLengthsOk
set_option maxRecDepth 100000 in
theorem lifted (os : Os) (started : os.Started) (H : Type) (enc : TypeId × Value → H) :
    ReturnsInHanded {} Try.checked os 10 .any (Rows.fnExactLengthsOkSpec.pre6 enc Try.prog Try.f10 Rows.fnExactLengthsOkRow.domain false) (Rows.fnExactLengthsOkSpec.post enc Try.prog Try.f10 false true false false) := by
  refine returnsInHanded_of_change (C := Try.checked) own started (by kernel_rfl) Try.func10
    (ChangeSpec.witness6 (enc := enc) (C := Try.checked) false ⟨#[], #[.slice none 0 0], []⟩ 8 (by kernel_rfl) (by kernel_rfl) (by kernel_rfl) (by kernel_rfl)) ?_
  intro W base args ds gs before hval0 hW hcnd _
  have hval : ∀ (j : Nat) t v, Try.f10.params[j]? = some t → args[j]? = some v → Value.okWide Try.prog W .any base t v := hval0
  have hW' := hW
  obtain ⟨p, q, hA0, hV, hbef, hfz, hnd⟩ := hW
  have hA : DataW.TrodAll enc Try.prog W 0 (fun _ => true) true Try.f10.params.toList args.toList ds p := hA0
  rw [Try.params10] at hA hval
  obtain ⟨v0, vs0, d0, ds0, p0, q0, hargs, rfl, hp0, h0, r0⟩ := trodAll_cons hA
  obtain ⟨rfl, rfl, hpn⟩ := trodAll_nil r0
  obtain rfl : args = #[v0] := by cases args; simp_all
  obtain ⟨rfl, rfl⟩ := trodVars_none hV
  obtain ⟨a0, g0, w0⟩ := open_rowsI Try.underlying44 Try.underlying3 (by kernel_rfl) (hval 0 44 v0 rfl rfl) h0
  refine (FnExactLengthsOk_walk W _ a0 g0 w0).mono fun e W' ⟨he, hg⟩ => ?_
  subst he
  exact ⟨_, rfl, post_law laidOut (by kernel_rfl) rfl Try.underlying4 rfl ⟨rfl, rfl, rfl⟩ hW' hg⟩
theorem proved : Rows.FnExactLengthsOkSaid :=
  OpenClaim.holds_of_wide 10 Try.f10 rfl rfl rfl rfl rfl rfl rfl ⟨rfl, rfl, rfl, rfl, rfl⟩ rfl rfl rfl rfl rfl (by kernel_rfl) Try.func10 (by kernel_rfl)
    (of_decide_eq_true (by kernel_rfl)) (by unfold Func.isWrapper; first | (rw [if_pos (by decide +kernel)]; kernel_rfl) | (rw [if_neg (by decide +kernel)]; exact ⟨rfl, rfl⟩))
    (fun os started H enc _ => lifted os started H enc)
end fnExactLengthsOk
end Go.Proofs.Ytigdmppbbeakgaa
