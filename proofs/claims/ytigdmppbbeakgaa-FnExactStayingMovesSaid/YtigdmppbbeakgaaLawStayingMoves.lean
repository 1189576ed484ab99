/- The law FnExactStayingMoves: for every input it returns true and leaves its arguments as they were. No condition. -/
import Derived.Test.YtigdmppbbeakgaaInts
namespace Go.Proofs.Ytigdmppbbeakgaa
open Go.RowKit Go.WideShapes Go.ChangeShapes Go.ChangeAt Go.Joins Go.Deep
set_option linter.unusedVariables false in
set_option maxHeartbeats 1000000 in
theorem FnExactStayingMoves_walk  (w : World) :
    Calls Try.prog 8 #[] w fun e w' => e = .returned (.bool true) ∧ Below w.heap.size w w' := by
  go_enter Try.func8, Try.ntmps8
  go_wp2_with fail
  refine (spec_StayingMoves_any _).mono ?_; rintro e w1 ⟨v1, rfl, ho1, hb1⟩
  have o1 := ho1.b; have s1 := hb1.size
  go_wp2_with fail
  refine (impl_StayingMoves_any _).mono ?_; rintro e w2 ⟨v2, rfl, ho2, hb2⟩
  have o2 := ho2.b; have s2 := hb2.size
  have r1 := o1.rdB encI_len; have r2 := o2.rdB encI_len
  clear ho1 ho2 o1
  replace r1 := r1.keep hb2 (by omega)
  go_wp2_with fail
  refine (eqIntS_any _ _ _ _ _ (r2.mono (by omega)) (r1.mono (by omega))).mono ?_; rintro e w3 ⟨rfl, hb3⟩
  have s3 := hb3.size
  replace r1 := r1.keep hb3 (by omega); replace o2 := o2.keep hb3 (by omega)
  go_wp2_with fail
  refine (markIntS_any _ _ _ _ _ o2.1 (by omega) (by omega) (by simp)).mono ?_; rintro e w4 ⟨rfl, ho4, hg4⟩
  have hb4 := o2.touch hg4 (by omega)
  replace o2 := o2.again ho4
  replace r2 := o2.rdB encI_len; have s4 := hb4.size
  replace r1 := r1.keep hb4 (by omega)
  clear ho4 hg4
  go_wp2_with fail
  refine (heldIntS_any _ _ _ _ (r2.mono (by omega)) (by omega) (by omega) (by simp)).mono ?_; rintro e w5 ⟨rfl, hb5⟩
  have s5 := hb5.size
  replace r1 := r1.keep hb5 (by omega); replace r2 := r2.keep hb5 (by omega)
  go_wp2_with fail
  refine (impl_StayingMoves_any _).mono ?_; rintro e w6 ⟨v6, rfl, ho6, hb6⟩
  have s6 := hb6.size
  have r6 := ho6.b.rdB encI_len
  replace r1 := r1.keep hb6 (by omega); replace r2 := r2.keep hb6 (by omega)
  go_wp2_with fail
  refine (eqIntS_any _ _ _ _ _ (r6.mono (by omega)) (r1.mono (by omega))).mono ?_; rintro e w7 ⟨rfl, hb7⟩
  have s7 := hb7.size
  replace r2 := r2.keep hb7 (by omega)
  go_wp2_with fail
  refine (heldIntS_any _ _ _ _ (r2.mono (by omega)) (by omega) (by omega) (by simp)).mono ?_; rintro e w8 ⟨rfl, hb8⟩
  go_wp2_with fail
  go_ret
  exact ⟨rfl, ((((((hb1.trans (hb2.mono (by omega))).trans (hb3.mono (by omega))).trans (hb4.mono (by omega))).trans (hb5.mono (by omega))).trans (hb6.mono (by omega))).trans (hb7.mono (by omega))).trans (hb8.mono (by omega))⟩
namespace fnExactStayingMoves
set_option linter.unusedVariables false
set_option maxRecDepth 100000 in
theorem lifted (os : Os) (started : os.Started) (H : Type) (enc : TypeId × Value → H) :
    ReturnsInHanded {} Try.checked os 8 .any (Rows.fnExactStayingMovesSpec.pre6 enc Try.prog Try.f8 Rows.fnExactStayingMovesRow.domain false) (Rows.fnExactStayingMovesSpec.post enc Try.prog Try.f8 false true false false) := by
  refine returnsInHanded_of_change (C := Try.checked) own started (by kernel_rfl) Try.func8
    (ChangeSpec.witness6 (enc := enc) (C := Try.checked) false ⟨#[], #[], []⟩ 8 (by kernel_rfl) (by kernel_rfl) (by kernel_rfl) (by kernel_rfl)) ?_
  intro W base args ds gs before hval0 hW hcnd _
  have hval : ∀ (j : Nat) t v, Try.f8.params[j]? = some t → args[j]? = some v → Value.okWide Try.prog W .any base t v := hval0
  have hW' := hW
  obtain ⟨p, q, hA0, hV, hbef, hfz, hnd⟩ := hW
  have hA : DataW.TrodAll enc Try.prog W 0 (fun _ => true) true Try.f8.params.toList args.toList ds p := hA0
  rw [Try.params8] at hA hval
  obtain ⟨hargs, rfl, hpn⟩ := trodAll_nil hA
  obtain rfl : args = #[] := by cases args; simp_all
  obtain ⟨rfl, rfl⟩ := trodVars_none hV
  refine (FnExactStayingMoves_walk  W).mono fun e W' ⟨he, hg⟩ => ?_
  subst he
  exact ⟨_, rfl, post_law laidOut (by kernel_rfl) rfl Try.underlying4 rfl ⟨rfl, rfl, rfl⟩ hW' hg⟩
theorem proved : Rows.FnExactStayingMovesSaid :=
  OpenClaim.holds_of_wide 8 Try.f8 rfl rfl rfl rfl rfl rfl rfl ⟨rfl, rfl, rfl, rfl, rfl⟩ rfl rfl rfl rfl rfl (by kernel_rfl) Try.func8 (by kernel_rfl)
    (of_decide_eq_true (by kernel_rfl)) (by unfold Func.isWrapper; first | (rw [if_pos (by decide +kernel)]; kernel_rfl) | (rw [if_neg (by decide +kernel)]; exact ⟨rfl, rfl⟩))
    (fun os started H enc _ => lifted os started H enc)
end fnExactStayingMoves

end Go.Proofs.Ytigdmppbbeakgaa
