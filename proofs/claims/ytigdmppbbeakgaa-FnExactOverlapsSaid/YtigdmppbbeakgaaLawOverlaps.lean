/- The law FnExactOverlaps: for every input it returns true and leaves its arguments as they were. No condition. -/
import Derived.Test.YtigdmppbbeakgaaScal
namespace Go.Proofs.Ytigdmppbbeakgaa
open Go.RowKit Go.WideShapes Go.ChangeShapes Go.ChangeAt Go.Joins Go.Deep
set_option linter.unusedVariables false in
set_option maxHeartbeats 1000000 in
theorem FnExactOverlaps_walk (x0 : Int) (x1 : Int) (x2 : Bool) (x3 : Int) (x4 : Int) (y0 : Int) (y1 : Int) (y2 : Bool) (y3 : Int) (y4 : Int) (hx0 : (Lit.int .i64 x0).wf = true) (hx1 : (Lit.int .i64 x1).wf = true) (hx3 : (Lit.int .i64 x3).wf = true) (hx4 : (Lit.int .i64 x4).wf = true) (hy0 : (Lit.int .i64 y0).wf = true) (hy1 : (Lit.int .i64 y1).wf = true) (hy3 : (Lit.int .i64 y3).wf = true) (hy4 : (Lit.int .i64 y4).wf = true) (w : World) :
    Calls Try.prog 4 #[.agg #[.int .i64 x0, .int .i64 x1, .bool x2, .int .i64 x3, .int .i64 x4], .agg #[.int .i64 y0, .int .i64 y1, .bool y2, .int .i64 y3, .int .i64 y4]] w fun e w' => e = .returned (.bool true) ∧ Below w.heap.size w w' := by
  go_enter Try.func4, Try.ntmps4
  go_wp2_with fail
  refine wp_region_below (Below.refl (w.heap.size + 2) _) (by kernel_rfl) (by kernel_rfl) ?_
  repeat (first
    | (refine BigFrame.wpQuiet_skip ?_ ?_
       · rfl
       simp only [Act.put, List.setIfInBounds_toArray, List.set_cons_zero, List.set_cons_succ])
    | (refine BigFrame.wpQuiet_want ?_ (fun K hK => ?_)
       · rfl
       first
         | (refine quiet_value ?_; apply Exists.intro
            refine ⟨fun wq hq => ?_, hK _ ?_⟩
            · (obtain ⟨hc, hf⟩ := bcell hq; go_simp; first | done | rfl))
         | (refine quiet_call ?_; apply Exists.intro; apply Exists.intro; apply Exists.intro
            refine ⟨fun wq hq => ?_, fun wq hq => ?_, hK _ ?_⟩
            · (obtain ⟨hc, hf⟩ := bcell hq; go_simp; exact ⟨rfl, rfl⟩)
            · (first | exact (toPassage_any _ _ _ _ _ _).mono fun e w'' ⟨he, hb'⟩ => ⟨he, bnext hq hb'⟩ | exact (toPassage_any _ _ _ _ _ _).mono fun e w'' ⟨he, hw⟩ => ⟨he, hw ▸ hq⟩ | exact (spec_Overlaps_any _ _ _ _ _ _ _ _ _ _ _).mono fun e w'' ⟨he, hb'⟩ => ⟨he, bnext hq hb'⟩ | exact (spec_Overlaps_any _ _ _ _ _ _ _ _ _ _ _).mono fun e w'' ⟨he, hw⟩ => ⟨he, hw ▸ hq⟩ | exact (impl_Overlaps_any _ _ _ _ _ _ _ _ _ _ _).mono fun e w'' ⟨he, hb'⟩ => ⟨he, bnext hq hb'⟩ | exact (impl_Overlaps_any _ _ _ _ _ _ _ _ _ _ _).mono fun e w'' ⟨he, hw⟩ => ⟨he, hw ▸ hq⟩))
       clear hK K
       simp only [Act.put, List.setIfInBounds_toArray, List.set_cons_zero, List.set_cons_succ]))
  refine wpQuiet_nil (fun w1 hb' => ?_)
  obtain ⟨hc, hf⟩ := bcell hb'
  have hz := hb'.size; (try simp at hz)
  go_wp2_with fail
  refine wp_region_below hb' (by kernel_rfl) (by kernel_rfl) ?_
  clear hc hf
  repeat (first
    | (refine BigFrame.wpQuiet_skip ?_ ?_
       · rfl
       simp only [Act.put, List.setIfInBounds_toArray, List.set_cons_zero, List.set_cons_succ])
    | (refine BigFrame.wpQuiet_want ?_ (fun K hK => ?_)
       · rfl
       first
         | (refine quiet_value ?_; apply Exists.intro
            refine ⟨fun wq hq => ?_, hK _ ?_⟩
            · (obtain ⟨hc, hf⟩ := bcell hq; go_simp; first | done | rfl))
         | (refine quiet_call ?_; apply Exists.intro; apply Exists.intro; apply Exists.intro
            refine ⟨fun wq hq => ?_, fun wq hq => ?_, hK _ ?_⟩
            · (obtain ⟨hc, hf⟩ := bcell hq; go_simp; exact ⟨rfl, rfl⟩)
            · (first | exact (toPassage_any _ _ _ _ _ _).mono fun e w'' ⟨he, hb'⟩ => ⟨he, bnext hq hb'⟩ | exact (toPassage_any _ _ _ _ _ _).mono fun e w'' ⟨he, hw⟩ => ⟨he, hw ▸ hq⟩ | exact (spec_Overlaps_any _ _ _ _ _ _ _ _ _ _ _).mono fun e w'' ⟨he, hb'⟩ => ⟨he, bnext hq hb'⟩ | exact (spec_Overlaps_any _ _ _ _ _ _ _ _ _ _ _).mono fun e w'' ⟨he, hw⟩ => ⟨he, hw ▸ hq⟩ | exact (impl_Overlaps_any _ _ _ _ _ _ _ _ _ _ _).mono fun e w'' ⟨he, hb'⟩ => ⟨he, bnext hq hb'⟩ | exact (impl_Overlaps_any _ _ _ _ _ _ _ _ _ _ _).mono fun e w'' ⟨he, hw⟩ => ⟨he, hw ▸ hq⟩))
       clear hK K
       simp only [Act.put, List.setIfInBounds_toArray, List.set_cons_zero, List.set_cons_succ]))
  refine wpQuiet_nil (fun w1 hb' => ?_)
  obtain ⟨hc, hf⟩ := bcell hb'
  have hz := hb'.size; (try simp at hz)
  go_wp2_with fail
  go_ret
  exact ⟨rfl, (by repeat (first | exact Below.refl _ _ | assumption | refine Below.setCell ?_ (by first | omega | (simp <;> omega)) _ | refine Below.alloc ?_ (by first | omega | (simp <;> omega)) _ | refine below_drewN ?_ _ | refine Below.drew ?_ | refine Below.trans ?_ (Below.mono (by assumption) (by first | omega | (simp <;> omega)))))⟩
namespace fnExactOverlaps
set_option linter.unusedVariables false
set_option maxRecDepth 100000 in
theorem lifted (os : Os) (started : os.Started) (H : Type) (enc : TypeId × Value → H) :
    ReturnsInHanded {} Try.checked os 4 .any (Rows.fnExactOverlapsSpec.pre6 enc Try.prog Try.f4 Rows.fnExactOverlapsRow.domain false) (Rows.fnExactOverlapsSpec.post enc Try.prog Try.f4 false true false false) := by
  refine returnsInHanded_of_change (C := Try.checked) own started (by kernel_rfl) Try.func4
    (ChangeSpec.witness6 (enc := enc) (C := Try.checked) false ⟨#[], #[.agg #[.int .i64 0, .int .i64 0, .bool false, .int .i64 0, .int .i64 0], .agg #[.int .i64 0, .int .i64 0, .bool false, .int .i64 0, .int .i64 0]], []⟩ 8 (by kernel_rfl) (by kernel_rfl) (by kernel_rfl) (by kernel_rfl)) ?_
  intro W base args ds gs before hval0 hW hcnd _
  have hval : ∀ (j : Nat) t v, Try.f4.params[j]? = some t → args[j]? = some v → Value.okWide Try.prog W .any base t v := hval0
  have hW' := hW
  obtain ⟨p, q, hA0, hV, hbef, hfz, hnd⟩ := hW
  have hA : DataW.TrodAll enc Try.prog W 0 (fun _ => true) true Try.f4.params.toList args.toList ds p := hA0
  rw [Try.params4] at hA hval
  obtain ⟨v0, vs0, d0, ds0, p0, q0, hargs, rfl, hp0, h0, r0⟩ := trodAll_cons hA
  obtain ⟨v1, vs1, d1, ds1, p1, q1, rfl, rfl, hp1, h1, r1⟩ := trodAll_cons r0
  obtain ⟨rfl, rfl, hpn⟩ := trodAll_nil r1
  obtain rfl : args = #[v0, v1] := by cases args; simp_all
  obtain ⟨rfl, rfl⟩ := trodVars_none hV
  obtain ⟨cs0, rfl, hl0, hf0⟩ := open_struct Try.underlying29 (by kernel_rfl) (by kernel_rfl) (hval 0 29 v0 rfl rfl) h0
  obtain ⟨c0_0, c0_1, c0_2, c0_3, c0_4, rfl⟩ := list5 hl0
  obtain ⟨u0_0, y0_0, m0_0, g0_0, hy0_0⟩ := hf0 0 _ rfl
  have g0_0 := Option.some.inj g0_0; subst g0_0
  obtain ⟨a0_0, e0_0, -, w0_0⟩ := DataW.trod_int Try.underlying3 hy0_0
  simp only [List.cons.injEq, and_true] at e0_0; subst e0_0
  obtain ⟨u0_1, y0_1, m0_1, g0_1, hy0_1⟩ := hf0 1 _ rfl
  have g0_1 := Option.some.inj g0_1; subst g0_1
  obtain ⟨a0_1, e0_1, -, w0_1⟩ := DataW.trod_int Try.underlying3 hy0_1
  simp only [List.cons.injEq, and_true] at e0_1; subst e0_1
  obtain ⟨u0_2, y0_2, m0_2, g0_2, hy0_2⟩ := hf0 2 _ rfl
  have g0_2 := Option.some.inj g0_2; subst g0_2
  obtain ⟨a0_2, e0_2, -⟩ := DataW.trod_bool Try.underlying4 hy0_2
  simp only [List.cons.injEq, and_true] at e0_2; subst e0_2
  obtain ⟨u0_3, y0_3, m0_3, g0_3, hy0_3⟩ := hf0 3 _ rfl
  have g0_3 := Option.some.inj g0_3; subst g0_3
  obtain ⟨a0_3, e0_3, -, w0_3⟩ := DataW.trod_int Try.underlying3 hy0_3
  simp only [List.cons.injEq, and_true] at e0_3; subst e0_3
  obtain ⟨u0_4, y0_4, m0_4, g0_4, hy0_4⟩ := hf0 4 _ rfl
  have g0_4 := Option.some.inj g0_4; subst g0_4
  obtain ⟨a0_4, e0_4, -, w0_4⟩ := DataW.trod_int Try.underlying3 hy0_4
  simp only [List.cons.injEq, and_true] at e0_4; subst e0_4
  obtain ⟨cs1, rfl, hl1, hf1⟩ := open_struct Try.underlying29 (by kernel_rfl) (by kernel_rfl) (hval 1 29 v1 rfl rfl) h1
  obtain ⟨c1_0, c1_1, c1_2, c1_3, c1_4, rfl⟩ := list5 hl1
  obtain ⟨u1_0, y1_0, m1_0, g1_0, hy1_0⟩ := hf1 0 _ rfl
  have g1_0 := Option.some.inj g1_0; subst g1_0
  obtain ⟨a1_0, e1_0, -, w1_0⟩ := DataW.trod_int Try.underlying3 hy1_0
  simp only [List.cons.injEq, and_true] at e1_0; subst e1_0
  obtain ⟨u1_1, y1_1, m1_1, g1_1, hy1_1⟩ := hf1 1 _ rfl
  have g1_1 := Option.some.inj g1_1; subst g1_1
  obtain ⟨a1_1, e1_1, -, w1_1⟩ := DataW.trod_int Try.underlying3 hy1_1
  simp only [List.cons.injEq, and_true] at e1_1; subst e1_1
  obtain ⟨u1_2, y1_2, m1_2, g1_2, hy1_2⟩ := hf1 2 _ rfl
  have g1_2 := Option.some.inj g1_2; subst g1_2
  obtain ⟨a1_2, e1_2, -⟩ := DataW.trod_bool Try.underlying4 hy1_2
  simp only [List.cons.injEq, and_true] at e1_2; subst e1_2
  obtain ⟨u1_3, y1_3, m1_3, g1_3, hy1_3⟩ := hf1 3 _ rfl
  have g1_3 := Option.some.inj g1_3; subst g1_3
  obtain ⟨a1_3, e1_3, -, w1_3⟩ := DataW.trod_int Try.underlying3 hy1_3
  simp only [List.cons.injEq, and_true] at e1_3; subst e1_3
  obtain ⟨u1_4, y1_4, m1_4, g1_4, hy1_4⟩ := hf1 4 _ rfl
  have g1_4 := Option.some.inj g1_4; subst g1_4
  obtain ⟨a1_4, e1_4, -, w1_4⟩ := DataW.trod_int Try.underlying3 hy1_4
  simp only [List.cons.injEq, and_true] at e1_4; subst e1_4
  refine (FnExactOverlaps_walk a0_0 a0_1 a0_2 a0_3 a0_4 a1_0 a1_1 a1_2 a1_3 a1_4 w0_0 w0_1 w0_3 w0_4 w1_0 w1_1 w1_3 w1_4 W).mono fun e W' ⟨he, hg⟩ => ?_
  subst he
  exact ⟨_, rfl, post_law laidOut (by kernel_rfl) rfl Try.underlying4 rfl ⟨rfl, rfl, rfl⟩ hW' hg⟩
theorem proved : Rows.FnExactOverlapsSaid :=
  OpenClaim.holds_of_wide 4 Try.f4 rfl rfl rfl rfl rfl rfl rfl ⟨rfl, rfl, rfl, rfl, rfl⟩ rfl rfl rfl rfl rfl (by kernel_rfl) Try.func4 (by kernel_rfl)
    (of_decide_eq_true (by kernel_rfl)) (by unfold Func.isWrapper; first | (rw [if_pos (by decide +kernel)]; kernel_rfl) | (rw [if_neg (by decide +kernel)]; exact ⟨rfl, rfl⟩))
    (fun os started H enc _ => lifted os started H enc)
end fnExactOverlaps

end Go.Proofs.Ytigdmppbbeakgaa
