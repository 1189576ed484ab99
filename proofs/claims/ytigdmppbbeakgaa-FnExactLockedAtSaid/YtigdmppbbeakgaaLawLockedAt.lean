/- The law FnExactLockedAt: for every input it returns true and leaves its arguments as they were. No condition. -/
import Derived.Test.YtigdmppbbeakgaaLockFn
namespace Go.Proofs.Ytigdmppbbeakgaa
open Go.RowKit Go.WideShapes Go.ChangeShapes Go.ChangeAt Go.Joins Go.Deep
set_option linter.unusedVariables false
set_option maxRecDepth 100000 in
set_option maxHeartbeats 4000000 in
theorem FnExactLockedAt_walk (w : World) (va : Value) (a : List LockR) (ra : RdLk w w.heap.size va a) (hoka : ∀ r ∈ a, (Lit.int .i64 r.start).wf = true ∧ ∀ x ∈ r.ships, (Lit.int .i64 x).wf = true) (s : Int) (hws : (Lit.int .i64 s).wf = true) (u : Bool) :
    Calls Try.prog 12 #[va, .int .i64 s, .bool u] w fun e w' => e = .returned (.bool true) ∧ Below w.heap.size w w' := by
  go_enter Try.func12, Try.ntmps12
  go_wp2_with fail
  refine (szLockingS_any _ _ 1048576 _ (ra.mono (by omega)) (by omega) (by omega)).mono ?_; rintro e w1 ⟨z1, rfl, hz1, hm1, hb1⟩
  have s1 := hb1.size
  replace ra := ra.keep hb1 (by omega)
  have hB1 := bnext (Below.refl _ _) hb1 (Nat.le_refl _)
  by_cases hn1 : z1 < 0
  · clear hz1
    go_wp2_with fail
    go_ret
    exact ⟨rfl, hB1⟩
  obtain ⟨p1, q1⟩ := hz1 (by omega)
  obtain ⟨qa0, qa1⟩ := q1
  have qa2 : ∀ r ∈ a, r.ships.length ≤ 1048576 := fun r hr => Nat.le_trans (lkTotal_mem hr) qa1
  go_wp2_with fail
  refine (toLockingS_any _ a _ (ra.mono (by omega)) (by omega) qa2).mono ?_; rintro e w2 ⟨v2, c, rfl, ho2, hdc, hb2⟩
  have s2 := hb2.size
  replace ra := ra.keep hb2 (by omega)
  have hB2 := bnext hB1 hb2 (Nat.le_refl _)
  have rc := ho2.rd
  clear ho2
  go_wp2_with fail
  refine (spec_LockedAt_any _ c _ _ _ (rc.mono (by omega))).mono ?_; rintro e w3 ⟨rfl, hb3⟩
  have s3 := hb3.size
  replace ra := ra.keep hb3 (by omega)
  replace rc := rc.keep hb3 (by omega)
  have hB3 := bnext hB2 hb3 (Nat.le_refl _)
  rw [hdc]
  clear rc
  go_wp2_with fail
  refine (toLockingS_any _ a _ (ra.mono (by omega)) (by omega) qa2).mono ?_; rintro e w4 ⟨v4, d, rfl, ho4, hdd, hb4⟩
  have s4 := hb4.size
  replace ra := ra.keep hb4 (by omega)
  have hB4 := bnext hB3 hb4 (Nat.le_refl _)
  have rd := ho4.rd
  clear ho4
  go_wp2_with fail
  refine (impl_LockedAt_any _ d _ _ _ (rd.mono (by omega))).mono ?_; rintro e w5 ⟨rfl, hb5⟩
  have s5 := hb5.size
  replace ra := ra.keep hb5 (by omega)
  replace rd := rd.keep hb5 (by omega)
  have hB5 := bnext hB4 hb5 (Nat.le_refl _)
  rw [hdd]
  go_wp2_with fail
  refine (toLockingS_any _ a _ (ra.mono (by omega)) (by omega) qa2).mono ?_; rintro e w6 ⟨v6, e, rfl, ho6, hde, hb6⟩
  have s6 := hb6.size
  replace ra := ra.keep hb6 (by omega)
  replace rd := rd.keep hb6 (by omega)
  have hB6 := bnext hB5 hb6 (Nat.le_refl _)
  have re := ho6.rd
  clear ho6
  go_wp2_with fail
  refine (eqLockingS_any _ _ d e _ (rd.mono (by omega)) (re.mono (by omega))).mono ?_; rintro e w7 ⟨rfl, hb7⟩
  have s7 := hb7.size
  replace ra := ra.keep hb7 (by omega)
  replace rd := rd.keep hb7 (by omega)
  replace re := re.keep hb7 (by omega)
  have hB7 := bnext hB6 hb7 (Nat.le_refl _)
  rw [hdd, hde, decide_eq_true rfl]
  go_wp2_with fail
  go_ret
  exact ⟨rfl, hB7⟩
namespace fnExactLockedAt
set_option maxRecDepth 100000 in
theorem lifted (os : Os) (started : os.Started) (H : Type) (enc : TypeId × Value → H) :
    ReturnsInHanded {} Try.checked os 12 .any (Rows.fnExactLockedAtSpec.pre6 enc Try.prog Try.f12 Rows.fnExactLockedAtRow.domain false) (Rows.fnExactLockedAtSpec.post enc Try.prog Try.f12 false true false false) := by
  refine returnsInHanded_of_change (C := Try.checked) own started (by kernel_rfl) Try.func12
    (ChangeSpec.witness6 (enc := enc) (C := Try.checked) false ⟨#[], #[.slice none 0 0, .int .i64 0, .bool false], []⟩ 8 (by kernel_rfl) (by kernel_rfl) (by kernel_rfl) (by kernel_rfl)) ?_
  intro W base args ds gs before hval0 hW hcnd _
  have hval : ∀ (j : Nat) t v, Try.f12.params[j]? = some t → args[j]? = some v → Value.okWide Try.prog W .any base t v := hval0
  have hW' := hW
  obtain ⟨p, q, hA0, hV, hbef, hfz, hnd⟩ := hW
  have hA : DataW.TrodAll enc Try.prog W 0 (fun _ => true) true Try.f12.params.toList args.toList ds p := hA0
  rw [Try.params12] at hA hval
  obtain ⟨v0, vs0, d0, ds0, p0, q0, hargs, rfl, hp0, h0, r0⟩ := trodAll_cons hA
  obtain ⟨v1, vs1, d1, ds1, p1, q1, rfl, rfl, hp1, h1, r1⟩ := trodAll_cons r0
  obtain ⟨v2, vs2, d2, ds2, p2, q2, rfl, rfl, hp2, h2, r2⟩ := trodAll_cons r1
  obtain ⟨rfl, rfl, hpn⟩ := trodAll_nil r2
  obtain rfl : args = #[v0, v1, v2] := by cases args; simp_all
  obtain ⟨rfl, rfl⟩ := trodVars_none hV
  obtain ⟨a0, g0, w0⟩ := openLockingS (hval 0 53 v0 rfl rfl) h0
  obtain ⟨a1, rfl, -, -, w1⟩ := open_int Try.underlying3 (hval 1 3 v1 rfl rfl) h1
  obtain ⟨a2, rfl, -, -⟩ := open_bool Try.underlying4 (hval 2 4 v2 rfl rfl) h2
  refine (FnExactLockedAt_walk W _ a0 g0 w0 a1 w1 a2).mono fun e W' ⟨he, hg⟩ => ?_
  subst he
  exact ⟨_, rfl, post_law laidOut (by kernel_rfl) rfl Try.underlying4 rfl ⟨rfl, rfl, rfl⟩ hW' hg⟩
theorem proved : Rows.FnExactLockedAtSaid :=
  OpenClaim.holds_of_wide 12 Try.f12 rfl rfl rfl rfl rfl rfl rfl ⟨rfl, rfl, rfl, rfl, rfl⟩ rfl rfl rfl rfl rfl (by kernel_rfl) Try.func12 (by kernel_rfl)
    (of_decide_eq_true (by kernel_rfl)) (by unfold Func.isWrapper; first | (rw [if_pos (by decide +kernel)]; kernel_rfl) | (rw [if_neg (by decide +kernel)]; exact ⟨rfl, rfl⟩))
    (fun os started H enc _ => lifted os started H enc)
end fnExactLockedAt
end Go.Proofs.Ytigdmppbbeakgaa
