/- The law FnExactLockOrder: for every input it returns true and leaves its arguments as they were. No condition. -/
import Derived.Test.YtigdmppbbeakgaaLockFn
import Derived.Test.YtigdmppbbeakgaaLockMark
namespace Go.Proofs.Ytigdmppbbeakgaa
open Go.RowKit Go.WideShapes Go.ChangeShapes Go.ChangeAt Go.Joins Go.Deep
set_option linter.unusedVariables false
set_option maxRecDepth 100000 in
set_option maxHeartbeats 4000000 in
theorem FnExactLockOrder_walk (w : World) (va : Value) (a : List LockR) (ra : RdLk w w.heap.size va a) (hoka : ∀ r ∈ a, (Lit.int .i64 r.start).wf = true ∧ ∀ x ∈ r.ships, (Lit.int .i64 x).wf = true) (u : Bool) :
    Calls Try.prog 13 #[va, .bool u] w fun e w' => e = .returned (.bool true) ∧ Below w.heap.size w w' := by
  go_enter Try.func13, Try.ntmps13
  go_wp2_with fail
  refine (szLockingS_any _ _ 1048576 _ (ra.mono (by omega)) (by omega) (by omega)).mono ?_; rintro e w1 ⟨z1, rfl, hz1, hm1, hb1⟩
  have s1 := hb1.size
  replace ra := ra.keep hb1 (by omega)
  have hB1 := bnext (Below.refl _ _) hb1 (Nat.le_refl _)
  by_cases hn1 : z1 < 0
  · clear hz1
    go_wp2_with fail
    go_ret
    exact ⟨rfl, hB1⟩
  obtain ⟨p1, q1⟩ := hz1 (by omega)
  obtain ⟨qa0, qa1⟩ := q1
  have qa2 : ∀ r ∈ a, r.ships.length ≤ 1048576 := fun r hr => Nat.le_trans (lkTotal_mem hr) qa1
  have hLa := Nat.le_trans (lkOrd_len u a) qa1
  go_wp2_with fail
  refine (toLockingS_any _ a _ (ra.mono (by omega)) (by omega) qa2).mono ?_; rintro e w2 ⟨v2, c, rfl, ho2, hdc, hb2⟩
  have s2 := hb2.size
  replace ra := ra.keep hb2 (by omega)
  have hB2 := bnext hB1 hb2 (Nat.le_refl _)
  have rc := ho2.rd
  clear ho2
  go_wp2_with fail
  refine (spec_LockOrder_any _ c u _ (rc.mono (by omega)) (by rw [lkTotal_d hdc]; exact qa1)).mono ?_; rintro e w3 ⟨v3, rfl, ho3, hb3⟩
  have s3 := hb3.size
  replace ra := ra.keep hb3 (by omega)
  replace rc := rc.keep hb3 (by omega)
  have hB3 := bnext hB2 hb3 (Nat.le_refl _)
  rw [hdc] at ho3
  have ox := ho3.b
  have rx := ox.rdB encI_len
  clear ho3
  clear rc
  go_wp2_with fail
  refine (toLockingS_any _ a _ (ra.mono (by omega)) (by omega) qa2).mono ?_; rintro e w4 ⟨v4, d, rfl, ho4, hdd, hb4⟩
  have s4 := hb4.size
  replace ra := ra.keep hb4 (by omega)
  replace rx := rx.keep hb4 (by omega)
  replace ox := ox.keep hb4 (by omega)
  have hB4 := bnext hB3 hb4 (Nat.le_refl _)
  have rd := ho4.rd
  have od := ho4
  clear ho4
  go_wp2_with fail
  refine (impl_LockOrder_any _ d u _ (rd.mono (by omega)) (by rw [lkTotal_d hdd]; exact qa1)).mono ?_; rintro e w5 ⟨v5, rfl, ho5, hb5⟩
  have s5 := hb5.size
  replace ra := ra.keep hb5 (by omega)
  replace rx := rx.keep hb5 (by omega)
  replace ox := ox.keep hb5 (by omega)
  replace od := od.keep hb5 (by omega)
  replace rd := rd.keep hb5 (by omega)
  have hB5 := bnext hB4 hb5 (Nat.le_refl _)
  rw [hdd] at ho5
  have oy := ho5.b
  have ry := oy.rdB encI_len
  clear ho5
  go_wp2_with fail
  refine (eqIntS_any _ _ _ _ _ (ry.mono (by omega)) (rx.mono (by omega))).mono ?_; rintro e w6 ⟨rfl, hb6⟩
  have s6 := hb6.size
  replace ra := ra.keep hb6 (by omega)
  replace rx := rx.keep hb6 (by omega)
  replace ox := ox.keep hb6 (by omega)
  replace od := od.keep hb6 (by omega)
  replace rd := rd.keep hb6 (by omega)
  replace ry := ry.keep hb6 (by omega)
  replace oy := oy.keep hb6 (by omega)
  have hB6 := bnext hB5 hb6 (Nat.le_refl _)
  go_wp2_with fail
  refine (toLockingS_any _ a _ (ra.mono (by omega)) (by omega) qa2).mono ?_; rintro e w7 ⟨v7, e, rfl, ho7, hde, hb7⟩
  have s7 := hb7.size
  replace ra := ra.keep hb7 (by omega)
  replace rx := rx.keep hb7 (by omega)
  replace ox := ox.keep hb7 (by omega)
  replace od := od.keep hb7 (by omega)
  replace rd := rd.keep hb7 (by omega)
  replace ry := ry.keep hb7 (by omega)
  replace oy := oy.keep hb7 (by omega)
  have hB7 := bnext hB6 hb7 (Nat.le_refl _)
  have re := ho7.rd
  clear ho7
  go_wp2_with fail
  refine (eqLockingS_any _ _ d e _ (rd.mono (by omega)) (re.mono (by omega))).mono ?_; rintro e w8 ⟨rfl, hb8⟩
  have s8 := hb8.size
  replace ra := ra.keep hb8 (by omega)
  replace rx := rx.keep hb8 (by omega)
  replace ox := ox.keep hb8 (by omega)
  replace od := od.keep hb8 (by omega)
  replace rd := rd.keep hb8 (by omega)
  replace ry := ry.keep hb8 (by omega)
  replace oy := oy.keep hb8 (by omega)
  replace re := re.keep hb8 (by omega)
  have hB8 := bnext hB7 hb8 (Nat.le_refl _)
  rw [hdd, hde, decide_eq_true rfl]
  clear re
  go_wp2_with fail
  refine (markLockingS_any _ d 1 _ _ _ od (by omega) (by omega) (by have := congrArg List.length hdd; simp at this; omega) (by rw [lkTotal_d hdd]; exact qa1)).mono ?_; rintro e w9 ⟨k9, rfl, hka9, hkb9, ht9⟩
  clear od
  clear rd
  have s9 := ht9.size
  replace ox := ox.tou ht9 (by omega)
  replace oy := oy.tou ht9 (by omega)
  replace ra := ra.keep (ht9.below (by omega)) (by omega)
  replace rx := ox.rdB encI_len
  replace ry := oy.rdB encI_len
  have hB9 := hB8.trans ((ht9.below (by omega)).mono (by omega))
  go_wp2_with fail
  refine (eqIntS_any _ _ _ _ _ (ry.mono (by omega)) (rx.mono (by omega))).mono ?_; rintro e w10 ⟨rfl, hb10⟩
  have s10 := hb10.size
  replace ra := ra.keep hb10 (by omega)
  replace rx := rx.keep hb10 (by omega)
  replace ox := ox.keep hb10 (by omega)
  replace ry := ry.keep hb10 (by omega)
  replace oy := oy.keep hb10 (by omega)
  have hB10 := bnext hB9 hb10 (Nat.le_refl _)
  go_wp2_with fail
  refine (markIntS_any _ _ _ _ _ oy.1 (by omega) (by omega) (by omega)).mono ?_; rintro e w11 ⟨rfl, ho11, hg11⟩
  have ht11 := Tou.grown hg11 (fun k hk => ⟨(World.ownsRow.lt oy.1 k hk).1, oy.2 k hk⟩)
  replace oy := oy.again ho11; clear ho11 hg11
  have s11 := ht11.size
  replace ox := ox.tou ht11 (by omega)
  replace ra := ra.keep (ht11.below (by omega)) (by omega)
  replace rx := ox.rdB encI_len
  replace ry := oy.rdB encI_len
  have hB11 := hB10.trans ((ht11.below (by omega)).mono (by omega))
  go_wp2_with fail
  refine (heldIntS_any _ _ _ _ (ry.mono (by omega)) (by omega) (by omega) (by omega)).mono ?_; rintro e w12 ⟨rfl, hb12⟩
  have s12 := hb12.size
  replace ra := ra.keep hb12 (by omega)
  replace rx := rx.keep hb12 (by omega)
  replace ox := ox.keep hb12 (by omega)
  replace ry := ry.keep hb12 (by omega)
  replace oy := oy.keep hb12 (by omega)
  have hB12 := bnext hB11 hb12 (Nat.le_refl _)
  go_wp2_with fail
  refine (toLockingS_any _ a _ (ra.mono (by omega)) (by omega) qa2).mono ?_; rintro e w13 ⟨v13, f, rfl, ho13, hdf, hb13⟩
  have s13 := hb13.size
  replace ra := ra.keep hb13 (by omega)
  replace rx := rx.keep hb13 (by omega)
  replace ox := ox.keep hb13 (by omega)
  replace ry := ry.keep hb13 (by omega)
  replace oy := oy.keep hb13 (by omega)
  have hB13 := bnext hB12 hb13 (Nat.le_refl _)
  have rf := ho13.rd
  clear ho13
  go_wp2_with fail
  refine (impl_LockOrder_any _ f u _ (rf.mono (by omega)) (by rw [lkTotal_d hdf]; exact qa1)).mono ?_; rintro e w14 ⟨v14, rfl, ho14, hb14⟩
  have s14 := hb14.size
  replace ra := ra.keep hb14 (by omega)
  replace rx := rx.keep hb14 (by omega)
  replace ox := ox.keep hb14 (by omega)
  replace ry := ry.keep hb14 (by omega)
  replace oy := oy.keep hb14 (by omega)
  replace rf := rf.keep hb14 (by omega)
  have hB14 := bnext hB13 hb14 (Nat.le_refl _)
  rw [hdf] at ho14
  have oz := ho14.b
  have rz := oz.rdB encI_len
  clear ho14
  clear rf
  go_wp2_with fail
  refine (eqIntS_any _ _ _ _ _ (rz.mono (by omega)) (rx.mono (by omega))).mono ?_; rintro e w15 ⟨rfl, hb15⟩
  have s15 := hb15.size
  replace ra := ra.keep hb15 (by omega)
  replace rx := rx.keep hb15 (by omega)
  replace ox := ox.keep hb15 (by omega)
  replace ry := ry.keep hb15 (by omega)
  replace oy := oy.keep hb15 (by omega)
  replace rz := rz.keep hb15 (by omega)
  replace oz := oz.keep hb15 (by omega)
  have hB15 := bnext hB14 hb15 (Nat.le_refl _)
  go_wp2_with fail
  refine (heldIntS_any _ _ _ _ (ry.mono (by omega)) (by omega) (by omega) (by omega)).mono ?_; rintro e w16 ⟨rfl, hb16⟩
  have s16 := hb16.size
  replace ra := ra.keep hb16 (by omega)
  replace rx := rx.keep hb16 (by omega)
  replace ox := ox.keep hb16 (by omega)
  replace ry := ry.keep hb16 (by omega)
  replace oy := oy.keep hb16 (by omega)
  replace rz := rz.keep hb16 (by omega)
  replace oz := oz.keep hb16 (by omega)
  have hB16 := bnext hB15 hb16 (Nat.le_refl _)
  go_wp2_with fail
  go_ret
  exact ⟨rfl, hB16⟩
namespace fnExactLockOrder
set_option maxRecDepth 100000 in
theorem lifted (os : Os) (started : os.Started) (H : Type) (enc : TypeId × Value → H) :
    ReturnsInHanded {} Try.checked os 13 .any (Rows.fnExactLockOrderSpec.pre6 enc Try.prog Try.f13 Rows.fnExactLockOrderRow.domain false) (Rows.fnExactLockOrderSpec.post enc Try.prog Try.f13 false true false false) := by
  refine returnsInHanded_of_change (C := Try.checked) own started (by kernel_rfl) Try.func13
    (ChangeSpec.witness6 (enc := enc) (C := Try.checked) false ⟨#[], #[.slice none 0 0, .bool false], []⟩ 8 (by kernel_rfl) (by kernel_rfl) (by kernel_rfl) (by kernel_rfl)) ?_
  intro W base args ds gs before hval0 hW hcnd _
  have hval : ∀ (j : Nat) t v, Try.f13.params[j]? = some t → args[j]? = some v → Value.okWide Try.prog W .any base t v := hval0
  have hW' := hW
  obtain ⟨p, q, hA0, hV, hbef, hfz, hnd⟩ := hW
  have hA : DataW.TrodAll enc Try.prog W 0 (fun _ => true) true Try.f13.params.toList args.toList ds p := hA0
  rw [Try.params13] at hA hval
  obtain ⟨v0, vs0, d0, ds0, p0, q0, hargs, rfl, hp0, h0, r0⟩ := trodAll_cons hA
  obtain ⟨v1, vs1, d1, ds1, p1, q1, rfl, rfl, hp1, h1, r1⟩ := trodAll_cons r0
  obtain ⟨rfl, rfl, hpn⟩ := trodAll_nil r1
  obtain rfl : args = #[v0, v1] := by cases args; simp_all
  obtain ⟨rfl, rfl⟩ := trodVars_none hV
  obtain ⟨a0, g0, w0⟩ := openLockingS (hval 0 53 v0 rfl rfl) h0
  obtain ⟨a1, rfl, -, -⟩ := open_bool Try.underlying4 (hval 1 4 v1 rfl rfl) h1
  refine (FnExactLockOrder_walk W _ a0 g0 w0 a1).mono fun e W' ⟨he, hg⟩ => ?_
  subst he
  exact ⟨_, rfl, post_law laidOut (by kernel_rfl) rfl Try.underlying4 rfl ⟨rfl, rfl, rfl⟩ hW' hg⟩
theorem proved : Rows.FnExactLockOrderSaid :=
  OpenClaim.holds_of_wide 13 Try.f13 rfl rfl rfl rfl rfl rfl rfl ⟨rfl, rfl, rfl, rfl, rfl⟩ rfl rfl rfl rfl rfl (by kernel_rfl) Try.func13 (by kernel_rfl)
    (of_decide_eq_true (by kernel_rfl)) (by unfold Func.isWrapper; first | (rw [if_pos (by decide +kernel)]; kernel_rfl) | (rw [if_neg (by decide +kernel)]; exact ⟨rfl, rfl⟩))
    (fun os started H enc _ => lifted os started H enc)
end fnExactLockOrder
end Go.Proofs.Ytigdmppbbeakgaa
