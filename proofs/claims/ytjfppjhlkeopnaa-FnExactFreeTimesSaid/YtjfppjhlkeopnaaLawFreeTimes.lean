/- The law FnExactFreeTimes: for every input it returns true and leaves its arguments as they were. No condition. -/
import Derived.Test.YtjfppjhlkeopnaaFreeW
import Derived.Test.YtjfppjhlkeopnaaSWindow
import Derived.Test.YtjfppjhlkeopnaaTou
namespace Go.Proofs.Ytjfppjhlkeopnaa
open Go.RowKit Go.WideShapes Go.ChangeShapes Go.ChangeAt Go.Joins Go.Deep
set_option linter.unusedVariables false
set_option maxRecDepth 100000 in
set_option maxHeartbeats 4000000 in
theorem FnExactFreeTimes_walk (w : World) (va : Value) (a : List BerthD) (ra : RdBerth w va a) (hoka : ∀ x ∈ a, x.ok) (vs : Value) (s : List StayD) (rs : RdStay w vs s) (hoks : ∀ x ∈ s, x.ok) (b : Int) (hwb : (Lit.int .i64 b).wf = true) :
    Calls Try.prog 10 #[va, vs, .int .i64 b] w fun e w' => e = .returned (.bool true) ∧ Below w.heap.size w w' := by
  go_enter Try.func10, Try.ntmps10
  go_wp2_with fail
  refine (szBerthS_any _ _ 1048576 _ (ra.mono (by omega)) (fun x hx => BerthD.ok_size (hoka x hx)) (by omega) (by omega)).mono ?_; rintro e w1 ⟨z1, rfl, hz1, hm1, hb1⟩
  have s1 := hb1.size
  replace ra := ra.keep hb1 (by omega)
  replace rs := rs.keep hb1 (by omega)
  have hB1 := bnext (Below.refl _ _) hb1 (Nat.le_refl _)
  by_cases hn1 : z1 < 0
  · clear hz1
    go_wp2_with fail
    go_ret
    exact ⟨rfl, hB1⟩
  obtain ⟨p1, q1⟩ := hz1 (by omega)
  go_wp2_with fail
  refine (szStayS_any _ _ z1 _ (rs.mono (by omega)) (by omega) (by omega)).mono ?_; rintro e w2 ⟨z2, rfl, hz2, hm2, hb2⟩
  have s2 := hb2.size
  replace ra := ra.keep hb2 (by omega)
  replace rs := rs.keep hb2 (by omega)
  have hB2 := bnext hB1 hb2 (Nat.le_refl _)
  by_cases hn2 : z2 < 0
  · clear hz2
    go_wp2_with fail
    go_ret
    exact ⟨rfl, hB2⟩
  obtain ⟨p2, q2⟩ := hz2 (by omega)
  have hLa := freeL_len a s b
  go_wp2_with fail
  refine (toBerthS_any _ _ _ (ra.mono (by omega)) (by omega)).mono ?_; rintro e w3 ⟨v3, rfl, ho3, hb3⟩
  have s3 := hb3.size
  replace ra := ra.keep hb3 (by omega)
  replace rs := rs.keep hb3 (by omega)
  have hB3 := bnext hB2 hb3 (Nat.le_refl _)
  have on1 := ho3.b
  have rn1 := on1.rdB BerthD.enc_len
  clear ho3
  clear on1
  go_wp2_with fail
  refine (toStayS_any _ _ _ (rs.mono (by omega)) (by omega)).mono ?_; rintro e w4 ⟨v4, rfl, ho4, hb4⟩
  have s4 := hb4.size
  replace ra := ra.keep hb4 (by omega)
  replace rs := rs.keep hb4 (by omega)
  replace rn1 := rn1.keep hb4 (by omega)
  have hB4 := bnext hB3 hb4 (Nat.le_refl _)
  have on2 := ho4.b
  have rn2 := on2.rdB StayD.enc_len
  clear ho4
  clear on2
  go_wp2_with fail
  refine (spec_FreeTimes_any _ _ a s b _ (rn1.mono (by omega)) (rn2.mono (by omega)) (fun x hx => BerthD.ok_size (hoka x hx)) hoks (by omega)).mono ?_; rintro e w5 ⟨v5, rfl, ho5, hb5⟩
  have s5 := hb5.size
  replace ra := ra.keep hb5 (by omega)
  replace rs := rs.keep hb5 (by omega)
  replace rn1 := rn1.keep hb5 (by omega)
  replace rn2 := rn2.keep hb5 (by omega)
  have hB5 := bnext hB4 hb5 (Nat.le_refl _)
  have ox := ho5.b
  have rx := ox.rdB WindowD.enc_len
  clear ho5
  clear rn1
  clear rn2
  go_wp2_with fail
  refine (toBerthS_any _ _ _ (ra.mono (by omega)) (by omega)).mono ?_; rintro e w6 ⟨v6, rfl, ho6, hb6⟩
  have s6 := hb6.size
  replace ra := ra.keep hb6 (by omega)
  replace rs := rs.keep hb6 (by omega)
  replace rx := rx.keep hb6 (by omega)
  replace ox := ox.keep hb6 (by omega)
  have hB6 := bnext hB5 hb6 (Nat.le_refl _)
  have on4 := ho6.b
  have rn4 := on4.rdB BerthD.enc_len
  clear ho6
  go_wp2_with fail
  refine (toStayS_any _ _ _ (rs.mono (by omega)) (by omega)).mono ?_; rintro e w7 ⟨v7, rfl, ho7, hb7⟩
  have s7 := hb7.size
  replace ra := ra.keep hb7 (by omega)
  replace rs := rs.keep hb7 (by omega)
  replace rx := rx.keep hb7 (by omega)
  replace ox := ox.keep hb7 (by omega)
  replace rn4 := rn4.keep hb7 (by omega)
  replace on4 := on4.keep hb7 (by omega)
  have hB7 := bnext hB6 hb7 (Nat.le_refl _)
  have on5 := ho7.b
  have rn5 := on5.rdB StayD.enc_len
  clear ho7
  go_wp2_with fail
  refine (impl_FreeTimes_any _ _ a s b _ (rn4.mono (by omega)) (rn5.mono (by omega)) (fun x hx => BerthD.ok_size (hoka x hx)) hoks (by omega)).mono ?_; rintro e w8 ⟨v8, rfl, ho8, hb8⟩
  have s8 := hb8.size
  replace ra := ra.keep hb8 (by omega)
  replace rs := rs.keep hb8 (by omega)
  replace rx := rx.keep hb8 (by omega)
  replace ox := ox.keep hb8 (by omega)
  replace rn4 := rn4.keep hb8 (by omega)
  replace on4 := on4.keep hb8 (by omega)
  replace rn5 := rn5.keep hb8 (by omega)
  replace on5 := on5.keep hb8 (by omega)
  have hB8 := bnext hB7 hb8 (Nat.le_refl _)
  have oy := ho8.b
  have ry := oy.rdB WindowD.enc_len
  clear ho8
  go_wp2_with fail
  refine (eqWindowS_any _ _ _ _ _ (ry.mono (by omega)) (rx.mono (by omega))).mono ?_; rintro e w9 ⟨rfl, hb9⟩
  have s9 := hb9.size
  replace ra := ra.keep hb9 (by omega)
  replace rs := rs.keep hb9 (by omega)
  replace rx := rx.keep hb9 (by omega)
  replace ox := ox.keep hb9 (by omega)
  replace rn4 := rn4.keep hb9 (by omega)
  replace on4 := on4.keep hb9 (by omega)
  replace rn5 := rn5.keep hb9 (by omega)
  replace on5 := on5.keep hb9 (by omega)
  replace ry := ry.keep hb9 (by omega)
  replace oy := oy.keep hb9 (by omega)
  have hB9 := bnext hB8 hb9 (Nat.le_refl _)
  go_wp2_with fail
  refine (toBerthS_any _ _ _ (ra.mono (by omega)) (by omega)).mono ?_; rintro e w10 ⟨v10, rfl, ho10, hb10⟩
  have s10 := hb10.size
  replace ra := ra.keep hb10 (by omega)
  replace rs := rs.keep hb10 (by omega)
  replace rx := rx.keep hb10 (by omega)
  replace ox := ox.keep hb10 (by omega)
  replace rn4 := rn4.keep hb10 (by omega)
  replace on4 := on4.keep hb10 (by omega)
  replace rn5 := rn5.keep hb10 (by omega)
  replace on5 := on5.keep hb10 (by omega)
  replace ry := ry.keep hb10 (by omega)
  replace oy := oy.keep hb10 (by omega)
  have hB10 := bnext hB9 hb10 (Nat.le_refl _)
  have on7 := ho10.b
  have rn7 := on7.rdB BerthD.enc_len
  clear ho10
  clear on7
  go_wp2_with fail
  refine (eqBerthS_any _ _ _ _ _ (rn4.mono (by omega)) (rn7.mono (by omega))).mono ?_; rintro e w11 ⟨rfl, hb11⟩
  have s11 := hb11.size
  replace ra := ra.keep hb11 (by omega)
  replace rs := rs.keep hb11 (by omega)
  replace rx := rx.keep hb11 (by omega)
  replace ox := ox.keep hb11 (by omega)
  replace rn4 := rn4.keep hb11 (by omega)
  replace on4 := on4.keep hb11 (by omega)
  replace rn5 := rn5.keep hb11 (by omega)
  replace on5 := on5.keep hb11 (by omega)
  replace ry := ry.keep hb11 (by omega)
  replace oy := oy.keep hb11 (by omega)
  replace rn7 := rn7.keep hb11 (by omega)
  have hB11 := bnext hB10 hb11 (Nat.le_refl _)
  clear rn7
  go_wp2_with fail
  refine (toStayS_any _ _ _ (rs.mono (by omega)) (by omega)).mono ?_; rintro e w12 ⟨v12, rfl, ho12, hb12⟩
  have s12 := hb12.size
  replace ra := ra.keep hb12 (by omega)
  replace rs := rs.keep hb12 (by omega)
  replace rx := rx.keep hb12 (by omega)
  replace ox := ox.keep hb12 (by omega)
  replace rn4 := rn4.keep hb12 (by omega)
  replace on4 := on4.keep hb12 (by omega)
  replace rn5 := rn5.keep hb12 (by omega)
  replace on5 := on5.keep hb12 (by omega)
  replace ry := ry.keep hb12 (by omega)
  replace oy := oy.keep hb12 (by omega)
  have hB12 := bnext hB11 hb12 (Nat.le_refl _)
  have on8 := ho12.b
  have rn8 := on8.rdB StayD.enc_len
  clear ho12
  clear on8
  go_wp2_with fail
  refine (eqStayS_any _ _ _ _ _ (rn5.mono (by omega)) (rn8.mono (by omega))).mono ?_; rintro e w13 ⟨rfl, hb13⟩
  have s13 := hb13.size
  replace ra := ra.keep hb13 (by omega)
  replace rs := rs.keep hb13 (by omega)
  replace rx := rx.keep hb13 (by omega)
  replace ox := ox.keep hb13 (by omega)
  replace rn4 := rn4.keep hb13 (by omega)
  replace on4 := on4.keep hb13 (by omega)
  replace rn5 := rn5.keep hb13 (by omega)
  replace on5 := on5.keep hb13 (by omega)
  replace ry := ry.keep hb13 (by omega)
  replace oy := oy.keep hb13 (by omega)
  replace rn8 := rn8.keep hb13 (by omega)
  have hB13 := bnext hB12 hb13 (Nat.le_refl _)
  clear rn8
  go_wp2_with fail
  refine (markBerthS_any _ _ _ _ _ on4.1 (by omega) (by omega) (by omega)).mono ?_; rintro e w14 ⟨rfl, ho14, hg14⟩
  have ht14 := Tou.grown hg14 (fun k hk => ⟨(World.ownsRow.lt on4.1 k hk).1, on4.2 k hk⟩)
  replace on4 := on4.again ho14; clear ho14 hg14
  have s14 := ht14.size
  replace ox := ox.tou ht14 (by omega)
  replace on5 := on5.tou ht14 (by omega)
  replace oy := oy.tou ht14 (by omega)
  replace ra := ra.keep (ht14.below (by omega)) (by omega)
  replace rs := rs.keep (ht14.below (by omega)) (by omega)
  replace rx := ox.rdB WindowD.enc_len
  replace rn4 := on4.rdB BerthD.enc_len
  replace rn5 := on5.rdB StayD.enc_len
  replace ry := oy.rdB WindowD.enc_len
  have hB14 := hB13.trans ((ht14.below (by omega)).mono (by omega))
  go_wp2_with fail
  refine (markStayS_any _ _ _ _ _ on5.1 (by omega) (by omega) (by omega)).mono ?_; rintro e w15 ⟨rfl, ho15, hg15⟩
  have ht15 := Tou.grown hg15 (fun k hk => ⟨(World.ownsRow.lt on5.1 k hk).1, on5.2 k hk⟩)
  replace on5 := on5.again ho15; clear ho15 hg15
  have s15 := ht15.size
  replace ox := ox.tou ht15 (by omega)
  replace on4 := on4.tou ht15 (by omega)
  replace oy := oy.tou ht15 (by omega)
  replace ra := ra.keep (ht15.below (by omega)) (by omega)
  replace rs := rs.keep (ht15.below (by omega)) (by omega)
  replace rx := ox.rdB WindowD.enc_len
  replace rn4 := on4.rdB BerthD.enc_len
  replace rn5 := on5.rdB StayD.enc_len
  replace ry := oy.rdB WindowD.enc_len
  have hB15 := hB14.trans ((ht15.below (by omega)).mono (by omega))
  clear rn4
  clear on4
  clear rn5
  clear on5
  go_wp2_with fail
  refine (eqWindowS_any _ _ _ _ _ (ry.mono (by omega)) (rx.mono (by omega))).mono ?_; rintro e w16 ⟨rfl, hb16⟩
  have s16 := hb16.size
  replace ra := ra.keep hb16 (by omega)
  replace rs := rs.keep hb16 (by omega)
  replace rx := rx.keep hb16 (by omega)
  replace ox := ox.keep hb16 (by omega)
  replace ry := ry.keep hb16 (by omega)
  replace oy := oy.keep hb16 (by omega)
  have hB16 := bnext hB15 hb16 (Nat.le_refl _)
  go_wp2_with fail
  refine (markWindowS_any _ _ _ _ _ oy.1 (by omega) (by omega) (by omega)).mono ?_; rintro e w17 ⟨rfl, ho17, hg17⟩
  have ht17 := Tou.grown hg17 (fun k hk => ⟨(World.ownsRow.lt oy.1 k hk).1, oy.2 k hk⟩)
  replace oy := oy.again ho17; clear ho17 hg17
  have s17 := ht17.size
  replace ox := ox.tou ht17 (by omega)
  replace ra := ra.keep (ht17.below (by omega)) (by omega)
  replace rs := rs.keep (ht17.below (by omega)) (by omega)
  replace rx := ox.rdB WindowD.enc_len
  replace ry := oy.rdB WindowD.enc_len
  have hB17 := hB16.trans ((ht17.below (by omega)).mono (by omega))
  go_wp2_with fail
  refine (heldWindowS_any _ _ _ _ (ry.mono (by omega)) (by omega) (by omega) (by omega)).mono ?_; rintro e w18 ⟨rfl, hb18⟩
  have s18 := hb18.size
  replace ra := ra.keep hb18 (by omega)
  replace rs := rs.keep hb18 (by omega)
  replace rx := rx.keep hb18 (by omega)
  replace ox := ox.keep hb18 (by omega)
  replace ry := ry.keep hb18 (by omega)
  replace oy := oy.keep hb18 (by omega)
  have hB18 := bnext hB17 hb18 (Nat.le_refl _)
  go_wp2_with fail
  refine (toBerthS_any _ _ _ (ra.mono (by omega)) (by omega)).mono ?_; rintro e w19 ⟨v19, rfl, ho19, hb19⟩
  have s19 := hb19.size
  replace ra := ra.keep hb19 (by omega)
  replace rs := rs.keep hb19 (by omega)
  replace rx := rx.keep hb19 (by omega)
  replace ox := ox.keep hb19 (by omega)
  replace ry := ry.keep hb19 (by omega)
  replace oy := oy.keep hb19 (by omega)
  have hB19 := bnext hB18 hb19 (Nat.le_refl _)
  have on1 := ho19.b
  have rn1 := on1.rdB BerthD.enc_len
  clear ho19
  clear on1
  go_wp2_with fail
  refine (toStayS_any _ _ _ (rs.mono (by omega)) (by omega)).mono ?_; rintro e w20 ⟨v20, rfl, ho20, hb20⟩
  have s20 := hb20.size
  replace ra := ra.keep hb20 (by omega)
  replace rs := rs.keep hb20 (by omega)
  replace rx := rx.keep hb20 (by omega)
  replace ox := ox.keep hb20 (by omega)
  replace ry := ry.keep hb20 (by omega)
  replace oy := oy.keep hb20 (by omega)
  replace rn1 := rn1.keep hb20 (by omega)
  have hB20 := bnext hB19 hb20 (Nat.le_refl _)
  have on2 := ho20.b
  have rn2 := on2.rdB StayD.enc_len
  clear ho20
  clear on2
  go_wp2_with fail
  refine (impl_FreeTimes_any _ _ a s b _ (rn1.mono (by omega)) (rn2.mono (by omega)) (fun x hx => BerthD.ok_size (hoka x hx)) hoks (by omega)).mono ?_; rintro e w21 ⟨v21, rfl, ho21, hb21⟩
  have s21 := hb21.size
  replace ra := ra.keep hb21 (by omega)
  replace rs := rs.keep hb21 (by omega)
  replace rx := rx.keep hb21 (by omega)
  replace ox := ox.keep hb21 (by omega)
  replace ry := ry.keep hb21 (by omega)
  replace oy := oy.keep hb21 (by omega)
  replace rn1 := rn1.keep hb21 (by omega)
  replace rn2 := rn2.keep hb21 (by omega)
  have hB21 := bnext hB20 hb21 (Nat.le_refl _)
  have oz := ho21.b
  have rz := oz.rdB WindowD.enc_len
  clear ho21
  clear rn1
  clear rn2
  go_wp2_with fail
  refine (eqWindowS_any _ _ _ _ _ (rz.mono (by omega)) (rx.mono (by omega))).mono ?_; rintro e w22 ⟨rfl, hb22⟩
  have s22 := hb22.size
  replace ra := ra.keep hb22 (by omega)
  replace rs := rs.keep hb22 (by omega)
  replace rx := rx.keep hb22 (by omega)
  replace ox := ox.keep hb22 (by omega)
  replace ry := ry.keep hb22 (by omega)
  replace oy := oy.keep hb22 (by omega)
  replace rz := rz.keep hb22 (by omega)
  replace oz := oz.keep hb22 (by omega)
  have hB22 := bnext hB21 hb22 (Nat.le_refl _)
  go_wp2_with fail
  refine (heldWindowS_any _ _ _ _ (ry.mono (by omega)) (by omega) (by omega) (by omega)).mono ?_; rintro e w23 ⟨rfl, hb23⟩
  have s23 := hb23.size
  replace ra := ra.keep hb23 (by omega)
  replace rs := rs.keep hb23 (by omega)
  replace rx := rx.keep hb23 (by omega)
  replace ox := ox.keep hb23 (by omega)
  replace ry := ry.keep hb23 (by omega)
  replace oy := oy.keep hb23 (by omega)
  replace rz := rz.keep hb23 (by omega)
  replace oz := oz.keep hb23 (by omega)
  have hB23 := bnext hB22 hb23 (Nat.le_refl _)
  go_wp2_with fail
  go_ret
  exact ⟨rfl, hB23⟩
namespace fnExactFreeTimes
set_option maxRecDepth 100000 in
theorem lifted (os : Os) (started : os.Started) (H : Type) (enc : TypeId × Value → H) :
    ReturnsInHanded {} Try.checked os 10 .any (Rows.fnExactFreeTimesSpec.pre6 enc Try.prog Try.f10 Rows.fnExactFreeTimesRow.domain false) (Rows.fnExactFreeTimesSpec.post enc Try.prog Try.f10 false true false false) := by
  refine returnsInHanded_of_change (C := Try.checked) own started (by kernel_rfl) Try.func10
    (ChangeSpec.witness6 (enc := enc) (C := Try.checked) false ⟨#[], #[.slice none 0 0, .slice none 0 0, .int .i64 0], []⟩ 8 (by kernel_rfl) (by kernel_rfl) (by kernel_rfl) (by kernel_rfl)) ?_
  intro W base args ds gs before hval0 hW hcnd _
  have hval : ∀ (j : Nat) t v, Try.f10.params[j]? = some t → args[j]? = some v → Value.okWide Try.prog W .any base t v := hval0
  have hW' := hW
  obtain ⟨p, q, hA0, hV, hbef, hfz, hnd⟩ := hW
  have hA : DataW.TrodAll enc Try.prog W 0 (fun _ => true) true Try.f10.params.toList args.toList ds p := hA0
  rw [Try.params10] at hA hval
  obtain ⟨v0, vs0, d0, ds0, p0, q0, hargs, rfl, hp0, h0, r0⟩ := trodAll_cons hA
  obtain ⟨v1, vs1, d1, ds1, p1, q1, rfl, rfl, hp1, h1, r1⟩ := trodAll_cons r0
  obtain ⟨v2, vs2, d2, ds2, p2, q2, rfl, rfl, hp2, h2, r2⟩ := trodAll_cons r1
  obtain ⟨rfl, rfl, hpn⟩ := trodAll_nil r2
  obtain rfl : args = #[v0, v1, v2] := by cases args; simp_all
  obtain ⟨rfl, rfl⟩ := trodVars_none hV
  obtain ⟨a0, g0, w0⟩ := openBerthS (hval 0 41 v0 rfl rfl) h0
  obtain ⟨a1, g1, w1⟩ := openStayS (hval 1 34 v1 rfl rfl) h1
  obtain ⟨a2, rfl, -, -, w2⟩ := open_int Try.underlying3 (hval 2 3 v2 rfl rfl) h2
  refine (FnExactFreeTimes_walk W _ a0 g0 w0 _ a1 g1 w1 a2 w2).mono fun e W' ⟨he, hg⟩ => ?_
  subst he
  exact ⟨_, rfl, post_law laidOut (by kernel_rfl) rfl Try.underlying4 rfl ⟨rfl, rfl, rfl⟩ hW' hg⟩
theorem proved : Rows.FnExactFreeTimesSaid :=
  OpenClaim.holds_of_wide 10 Try.f10 rfl rfl rfl rfl rfl rfl rfl ⟨rfl, rfl, rfl, rfl, rfl⟩ rfl rfl rfl rfl rfl (by kernel_rfl) Try.func10 (by kernel_rfl)
    (of_decide_eq_true (by kernel_rfl)) (by unfold Func.isWrapper; first | (rw [if_pos (by decide +kernel)]; kernel_rfl) | (rw [if_neg (by decide +kernel)]; exact ⟨rfl, rfl⟩))
    (fun os started H enc _ => lifted os started H enc)
end fnExactFreeTimes
end Go.Proofs.Ytjfppjhlkeopnaa
