/- The law FnExactFindBerth: for every input it returns true and leaves its arguments as they were. No condition. -/
import Derived.Test.YtjfppjhlkeopnaaFind
namespace Go.Proofs.Ytjfppjhlkeopnaa
open Go.RowKit Go.WideShapes Go.ChangeShapes Go.ChangeAt Go.Joins Go.Deep
set_option linter.unusedVariables false
set_option maxRecDepth 100000 in
set_option maxHeartbeats 4000000 in
theorem FnExactFindBerth_walk (w : World) (va : Value) (a : List BerthD) (ra : RdBerth w va a) (hoka : ∀ x ∈ a, x.ok) (vf : Value) (f : List ShipD) (rf : RdShip w vf f) (hokf : ∀ x ∈ f, x.ok) (vs : Value) (s : List StayD) (rs : RdStay w vs s) (hoks : ∀ x ∈ s, x.ok) (p : Int) (hwp : (Lit.int .i64 p).wf = true) (q : Int) (hwq : (Lit.int .i64 q).wf = true) (t : Int) (hwt : (Lit.int .i64 t).wf = true) :
    Calls Try.prog 9 #[va, vf, vs, .int .i64 p, .int .i64 q, .int .i64 t] w fun e w' => e = .returned (.bool true) ∧ Below w.heap.size w w' := by
  go_enter Try.func9, Try.ntmps9
  go_wp2_with fail
  refine (szBerthS_any _ _ 1048576 _ (ra.mono (by omega)) (fun x hx => BerthD.ok_size (hoka x hx)) (by omega) (by omega)).mono ?_; rintro e w1 ⟨z1, rfl, hz1, hm1, hb1⟩
  have s1 := hb1.size
  replace ra := ra.keep hb1 (by omega)
  replace rf := rf.keep hb1 (by omega)
  replace rs := rs.keep hb1 (by omega)
  have hB1 := bnext (Below.refl _ _) hb1 (Nat.le_refl _)
  by_cases hn1 : z1 < 0
  · clear hz1
    go_wp2_with fail
    go_ret
    exact ⟨rfl, hB1⟩
  obtain ⟨p1, q1⟩ := hz1 (by omega)
  go_wp2_with fail
  refine (szShipS_any _ _ z1 _ (rf.mono (by omega)) (fun x hx => ShipD.ok_size (hokf x hx)) (by omega) (by omega)).mono ?_; rintro e w2 ⟨z2, rfl, hz2, hm2, hb2⟩
  have s2 := hb2.size
  replace ra := ra.keep hb2 (by omega)
  replace rf := rf.keep hb2 (by omega)
  replace rs := rs.keep hb2 (by omega)
  have hB2 := bnext hB1 hb2 (Nat.le_refl _)
  by_cases hn2 : z2 < 0
  · clear hz2
    go_wp2_with fail
    go_ret
    exact ⟨rfl, hB2⟩
  obtain ⟨p2, q2⟩ := hz2 (by omega)
  go_wp2_with fail
  refine (szStayS_any _ _ z2 _ (rs.mono (by omega)) (by omega) (by omega)).mono ?_; rintro e w3 ⟨z3, rfl, hz3, hm3, hb3⟩
  have s3 := hb3.size
  replace ra := ra.keep hb3 (by omega)
  replace rf := rf.keep hb3 (by omega)
  replace rs := rs.keep hb3 (by omega)
  have hB3 := bnext hB2 hb3 (Nat.le_refl _)
  by_cases hn3 : z3 < 0
  · clear hz3
    go_wp2_with fail
    go_ret
    exact ⟨rfl, hB3⟩
  obtain ⟨p3, q3⟩ := hz3 (by omega)
  go_wp2_with fail
  refine (toBerthS_any _ _ _ (ra.mono (by omega)) (by omega)).mono ?_; rintro e w4 ⟨v4, rfl, ho4, hb4⟩
  have s4 := hb4.size
  replace ra := ra.keep hb4 (by omega)
  replace rf := rf.keep hb4 (by omega)
  replace rs := rs.keep hb4 (by omega)
  have hB4 := bnext hB3 hb4 (Nat.le_refl _)
  have on1 := ho4.b
  have rn1 := on1.rdB BerthD.enc_len
  clear ho4
  clear on1
  go_wp2_with fail
  refine (toShipS_any _ _ _ (rf.mono (by omega)) (by omega)).mono ?_; rintro e w5 ⟨v5, rfl, ho5, hb5⟩
  have s5 := hb5.size
  replace ra := ra.keep hb5 (by omega)
  replace rf := rf.keep hb5 (by omega)
  replace rs := rs.keep hb5 (by omega)
  replace rn1 := rn1.keep hb5 (by omega)
  have hB5 := bnext hB4 hb5 (Nat.le_refl _)
  have on2 := ho5.b
  have rn2 := on2.rdB ShipD.enc_len
  clear ho5
  clear on2
  go_wp2_with fail
  refine (toStayS_any _ _ _ (rs.mono (by omega)) (by omega)).mono ?_; rintro e w6 ⟨v6, rfl, ho6, hb6⟩
  have s6 := hb6.size
  replace ra := ra.keep hb6 (by omega)
  replace rf := rf.keep hb6 (by omega)
  replace rs := rs.keep hb6 (by omega)
  replace rn1 := rn1.keep hb6 (by omega)
  replace rn2 := rn2.keep hb6 (by omega)
  have hB6 := bnext hB5 hb6 (Nat.le_refl _)
  have on3 := ho6.b
  have rn3 := on3.rdB StayD.enc_len
  clear ho6
  clear on3
  go_wp2_with fail
  refine (spec_FindBerth_any _ _ _ a f s p q t _ (rn1.mono (by omega)) (rn2.mono (by omega)) (rn3.mono (by omega)) (fun x hx => BerthD.ok_size (hoka x hx)) hokf).mono ?_; rintro e w7 ⟨rfl, hb7⟩
  have s7 := hb7.size
  replace ra := ra.keep hb7 (by omega)
  replace rf := rf.keep hb7 (by omega)
  replace rs := rs.keep hb7 (by omega)
  replace rn1 := rn1.keep hb7 (by omega)
  replace rn2 := rn2.keep hb7 (by omega)
  replace rn3 := rn3.keep hb7 (by omega)
  have hB7 := bnext hB6 hb7 (Nat.le_refl _)
  clear rn1
  clear rn2
  clear rn3
  go_wp2_with fail
  refine (toBerthS_any _ _ _ (ra.mono (by omega)) (by omega)).mono ?_; rintro e w8 ⟨v8, rfl, ho8, hb8⟩
  have s8 := hb8.size
  replace ra := ra.keep hb8 (by omega)
  replace rf := rf.keep hb8 (by omega)
  replace rs := rs.keep hb8 (by omega)
  have hB8 := bnext hB7 hb8 (Nat.le_refl _)
  have on4 := ho8.b
  have rn4 := on4.rdB BerthD.enc_len
  clear ho8
  clear on4
  go_wp2_with fail
  refine (toShipS_any _ _ _ (rf.mono (by omega)) (by omega)).mono ?_; rintro e w9 ⟨v9, rfl, ho9, hb9⟩
  have s9 := hb9.size
  replace ra := ra.keep hb9 (by omega)
  replace rf := rf.keep hb9 (by omega)
  replace rs := rs.keep hb9 (by omega)
  replace rn4 := rn4.keep hb9 (by omega)
  have hB9 := bnext hB8 hb9 (Nat.le_refl _)
  have on5 := ho9.b
  have rn5 := on5.rdB ShipD.enc_len
  clear ho9
  clear on5
  go_wp2_with fail
  refine (toStayS_any _ _ _ (rs.mono (by omega)) (by omega)).mono ?_; rintro e w10 ⟨v10, rfl, ho10, hb10⟩
  have s10 := hb10.size
  replace ra := ra.keep hb10 (by omega)
  replace rf := rf.keep hb10 (by omega)
  replace rs := rs.keep hb10 (by omega)
  replace rn4 := rn4.keep hb10 (by omega)
  replace rn5 := rn5.keep hb10 (by omega)
  have hB10 := bnext hB9 hb10 (Nat.le_refl _)
  have on6 := ho10.b
  have rn6 := on6.rdB StayD.enc_len
  clear ho10
  clear on6
  go_wp2_with fail
  refine (impl_FindBerth_any _ _ _ a f s p q t _ (rn4.mono (by omega)) (rn5.mono (by omega)) (rn6.mono (by omega)) (fun x hx => BerthD.ok_size (hoka x hx)) hokf).mono ?_; rintro e w11 ⟨rfl, hb11⟩
  have s11 := hb11.size
  replace ra := ra.keep hb11 (by omega)
  replace rf := rf.keep hb11 (by omega)
  replace rs := rs.keep hb11 (by omega)
  replace rn4 := rn4.keep hb11 (by omega)
  replace rn5 := rn5.keep hb11 (by omega)
  replace rn6 := rn6.keep hb11 (by omega)
  have hB11 := bnext hB10 hb11 (Nat.le_refl _)
  go_wp2_with fail
  refine (toBerthS_any _ _ _ (ra.mono (by omega)) (by omega)).mono ?_; rintro e w12 ⟨v12, rfl, ho12, hb12⟩
  have s12 := hb12.size
  replace ra := ra.keep hb12 (by omega)
  replace rf := rf.keep hb12 (by omega)
  replace rs := rs.keep hb12 (by omega)
  replace rn4 := rn4.keep hb12 (by omega)
  replace rn5 := rn5.keep hb12 (by omega)
  replace rn6 := rn6.keep hb12 (by omega)
  have hB12 := bnext hB11 hb12 (Nat.le_refl _)
  have on7 := ho12.b
  have rn7 := on7.rdB BerthD.enc_len
  clear ho12
  clear on7
  go_wp2_with fail
  refine (eqBerthS_any _ _ _ _ _ (rn4.mono (by omega)) (rn7.mono (by omega))).mono ?_; rintro e w13 ⟨rfl, hb13⟩
  have s13 := hb13.size
  replace ra := ra.keep hb13 (by omega)
  replace rf := rf.keep hb13 (by omega)
  replace rs := rs.keep hb13 (by omega)
  replace rn4 := rn4.keep hb13 (by omega)
  replace rn5 := rn5.keep hb13 (by omega)
  replace rn6 := rn6.keep hb13 (by omega)
  replace rn7 := rn7.keep hb13 (by omega)
  have hB13 := bnext hB12 hb13 (Nat.le_refl _)
  clear rn4
  clear rn7
  go_wp2_with fail
  refine (toShipS_any _ _ _ (rf.mono (by omega)) (by omega)).mono ?_; rintro e w14 ⟨v14, rfl, ho14, hb14⟩
  have s14 := hb14.size
  replace ra := ra.keep hb14 (by omega)
  replace rf := rf.keep hb14 (by omega)
  replace rs := rs.keep hb14 (by omega)
  replace rn5 := rn5.keep hb14 (by omega)
  replace rn6 := rn6.keep hb14 (by omega)
  have hB14 := bnext hB13 hb14 (Nat.le_refl _)
  have on8 := ho14.b
  have rn8 := on8.rdB ShipD.enc_len
  clear ho14
  clear on8
  go_wp2_with fail
  refine (eqShipS_any _ _ _ _ _ (rn5.mono (by omega)) (rn8.mono (by omega))).mono ?_; rintro e w15 ⟨rfl, hb15⟩
  have s15 := hb15.size
  replace ra := ra.keep hb15 (by omega)
  replace rf := rf.keep hb15 (by omega)
  replace rs := rs.keep hb15 (by omega)
  replace rn5 := rn5.keep hb15 (by omega)
  replace rn6 := rn6.keep hb15 (by omega)
  replace rn8 := rn8.keep hb15 (by omega)
  have hB15 := bnext hB14 hb15 (Nat.le_refl _)
  clear rn5
  clear rn8
  go_wp2_with fail
  refine (toStayS_any _ _ _ (rs.mono (by omega)) (by omega)).mono ?_; rintro e w16 ⟨v16, rfl, ho16, hb16⟩
  have s16 := hb16.size
  replace ra := ra.keep hb16 (by omega)
  replace rf := rf.keep hb16 (by omega)
  replace rs := rs.keep hb16 (by omega)
  replace rn6 := rn6.keep hb16 (by omega)
  have hB16 := bnext hB15 hb16 (Nat.le_refl _)
  have on9 := ho16.b
  have rn9 := on9.rdB StayD.enc_len
  clear ho16
  clear on9
  go_wp2_with fail
  refine (eqStayS_any _ _ _ _ _ (rn6.mono (by omega)) (rn9.mono (by omega))).mono ?_; rintro e w17 ⟨rfl, hb17⟩
  have s17 := hb17.size
  replace ra := ra.keep hb17 (by omega)
  replace rf := rf.keep hb17 (by omega)
  replace rs := rs.keep hb17 (by omega)
  replace rn6 := rn6.keep hb17 (by omega)
  replace rn9 := rn9.keep hb17 (by omega)
  have hB17 := bnext hB16 hb17 (Nat.le_refl _)
  clear rn6
  clear rn9
  go_wp2_with fail
  go_ret
  exact ⟨rfl, hB17⟩
namespace fnExactFindBerth
set_option maxRecDepth 100000 in
theorem lifted (os : Os) (started : os.Started) (H : Type) (enc : TypeId × Value → H) :
    ReturnsInHanded {} Try.checked os 9 .any (Rows.fnExactFindBerthSpec.pre6 enc Try.prog Try.f9 Rows.fnExactFindBerthRow.domain false) (Rows.fnExactFindBerthSpec.post enc Try.prog Try.f9 false true false false) := by
  refine returnsInHanded_of_change (C := Try.checked) own started (by kernel_rfl) Try.func9
    (ChangeSpec.witness6 (enc := enc) (C := Try.checked) false ⟨#[], #[.slice none 0 0, .slice none 0 0, .slice none 0 0, .int .i64 0, .int .i64 0, .int .i64 0], []⟩ 8 (by kernel_rfl) (by kernel_rfl) (by kernel_rfl) (by kernel_rfl)) ?_
  intro W base args ds gs before hval0 hW hcnd _
  have hval : ∀ (j : Nat) t v, Try.f9.params[j]? = some t → args[j]? = some v → Value.okWide Try.prog W .any base t v := hval0
  have hW' := hW
  obtain ⟨p, q, hA0, hV, hbef, hfz, hnd⟩ := hW
  have hA : DataW.TrodAll enc Try.prog W 0 (fun _ => true) true Try.f9.params.toList args.toList ds p := hA0
  rw [Try.params9] at hA hval
  obtain ⟨v0, vs0, d0, ds0, p0, q0, hargs, rfl, hp0, h0, r0⟩ := trodAll_cons hA
  obtain ⟨v1, vs1, d1, ds1, p1, q1, rfl, rfl, hp1, h1, r1⟩ := trodAll_cons r0
  obtain ⟨v2, vs2, d2, ds2, p2, q2, rfl, rfl, hp2, h2, r2⟩ := trodAll_cons r1
  obtain ⟨v3, vs3, d3, ds3, p3, q3, rfl, rfl, hp3, h3, r3⟩ := trodAll_cons r2
  obtain ⟨v4, vs4, d4, ds4, p4, q4, rfl, rfl, hp4, h4, r4⟩ := trodAll_cons r3
  obtain ⟨v5, vs5, d5, ds5, p5, q5, rfl, rfl, hp5, h5, r5⟩ := trodAll_cons r4
  obtain ⟨rfl, rfl, hpn⟩ := trodAll_nil r5
  obtain rfl : args = #[v0, v1, v2, v3, v4, v5] := by cases args; simp_all
  obtain ⟨rfl, rfl⟩ := trodVars_none hV
  obtain ⟨a0, g0, w0⟩ := openBerthS (hval 0 41 v0 rfl rfl) h0
  obtain ⟨a1, g1, w1⟩ := openShipS (hval 1 77 v1 rfl rfl) h1
  obtain ⟨a2, g2, w2⟩ := openStayS (hval 2 34 v2 rfl rfl) h2
  obtain ⟨a3, rfl, -, -, w3⟩ := open_int Try.underlying3 (hval 3 3 v3 rfl rfl) h3
  obtain ⟨a4, rfl, -, -, w4⟩ := open_int Try.underlying3 (hval 4 3 v4 rfl rfl) h4
  obtain ⟨a5, rfl, -, -, w5⟩ := open_int Try.underlying3 (hval 5 3 v5 rfl rfl) h5
  refine (FnExactFindBerth_walk W _ a0 g0 w0 _ a1 g1 w1 _ a2 g2 w2 a3 w3 a4 w4 a5 w5).mono fun e W' ⟨he, hg⟩ => ?_
  subst he
  exact ⟨_, rfl, post_law laidOut (by kernel_rfl) rfl Try.underlying4 rfl ⟨rfl, rfl, rfl⟩ hW' hg⟩
theorem proved : Rows.FnExactFindBerthSaid :=
  OpenClaim.holds_of_wide 9 Try.f9 rfl rfl rfl rfl rfl rfl rfl ⟨rfl, rfl, rfl, rfl, rfl⟩ rfl rfl rfl rfl rfl (by kernel_rfl) Try.func9 (by kernel_rfl)
    (of_decide_eq_true (by kernel_rfl)) (by unfold Func.isWrapper; first | (rw [if_pos (by decide +kernel)]; kernel_rfl) | (rw [if_neg (by decide +kernel)]; exact ⟨rfl, rfl⟩))
    (fun os started H enc _ => lifted os started H enc)
end fnExactFindBerth
end Go.Proofs.Ytjfppjhlkeopnaa
