/- The law FnExactAllotBerths: for every input it returns true and leaves its arguments as they were. No condition. -/
import Derived.Test.YtjfppjhlkeopnaaAllot
import Derived.Test.YtjfppjhlkeopnaaTou
namespace Go.Proofs.Ytjfppjhlkeopnaa
open Go.RowKit Go.WideShapes Go.ChangeShapes Go.ChangeAt Go.Joins Go.Deep
set_option linter.unusedVariables false
set_option maxRecDepth 100000 in
set_option maxHeartbeats 4000000 in
theorem FnExactAllotBerths_walk (w : World) (va : Value) (a : List BerthD) (ra : RdBerth w va a) (hoka : ∀ x ∈ a, x.ok) (vf : Value) (f : List ShipD) (rf : RdShip w vf f) (hokf : ∀ x ∈ f, x.ok) (vs : Value) (s : List StayD) (rs : RdStay w vs s) (hoks : ∀ x ∈ s, x.ok) :
    Calls Try.prog 11 #[va, vf, vs] w fun e w' => e = .returned (.bool true) ∧ Below w.heap.size w w' := by
  go_enter Try.func11, Try.ntmps11
  go_wp2_with fail
  refine (szBerthS_any _ _ 1048576 _ (ra.mono (by omega)) (fun x hx => BerthD.ok_size (hoka x hx)) (by omega) (by omega)).mono ?_; rintro e w1 ⟨z1, rfl, hz1, hm1, hb1⟩
  have s1 := hb1.size
  replace ra := ra.keep hb1 (by omega)
  replace rf := rf.keep hb1 (by omega)
  replace rs := rs.keep hb1 (by omega)
  have hB1 := bnext (Below.refl _ _) hb1 (Nat.le_refl _)
  by_cases hn1 : z1 < 0
  · clear hz1
    go_wp2_with fail
    go_ret
    exact ⟨rfl, hB1⟩
  obtain ⟨p1, q1⟩ := hz1 (by omega)
  go_wp2_with fail
  refine (szShipS_any _ _ z1 _ (rf.mono (by omega)) (fun x hx => ShipD.ok_size (hokf x hx)) (by omega) (by omega)).mono ?_; rintro e w2 ⟨z2, rfl, hz2, hm2, hb2⟩
  have s2 := hb2.size
  replace ra := ra.keep hb2 (by omega)
  replace rf := rf.keep hb2 (by omega)
  replace rs := rs.keep hb2 (by omega)
  have hB2 := bnext hB1 hb2 (Nat.le_refl _)
  by_cases hn2 : z2 < 0
  · clear hz2
    go_wp2_with fail
    go_ret
    exact ⟨rfl, hB2⟩
  obtain ⟨p2, q2⟩ := hz2 (by omega)
  go_wp2_with fail
  refine (szStayS_any _ _ z2 _ (rs.mono (by omega)) (by omega) (by omega)).mono ?_; rintro e w3 ⟨z3, rfl, hz3, hm3, hb3⟩
  have s3 := hb3.size
  replace ra := ra.keep hb3 (by omega)
  replace rf := rf.keep hb3 (by omega)
  replace rs := rs.keep hb3 (by omega)
  have hB3 := bnext hB2 hb3 (Nat.le_refl _)
  by_cases hn3 : z3 < 0
  · clear hz3
    go_wp2_with fail
    go_ret
    exact ⟨rfl, hB3⟩
  obtain ⟨p3, q3⟩ := hz3 (by omega)
  have hLa := allot_len a f s
  go_wp2_with fail
  refine (toBerthS_any _ _ _ (ra.mono (by omega)) (by omega)).mono ?_; rintro e w4 ⟨v4, rfl, ho4, hb4⟩
  have s4 := hb4.size
  replace ra := ra.keep hb4 (by omega)
  replace rf := rf.keep hb4 (by omega)
  replace rs := rs.keep hb4 (by omega)
  have hB4 := bnext hB3 hb4 (Nat.le_refl _)
  have on1 := ho4.b
  have rn1 := on1.rdB BerthD.enc_len
  clear ho4
  clear on1
  go_wp2_with fail
  refine (toShipS_any _ _ _ (rf.mono (by omega)) (by omega)).mono ?_; rintro e w5 ⟨v5, rfl, ho5, hb5⟩
  have s5 := hb5.size
  replace ra := ra.keep hb5 (by omega)
  replace rf := rf.keep hb5 (by omega)
  replace rs := rs.keep hb5 (by omega)
  replace rn1 := rn1.keep hb5 (by omega)
  have hB5 := bnext hB4 hb5 (Nat.le_refl _)
  have on2 := ho5.b
  have rn2 := on2.rdB ShipD.enc_len
  clear ho5
  clear on2
  go_wp2_with fail
  refine (toStayS_any _ _ _ (rs.mono (by omega)) (by omega)).mono ?_; rintro e w6 ⟨v6, rfl, ho6, hb6⟩
  have s6 := hb6.size
  replace ra := ra.keep hb6 (by omega)
  replace rf := rf.keep hb6 (by omega)
  replace rs := rs.keep hb6 (by omega)
  replace rn1 := rn1.keep hb6 (by omega)
  replace rn2 := rn2.keep hb6 (by omega)
  have hB6 := bnext hB5 hb6 (Nat.le_refl _)
  have on3 := ho6.b
  have rn3 := on3.rdB StayD.enc_len
  clear ho6
  clear on3
  go_wp2_with fail
  refine (spec_AllotBerths_any _ _ _ a f s _ (rn1.mono (by omega)) (rn2.mono (by omega)) (rn3.mono (by omega)) (fun x hx => BerthD.ok_size (hoka x hx)) hokf).mono ?_; rintro e w7 ⟨v7, rfl, ho7, hb7⟩
  have s7 := hb7.size
  replace ra := ra.keep hb7 (by omega)
  replace rf := rf.keep hb7 (by omega)
  replace rs := rs.keep hb7 (by omega)
  replace rn1 := rn1.keep hb7 (by omega)
  replace rn2 := rn2.keep hb7 (by omega)
  replace rn3 := rn3.keep hb7 (by omega)
  have hB7 := bnext hB6 hb7 (Nat.le_refl _)
  have ox := ho7.b
  have rx := ox.rdB StayD.enc_len
  clear ho7
  clear rn1
  clear rn2
  clear rn3
  go_wp2_with fail
  refine (toBerthS_any _ _ _ (ra.mono (by omega)) (by omega)).mono ?_; rintro e w8 ⟨v8, rfl, ho8, hb8⟩
  have s8 := hb8.size
  replace ra := ra.keep hb8 (by omega)
  replace rf := rf.keep hb8 (by omega)
  replace rs := rs.keep hb8 (by omega)
  replace rx := rx.keep hb8 (by omega)
  replace ox := ox.keep hb8 (by omega)
  have hB8 := bnext hB7 hb8 (Nat.le_refl _)
  have on4 := ho8.b
  have rn4 := on4.rdB BerthD.enc_len
  clear ho8
  go_wp2_with fail
  refine (toShipS_any _ _ _ (rf.mono (by omega)) (by omega)).mono ?_; rintro e w9 ⟨v9, rfl, ho9, hb9⟩
  have s9 := hb9.size
  replace ra := ra.keep hb9 (by omega)
  replace rf := rf.keep hb9 (by omega)
  replace rs := rs.keep hb9 (by omega)
  replace rx := rx.keep hb9 (by omega)
  replace ox := ox.keep hb9 (by omega)
  replace rn4 := rn4.keep hb9 (by omega)
  replace on4 := on4.keep hb9 (by omega)
  have hB9 := bnext hB8 hb9 (Nat.le_refl _)
  have on5 := ho9.b
  have rn5 := on5.rdB ShipD.enc_len
  clear ho9
  go_wp2_with fail
  refine (toStayS_any _ _ _ (rs.mono (by omega)) (by omega)).mono ?_; rintro e w10 ⟨v10, rfl, ho10, hb10⟩
  have s10 := hb10.size
  replace ra := ra.keep hb10 (by omega)
  replace rf := rf.keep hb10 (by omega)
  replace rs := rs.keep hb10 (by omega)
  replace rx := rx.keep hb10 (by omega)
  replace ox := ox.keep hb10 (by omega)
  replace rn4 := rn4.keep hb10 (by omega)
  replace on4 := on4.keep hb10 (by omega)
  replace rn5 := rn5.keep hb10 (by omega)
  replace on5 := on5.keep hb10 (by omega)
  have hB10 := bnext hB9 hb10 (Nat.le_refl _)
  have on6 := ho10.b
  have rn6 := on6.rdB StayD.enc_len
  clear ho10
  go_wp2_with fail
  refine (impl_AllotBerths_any _ _ _ a f s _ (rn4.mono (by omega)) (rn5.mono (by omega)) (rn6.mono (by omega)) (fun x hx => BerthD.ok_size (hoka x hx)) hokf).mono ?_; rintro e w11 ⟨v11, rfl, ho11, hb11⟩
  have s11 := hb11.size
  replace ra := ra.keep hb11 (by omega)
  replace rf := rf.keep hb11 (by omega)
  replace rs := rs.keep hb11 (by omega)
  replace rx := rx.keep hb11 (by omega)
  replace ox := ox.keep hb11 (by omega)
  replace rn4 := rn4.keep hb11 (by omega)
  replace on4 := on4.keep hb11 (by omega)
  replace rn5 := rn5.keep hb11 (by omega)
  replace on5 := on5.keep hb11 (by omega)
  replace rn6 := rn6.keep hb11 (by omega)
  replace on6 := on6.keep hb11 (by omega)
  have hB11 := bnext hB10 hb11 (Nat.le_refl _)
  have oy := ho11.b
  have ry := oy.rdB StayD.enc_len
  clear ho11
  go_wp2_with fail
  refine (eqStayS_any _ _ _ _ _ (ry.mono (by omega)) (rx.mono (by omega))).mono ?_; rintro e w12 ⟨rfl, hb12⟩
  have s12 := hb12.size
  replace ra := ra.keep hb12 (by omega)
  replace rf := rf.keep hb12 (by omega)
  replace rs := rs.keep hb12 (by omega)
  replace rx := rx.keep hb12 (by omega)
  replace ox := ox.keep hb12 (by omega)
  replace rn4 := rn4.keep hb12 (by omega)
  replace on4 := on4.keep hb12 (by omega)
  replace rn5 := rn5.keep hb12 (by omega)
  replace on5 := on5.keep hb12 (by omega)
  replace rn6 := rn6.keep hb12 (by omega)
  replace on6 := on6.keep hb12 (by omega)
  replace ry := ry.keep hb12 (by omega)
  replace oy := oy.keep hb12 (by omega)
  have hB12 := bnext hB11 hb12 (Nat.le_refl _)
  go_wp2_with fail
  refine (toBerthS_any _ _ _ (ra.mono (by omega)) (by omega)).mono ?_; rintro e w13 ⟨v13, rfl, ho13, hb13⟩
  have s13 := hb13.size
  replace ra := ra.keep hb13 (by omega)
  replace rf := rf.keep hb13 (by omega)
  replace rs := rs.keep hb13 (by omega)
  replace rx := rx.keep hb13 (by omega)
  replace ox := ox.keep hb13 (by omega)
  replace rn4 := rn4.keep hb13 (by omega)
  replace on4 := on4.keep hb13 (by omega)
  replace rn5 := rn5.keep hb13 (by omega)
  replace on5 := on5.keep hb13 (by omega)
  replace rn6 := rn6.keep hb13 (by omega)
  replace on6 := on6.keep hb13 (by omega)
  replace ry := ry.keep hb13 (by omega)
  replace oy := oy.keep hb13 (by omega)
  have hB13 := bnext hB12 hb13 (Nat.le_refl _)
  have on7 := ho13.b
  have rn7 := on7.rdB BerthD.enc_len
  clear ho13
  clear on7
  go_wp2_with fail
  refine (eqBerthS_any _ _ _ _ _ (rn4.mono (by omega)) (rn7.mono (by omega))).mono ?_; rintro e w14 ⟨rfl, hb14⟩
  have s14 := hb14.size
  replace ra := ra.keep hb14 (by omega)
  replace rf := rf.keep hb14 (by omega)
  replace rs := rs.keep hb14 (by omega)
  replace rx := rx.keep hb14 (by omega)
  replace ox := ox.keep hb14 (by omega)
  replace rn4 := rn4.keep hb14 (by omega)
  replace on4 := on4.keep hb14 (by omega)
  replace rn5 := rn5.keep hb14 (by omega)
  replace on5 := on5.keep hb14 (by omega)
  replace rn6 := rn6.keep hb14 (by omega)
  replace on6 := on6.keep hb14 (by omega)
  replace ry := ry.keep hb14 (by omega)
  replace oy := oy.keep hb14 (by omega)
  replace rn7 := rn7.keep hb14 (by omega)
  have hB14 := bnext hB13 hb14 (Nat.le_refl _)
  clear rn7
  go_wp2_with fail
  refine (toShipS_any _ _ _ (rf.mono (by omega)) (by omega)).mono ?_; rintro e w15 ⟨v15, rfl, ho15, hb15⟩
  have s15 := hb15.size
  replace ra := ra.keep hb15 (by omega)
  replace rf := rf.keep hb15 (by omega)
  replace rs := rs.keep hb15 (by omega)
  replace rx := rx.keep hb15 (by omega)
  replace ox := ox.keep hb15 (by omega)
  replace rn4 := rn4.keep hb15 (by omega)
  replace on4 := on4.keep hb15 (by omega)
  replace rn5 := rn5.keep hb15 (by omega)
  replace on5 := on5.keep hb15 (by omega)
  replace rn6 := rn6.keep hb15 (by omega)
  replace on6 := on6.keep hb15 (by omega)
  replace ry := ry.keep hb15 (by omega)
  replace oy := oy.keep hb15 (by omega)
  have hB15 := bnext hB14 hb15 (Nat.le_refl _)
  have on8 := ho15.b
  have rn8 := on8.rdB ShipD.enc_len
  clear ho15
  clear on8
  go_wp2_with fail
  refine (eqShipS_any _ _ _ _ _ (rn5.mono (by omega)) (rn8.mono (by omega))).mono ?_; rintro e w16 ⟨rfl, hb16⟩
  have s16 := hb16.size
  replace ra := ra.keep hb16 (by omega)
  replace rf := rf.keep hb16 (by omega)
  replace rs := rs.keep hb16 (by omega)
  replace rx := rx.keep hb16 (by omega)
  replace ox := ox.keep hb16 (by omega)
  replace rn4 := rn4.keep hb16 (by omega)
  replace on4 := on4.keep hb16 (by omega)
  replace rn5 := rn5.keep hb16 (by omega)
  replace on5 := on5.keep hb16 (by omega)
  replace rn6 := rn6.keep hb16 (by omega)
  replace on6 := on6.keep hb16 (by omega)
  replace ry := ry.keep hb16 (by omega)
  replace oy := oy.keep hb16 (by omega)
  replace rn8 := rn8.keep hb16 (by omega)
  have hB16 := bnext hB15 hb16 (Nat.le_refl _)
  clear rn8
  go_wp2_with fail
  refine (toStayS_any _ _ _ (rs.mono (by omega)) (by omega)).mono ?_; rintro e w17 ⟨v17, rfl, ho17, hb17⟩
  have s17 := hb17.size
  replace ra := ra.keep hb17 (by omega)
  replace rf := rf.keep hb17 (by omega)
  replace rs := rs.keep hb17 (by omega)
  replace rx := rx.keep hb17 (by omega)
  replace ox := ox.keep hb17 (by omega)
  replace rn4 := rn4.keep hb17 (by omega)
  replace on4 := on4.keep hb17 (by omega)
  replace rn5 := rn5.keep hb17 (by omega)
  replace on5 := on5.keep hb17 (by omega)
  replace rn6 := rn6.keep hb17 (by omega)
  replace on6 := on6.keep hb17 (by omega)
  replace ry := ry.keep hb17 (by omega)
  replace oy := oy.keep hb17 (by omega)
  have hB17 := bnext hB16 hb17 (Nat.le_refl _)
  have on9 := ho17.b
  have rn9 := on9.rdB StayD.enc_len
  clear ho17
  clear on9
  go_wp2_with fail
  refine (eqStayS_any _ _ _ _ _ (rn6.mono (by omega)) (rn9.mono (by omega))).mono ?_; rintro e w18 ⟨rfl, hb18⟩
  have s18 := hb18.size
  replace ra := ra.keep hb18 (by omega)
  replace rf := rf.keep hb18 (by omega)
  replace rs := rs.keep hb18 (by omega)
  replace rx := rx.keep hb18 (by omega)
  replace ox := ox.keep hb18 (by omega)
  replace rn4 := rn4.keep hb18 (by omega)
  replace on4 := on4.keep hb18 (by omega)
  replace rn5 := rn5.keep hb18 (by omega)
  replace on5 := on5.keep hb18 (by omega)
  replace rn6 := rn6.keep hb18 (by omega)
  replace on6 := on6.keep hb18 (by omega)
  replace ry := ry.keep hb18 (by omega)
  replace oy := oy.keep hb18 (by omega)
  replace rn9 := rn9.keep hb18 (by omega)
  have hB18 := bnext hB17 hb18 (Nat.le_refl _)
  clear rn9
  go_wp2_with fail
  refine (markBerthS_any _ _ _ _ _ on4.1 (by omega) (by omega) (by omega)).mono ?_; rintro e w19 ⟨rfl, ho19, hg19⟩
  have ht19 := Tou.grown hg19 (fun k hk => ⟨(World.ownsRow.lt on4.1 k hk).1, on4.2 k hk⟩)
  replace on4 := on4.again ho19; clear ho19 hg19
  have s19 := ht19.size
  replace ox := ox.tou ht19 (by omega)
  replace on5 := on5.tou ht19 (by omega)
  replace on6 := on6.tou ht19 (by omega)
  replace oy := oy.tou ht19 (by omega)
  replace ra := ra.keep (ht19.below (by omega)) (by omega)
  replace rf := rf.keep (ht19.below (by omega)) (by omega)
  replace rs := rs.keep (ht19.below (by omega)) (by omega)
  replace rx := ox.rdB StayD.enc_len
  replace rn4 := on4.rdB BerthD.enc_len
  replace rn5 := on5.rdB ShipD.enc_len
  replace rn6 := on6.rdB StayD.enc_len
  replace ry := oy.rdB StayD.enc_len
  have hB19 := hB18.trans ((ht19.below (by omega)).mono (by omega))
  go_wp2_with fail
  refine (markShipS_any _ _ _ _ _ on5.1 (by omega) (by omega) (by omega)).mono ?_; rintro e w20 ⟨rfl, ho20, hg20⟩
  have ht20 := Tou.grown hg20 (fun k hk => ⟨(World.ownsRow.lt on5.1 k hk).1, on5.2 k hk⟩)
  replace on5 := on5.again ho20; clear ho20 hg20
  have s20 := ht20.size
  replace ox := ox.tou ht20 (by omega)
  replace on4 := on4.tou ht20 (by omega)
  replace on6 := on6.tou ht20 (by omega)
  replace oy := oy.tou ht20 (by omega)
  replace ra := ra.keep (ht20.below (by omega)) (by omega)
  replace rf := rf.keep (ht20.below (by omega)) (by omega)
  replace rs := rs.keep (ht20.below (by omega)) (by omega)
  replace rx := ox.rdB StayD.enc_len
  replace rn4 := on4.rdB BerthD.enc_len
  replace rn5 := on5.rdB ShipD.enc_len
  replace rn6 := on6.rdB StayD.enc_len
  replace ry := oy.rdB StayD.enc_len
  have hB20 := hB19.trans ((ht20.below (by omega)).mono (by omega))
  go_wp2_with fail
  refine (markStayS_any _ _ _ _ _ on6.1 (by omega) (by omega) (by omega)).mono ?_; rintro e w21 ⟨rfl, ho21, hg21⟩
  have ht21 := Tou.grown hg21 (fun k hk => ⟨(World.ownsRow.lt on6.1 k hk).1, on6.2 k hk⟩)
  replace on6 := on6.again ho21; clear ho21 hg21
  have s21 := ht21.size
  replace ox := ox.tou ht21 (by omega)
  replace on4 := on4.tou ht21 (by omega)
  replace on5 := on5.tou ht21 (by omega)
  replace oy := oy.tou ht21 (by omega)
  replace ra := ra.keep (ht21.below (by omega)) (by omega)
  replace rf := rf.keep (ht21.below (by omega)) (by omega)
  replace rs := rs.keep (ht21.below (by omega)) (by omega)
  replace rx := ox.rdB StayD.enc_len
  replace rn4 := on4.rdB BerthD.enc_len
  replace rn5 := on5.rdB ShipD.enc_len
  replace rn6 := on6.rdB StayD.enc_len
  replace ry := oy.rdB StayD.enc_len
  have hB21 := hB20.trans ((ht21.below (by omega)).mono (by omega))
  clear rn4
  clear on4
  clear rn5
  clear on5
  clear rn6
  clear on6
  go_wp2_with fail
  refine (eqStayS_any _ _ _ _ _ (ry.mono (by omega)) (rx.mono (by omega))).mono ?_; rintro e w22 ⟨rfl, hb22⟩
  have s22 := hb22.size
  replace ra := ra.keep hb22 (by omega)
  replace rf := rf.keep hb22 (by omega)
  replace rs := rs.keep hb22 (by omega)
  replace rx := rx.keep hb22 (by omega)
  replace ox := ox.keep hb22 (by omega)
  replace ry := ry.keep hb22 (by omega)
  replace oy := oy.keep hb22 (by omega)
  have hB22 := bnext hB21 hb22 (Nat.le_refl _)
  go_wp2_with fail
  refine (markStayS_any _ _ _ _ _ oy.1 (by omega) (by omega) (by omega)).mono ?_; rintro e w23 ⟨rfl, ho23, hg23⟩
  have ht23 := Tou.grown hg23 (fun k hk => ⟨(World.ownsRow.lt oy.1 k hk).1, oy.2 k hk⟩)
  replace oy := oy.again ho23; clear ho23 hg23
  have s23 := ht23.size
  replace ox := ox.tou ht23 (by omega)
  replace ra := ra.keep (ht23.below (by omega)) (by omega)
  replace rf := rf.keep (ht23.below (by omega)) (by omega)
  replace rs := rs.keep (ht23.below (by omega)) (by omega)
  replace rx := ox.rdB StayD.enc_len
  replace ry := oy.rdB StayD.enc_len
  have hB23 := hB22.trans ((ht23.below (by omega)).mono (by omega))
  go_wp2_with fail
  refine (heldStayS_any _ _ _ _ (ry.mono (by omega)) (by omega) (by omega) (by omega)).mono ?_; rintro e w24 ⟨rfl, hb24⟩
  have s24 := hb24.size
  replace ra := ra.keep hb24 (by omega)
  replace rf := rf.keep hb24 (by omega)
  replace rs := rs.keep hb24 (by omega)
  replace rx := rx.keep hb24 (by omega)
  replace ox := ox.keep hb24 (by omega)
  replace ry := ry.keep hb24 (by omega)
  replace oy := oy.keep hb24 (by omega)
  have hB24 := bnext hB23 hb24 (Nat.le_refl _)
  go_wp2_with fail
  refine (toBerthS_any _ _ _ (ra.mono (by omega)) (by omega)).mono ?_; rintro e w25 ⟨v25, rfl, ho25, hb25⟩
  have s25 := hb25.size
  replace ra := ra.keep hb25 (by omega)
  replace rf := rf.keep hb25 (by omega)
  replace rs := rs.keep hb25 (by omega)
  replace rx := rx.keep hb25 (by omega)
  replace ox := ox.keep hb25 (by omega)
  replace ry := ry.keep hb25 (by omega)
  replace oy := oy.keep hb25 (by omega)
  have hB25 := bnext hB24 hb25 (Nat.le_refl _)
  have on1 := ho25.b
  have rn1 := on1.rdB BerthD.enc_len
  clear ho25
  clear on1
  go_wp2_with fail
  refine (toShipS_any _ _ _ (rf.mono (by omega)) (by omega)).mono ?_; rintro e w26 ⟨v26, rfl, ho26, hb26⟩
  have s26 := hb26.size
  replace ra := ra.keep hb26 (by omega)
  replace rf := rf.keep hb26 (by omega)
  replace rs := rs.keep hb26 (by omega)
  replace rx := rx.keep hb26 (by omega)
  replace ox := ox.keep hb26 (by omega)
  replace ry := ry.keep hb26 (by omega)
  replace oy := oy.keep hb26 (by omega)
  replace rn1 := rn1.keep hb26 (by omega)
  have hB26 := bnext hB25 hb26 (Nat.le_refl _)
  have on2 := ho26.b
  have rn2 := on2.rdB ShipD.enc_len
  clear ho26
  clear on2
  go_wp2_with fail
  refine (toStayS_any _ _ _ (rs.mono (by omega)) (by omega)).mono ?_; rintro e w27 ⟨v27, rfl, ho27, hb27⟩
  have s27 := hb27.size
  replace ra := ra.keep hb27 (by omega)
  replace rf := rf.keep hb27 (by omega)
  replace rs := rs.keep hb27 (by omega)
  replace rx := rx.keep hb27 (by omega)
  replace ox := ox.keep hb27 (by omega)
  replace ry := ry.keep hb27 (by omega)
  replace oy := oy.keep hb27 (by omega)
  replace rn1 := rn1.keep hb27 (by omega)
  replace rn2 := rn2.keep hb27 (by omega)
  have hB27 := bnext hB26 hb27 (Nat.le_refl _)
  have on3 := ho27.b
  have rn3 := on3.rdB StayD.enc_len
  clear ho27
  clear on3
  go_wp2_with fail
  refine (impl_AllotBerths_any _ _ _ a f s _ (rn1.mono (by omega)) (rn2.mono (by omega)) (rn3.mono (by omega)) (fun x hx => BerthD.ok_size (hoka x hx)) hokf).mono ?_; rintro e w28 ⟨v28, rfl, ho28, hb28⟩
  have s28 := hb28.size
  replace ra := ra.keep hb28 (by omega)
  replace rf := rf.keep hb28 (by omega)
  replace rs := rs.keep hb28 (by omega)
  replace rx := rx.keep hb28 (by omega)
  replace ox := ox.keep hb28 (by omega)
  replace ry := ry.keep hb28 (by omega)
  replace oy := oy.keep hb28 (by omega)
  replace rn1 := rn1.keep hb28 (by omega)
  replace rn2 := rn2.keep hb28 (by omega)
  replace rn3 := rn3.keep hb28 (by omega)
  have hB28 := bnext hB27 hb28 (Nat.le_refl _)
  have oz := ho28.b
  have rz := oz.rdB StayD.enc_len
  clear ho28
  clear rn1
  clear rn2
  clear rn3
  go_wp2_with fail
  refine (eqStayS_any _ _ _ _ _ (rz.mono (by omega)) (rx.mono (by omega))).mono ?_; rintro e w29 ⟨rfl, hb29⟩
  have s29 := hb29.size
  replace ra := ra.keep hb29 (by omega)
  replace rf := rf.keep hb29 (by omega)
  replace rs := rs.keep hb29 (by omega)
  replace rx := rx.keep hb29 (by omega)
  replace ox := ox.keep hb29 (by omega)
  replace ry := ry.keep hb29 (by omega)
  replace oy := oy.keep hb29 (by omega)
  replace rz := rz.keep hb29 (by omega)
  replace oz := oz.keep hb29 (by omega)
  have hB29 := bnext hB28 hb29 (Nat.le_refl _)
  go_wp2_with fail
  refine (heldStayS_any _ _ _ _ (ry.mono (by omega)) (by omega) (by omega) (by omega)).mono ?_; rintro e w30 ⟨rfl, hb30⟩
  have s30 := hb30.size
  replace ra := ra.keep hb30 (by omega)
  replace rf := rf.keep hb30 (by omega)
  replace rs := rs.keep hb30 (by omega)
  replace rx := rx.keep hb30 (by omega)
  replace ox := ox.keep hb30 (by omega)
  replace ry := ry.keep hb30 (by omega)
  replace oy := oy.keep hb30 (by omega)
  replace rz := rz.keep hb30 (by omega)
  replace oz := oz.keep hb30 (by omega)
  have hB30 := bnext hB29 hb30 (Nat.le_refl _)
  go_wp2_with fail
  go_ret
  exact ⟨rfl, hB30⟩
namespace fnExactAllotBerths
set_option maxRecDepth 100000 in
theorem lifted (os : Os) (started : os.Started) (H : Type) (enc : TypeId × Value → H) :
    ReturnsInHanded {} Try.checked os 11 .any (Rows.fnExactAllotBerthsSpec.pre6 enc Try.prog Try.f11 Rows.fnExactAllotBerthsRow.domain false) (Rows.fnExactAllotBerthsSpec.post enc Try.prog Try.f11 false true false false) := by
  refine returnsInHanded_of_change (C := Try.checked) own started (by kernel_rfl) Try.func11
    (ChangeSpec.witness6 (enc := enc) (C := Try.checked) false ⟨#[], #[.slice none 0 0, .slice none 0 0, .slice none 0 0], []⟩ 8 (by kernel_rfl) (by kernel_rfl) (by kernel_rfl) (by kernel_rfl)) ?_
  intro W base args ds gs before hval0 hW hcnd _
  have hval : ∀ (j : Nat) t v, Try.f11.params[j]? = some t → args[j]? = some v → Value.okWide Try.prog W .any base t v := hval0
  have hW' := hW
  obtain ⟨p, q, hA0, hV, hbef, hfz, hnd⟩ := hW
  have hA : DataW.TrodAll enc Try.prog W 0 (fun _ => true) true Try.f11.params.toList args.toList ds p := hA0
  rw [Try.params11] at hA hval
  obtain ⟨v0, vs0, d0, ds0, p0, q0, hargs, rfl, hp0, h0, r0⟩ := trodAll_cons hA
  obtain ⟨v1, vs1, d1, ds1, p1, q1, rfl, rfl, hp1, h1, r1⟩ := trodAll_cons r0
  obtain ⟨v2, vs2, d2, ds2, p2, q2, rfl, rfl, hp2, h2, r2⟩ := trodAll_cons r1
  obtain ⟨rfl, rfl, hpn⟩ := trodAll_nil r2
  obtain rfl : args = #[v0, v1, v2] := by cases args; simp_all
  obtain ⟨rfl, rfl⟩ := trodVars_none hV
  obtain ⟨a0, g0, w0⟩ := openBerthS (hval 0 41 v0 rfl rfl) h0
  obtain ⟨a1, g1, w1⟩ := openShipS (hval 1 77 v1 rfl rfl) h1
  obtain ⟨a2, g2, w2⟩ := openStayS (hval 2 34 v2 rfl rfl) h2
  refine (FnExactAllotBerths_walk W _ a0 g0 w0 _ a1 g1 w1 _ a2 g2 w2).mono fun e W' ⟨he, hg⟩ => ?_
  subst he
  exact ⟨_, rfl, post_law laidOut (by kernel_rfl) rfl Try.underlying4 rfl ⟨rfl, rfl, rfl⟩ hW' hg⟩
theorem proved : Rows.FnExactAllotBerthsSaid :=
  OpenClaim.holds_of_wide 11 Try.f11 rfl rfl rfl rfl rfl rfl rfl ⟨rfl, rfl, rfl, rfl, rfl⟩ rfl rfl rfl rfl rfl (by kernel_rfl) Try.func11 (by kernel_rfl)
    (of_decide_eq_true (by kernel_rfl)) (by unfold Func.isWrapper; first | (rw [if_pos (by decide +kernel)]; kernel_rfl) | (rw [if_neg (by decide +kernel)]; exact ⟨rfl, rfl⟩))
    (fun os started H enc _ => lifted os started H enc)
end fnExactAllotBerths
end Go.Proofs.Ytjfppjhlkeopnaa
