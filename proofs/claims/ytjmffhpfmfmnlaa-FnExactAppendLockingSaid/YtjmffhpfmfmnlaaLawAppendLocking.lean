/- The law FnExactAppendLocking: for every input it returns true and leaves its arguments as they were. No condition. -/
import Derived.Test.YtjmffhpfmfmnlaaAppend3
import Derived.Test.YtjmffhpfmfmnlaaAppend4
import Derived.Test.YtjmffhpfmfmnlaaLockHeld
import Derived.Test.YtjmffhpfmfmnlaaLaw2
namespace Go.Proofs.Ytjmffhpfmfmnlaa
open Go.RowKit Go.WideShapes Go.ChangeShapes Go.ChangeAt Go.Joins Go.Deep
set_option linter.unusedVariables false
set_option maxRecDepth 100000 in
set_option maxHeartbeats 4000000 in
theorem FnExactAppendLocking_walk (w : World) (k0 k1 k2 : Int) (hwk0 : (Lit.int .i64 k0).wf = true) (hwk1 : (Lit.int .i64 k1).wf = true) (hwk2 : (Lit.int .i64 k2).wf = true) (vf : Value) (f : List ShipD) (rf : RdShip w vf f) (hokf : ∀ x ∈ f, x.ok) (va : Value) (a : List LockR) (ra : RdLk w w.heap.size va a) (hoka : ∀ r ∈ a, (Lit.int .i64 r.start).wf = true ∧ ∀ x ∈ r.ships, (Lit.int .i64 x).wf = true) (u : Bool) (n : Int) (hwn : (Lit.int .i64 n).wf = true) (vs : Value) (s : List Int) (rs : RdI w vs s) (hoks : ∀ x ∈ s, (Lit.int .i64 x).wf = true) :
    Calls Try.prog 10 #[.agg #[.int .i64 k0, .int .i64 k1, .int .i64 k2], vf, va, .bool u, .int .i64 n, vs] w fun e w' => e = .returned (.bool true) ∧ Below w.heap.size w w' := by
  obtain ⟨As, cs, rfl, hcs, hms, hhs⟩ : ∃ Az cz, vs = .slice Az s.length cz ∧ s.length ≤ cz ∧ cz ≤ maxLen ∧ RdI w (.slice Az s.length cz) s := by obtain ⟨Az, cz, rfl, hc, hm, h⟩ := rs; exact ⟨Az, cz, rfl, hc, hm, ⟨Az, cz, rfl, hc, hm, h⟩⟩
  unfold maxLen at hms
  replace rs := hhs; clear hhs
  go_enter Try.func10, Try.ntmps10
  by_cases hbigs : (1048576 : Int) < (s.length : Int)
  · go_wp2_with fail
    go_ret
    exact ⟨rfl, (by repeat (first | exact Below.refl _ _ | assumption | refine Below.setCell ?_ (by first | omega | (simp <;> omega)) _ | refine Below.alloc ?_ (by first | omega | (simp <;> omega)) _ | refine below_drewN ?_ _ | refine Below.drew ?_ | refine Below.trans ?_ (Below.mono (by assumption) (by first | omega | (simp <;> omega)))))⟩
  have hbigs' : (s.length : Int) ≤ 1048576 := by omega
  have hlens : s.length ≤ 1048576 := by omega
  clear hbigs
  go_wp2_with fail
  generalize hW0 : (w.alloc (.cells #[.int .i64 k0, .int .i64 k1, .int .i64 k2] 23)) = W0
  have hB0 : Below w.heap.size w W0 := by rw [← hW0]; exact (by repeat (first | exact Below.refl _ _ | assumption | refine Below.setCell ?_ (by first | omega | (simp <;> omega)) _ | refine Below.alloc ?_ (by first | omega | (simp <;> omega)) _ | refine below_drewN ?_ _ | refine Below.drew ?_ | refine Below.trans ?_ (Below.mono (by assumption) (by first | omega | (simp <;> omega)))))
  have hl0 : w.heap.size < W0.heap.size := by rw [← hW0]; simp <;> omega
  have hx0_0 : W0.cell? ⟨w.heap.size, 0, none⟩ = some (.int .i64 k0) := by rw [← hW0]; simp [go_sem]
  have hx0_1 : W0.cell? ⟨w.heap.size, 1, none⟩ = some (.int .i64 k1) := by rw [← hW0]; simp [go_sem]
  have hx0_2 : W0.cell? ⟨w.heap.size, 2, none⟩ = some (.int .i64 k2) := by rw [← hW0]; simp [go_sem]
  have s0 := hB0.size
  clear hW0
  replace rf := rf.keep hB0 (by omega)
  replace ra := ra.keep hB0 (by omega)
  replace rs := rs.keep hB0 (by omega)
  have hBB0 := Below.refl W0.heap.size W0
  obtain ⟨hc0, hf0⟩ := bcell hBB0
  go_wp2_with fail
  refine (szShipS_any _ _ 1048576 _ (rf.mono (by omega)) (fun x hx => ShipD.ok_size (hokf x hx)) (by omega) (by omega)).mono ?_; rintro e w1 ⟨z1, rfl, hz1, hm1, hb1⟩
  have s1 := hb1.size
  replace rf := rf.keep hb1 (by omega)
  replace ra := ra.keep hb1 (by omega)
  replace rs := rs.keep hb1 (by omega)
  have hB1 := bnext hB0 hb1 (Nat.le_refl _)
  have hBB0_1 := bnext hBB0 hb1 (Nat.le_refl _)
  clear hc0 hf0; obtain ⟨hc0, hf0⟩ := bcell hBB0_1
  have hm0_0 : w.heap.size < w1.heap.size := by omega
  by_cases hn1 : z1 < 0
  · clear hz1
    go_wp2_with fail
    go_ret
    exact ⟨rfl, hB1⟩
  obtain ⟨p1, q1⟩ := hz1 (by omega)
  go_wp2_with fail
  refine (szLockingS_any _ _ z1 _ (ra.mono (by omega)) (by omega) (by omega)).mono ?_; rintro e w2 ⟨z2, rfl, hz2, hm2, hb2⟩
  have s2 := hb2.size
  replace rf := rf.keep hb2 (by omega)
  replace ra := ra.keep hb2 (by omega)
  replace rs := rs.keep hb2 (by omega)
  have hB2 := bnext hB1 hb2 (Nat.le_refl _)
  have hBB0_2 := bnext hBB0_1 hb2 (Nat.le_refl _)
  clear hc0 hf0; obtain ⟨hc0, hf0⟩ := bcell hBB0_2
  have hm0_0 : w.heap.size < w2.heap.size := by omega
  by_cases hn2 : z2 < 0
  · clear hz2
    go_wp2_with fail
    go_ret
    exact ⟨rfl, hB2⟩
  obtain ⟨p2, q2⟩ := hz2 (by omega)
  obtain ⟨qa0, qa1⟩ := q2
  have qa2 : ∀ r ∈ a, r.ships.length ≤ 1048576 := fun r hr => Nat.le_trans (lkTotal_mem hr) qa1
  obtain ⟨bs, hbs⟩ : ∃ b, (appendLocking k0 k1 k2 f (a.map LockR.d) u n s).isSome = b := ⟨_, rfl⟩
  have HBS := hide hbs; clear hbs
  have hbb : (bs != bs) = false := by cases bs <;> rfl
  go_wp2_with fail
  refine (toChamber_any _ _ _ _).mono ?_; rintro e w3 ⟨rfl, hb3⟩
  have s3 := hb3.size
  replace rf := rf.keep hb3 (by omega)
  replace ra := ra.keep hb3 (by omega)
  replace rs := rs.keep hb3 (by omega)
  have hB3 := bnext hB2 hb3 (Nat.le_refl _)
  have hBB0_3 := bnext hBB0_2 hb3 (Nat.le_refl _)
  clear hc0 hf0; obtain ⟨hc0, hf0⟩ := bcell hBB0_3
  have hm0_0 : w.heap.size < w3.heap.size := by omega
  go_wp2_with fail
  refine (toShipS_any _ _ _ (rf.mono (by omega)) (by omega)).mono ?_; rintro e w4 ⟨v4, rfl, ho4, hb4⟩
  have s4 := hb4.size
  replace rf := rf.keep hb4 (by omega)
  replace ra := ra.keep hb4 (by omega)
  replace rs := rs.keep hb4 (by omega)
  have hB4 := bnext hB3 hb4 (Nat.le_refl _)
  have hBB0_4 := bnext hBB0_3 hb4 (Nat.le_refl _)
  clear hc0 hf0; obtain ⟨hc0, hf0⟩ := bcell hBB0_4
  have hm0_0 : w.heap.size < w4.heap.size := by omega
  have on1 := ho4.b
  have rn1 := on1.rdB ShipD.enc_len
  clear ho4
  clear on1
  go_wp2_with fail
  refine (toLockingS_any _ a _ (ra.mono (by omega)) (by omega) qa2).mono ?_; rintro e w5 ⟨v5, c, rfl, ho5, hdc, hb5⟩
  have s5 := hb5.size
  replace rf := rf.keep hb5 (by omega)
  replace ra := ra.keep hb5 (by omega)
  replace rs := rs.keep hb5 (by omega)
  replace rn1 := rn1.keep hb5 (by omega)
  have hB5 := bnext hB4 hb5 (Nat.le_refl _)
  have hBB0_5 := bnext hBB0_4 hb5 (Nat.le_refl _)
  clear hc0 hf0; obtain ⟨hc0, hf0⟩ := bcell hBB0_5
  have hm0_0 : w.heap.size < w5.heap.size := by omega
  have rc := ho5.rd
  clear ho5
  have qc1 : lkTotal c ≤ 1048576 := by rw [lkTotal_d hdc]; exact qa1
  have qc2 : ∀ r ∈ c, r.ships.length ≤ 1048576 := fun r hr => Nat.le_trans (lkTotal_mem hr) qc1
  have qc3 : c.length ≤ a.length := by have := congrArg List.length hdc; simp at this; omega
  go_wp2_with fail
  refine (toIntS_any _ _ _ (rs.mono (by omega)) (by omega)).mono ?_; rintro e w6 ⟨v6, rfl, ho6, hb6⟩
  have s6 := hb6.size
  replace rf := rf.keep hb6 (by omega)
  replace ra := ra.keep hb6 (by omega)
  replace rs := rs.keep hb6 (by omega)
  replace rn1 := rn1.keep hb6 (by omega)
  replace rc := rc.keep hb6 (by omega)
  have hB6 := bnext hB5 hb6 (Nat.le_refl _)
  have hBB0_6 := bnext hBB0_5 hb6 (Nat.le_refl _)
  clear hc0 hf0; obtain ⟨hc0, hf0⟩ := bcell hBB0_6
  have hm0_0 : w.heap.size < w6.heap.size := by omega
  have on2 := ho6.b
  have rn2 := on2.rdB encI_len
  clear ho6
  clear on2
  go_wp2_with fail
  refine (spec_AppendLocking_any k0 k1 k2 _ _ _ f c u n s _ (rn1.mono (by omega)) (rc.mono (by omega)) (rn2.mono (by omega)) hokf (by omega) qc2 hlens).mono ?_; rintro e w7 ⟨v7, x, rfl, ho7, hdx, hb7⟩
  have s7 := hb7.size
  replace rf := rf.keep hb7 (by omega)
  replace ra := ra.keep hb7 (by omega)
  replace rs := rs.keep hb7 (by omega)
  replace rn1 := rn1.keep hb7 (by omega)
  replace rc := rc.keep hb7 (by omega)
  replace rn2 := rn2.keep hb7 (by omega)
  have hB7 := bnext hB6 hb7 (Nat.le_refl _)
  have hBB0_7 := bnext hBB0_6 hb7 (Nat.le_refl _)
  clear hc0 hf0; obtain ⟨hc0, hf0⟩ := bcell hBB0_7
  have hm0_0 : w.heap.size < w7.heap.size := by omega
  rw [hdc, HBS.out]
  rw [hdc] at hdx
  have ox := ho7.b
  have rx := ox.rd
  clear ho7
  obtain ⟨hzx0, hzx1⟩ := app_size hdx
  clear ox
  clear rn1
  clear rc
  clear rn2
  go_wp2_with fail
  refine (toShipS_any _ _ _ (rf.mono (by omega)) (by omega)).mono ?_; rintro e w8 ⟨v8, rfl, ho8, hb8⟩
  have s8 := hb8.size
  replace rf := rf.keep hb8 (by omega)
  replace ra := ra.keep hb8 (by omega)
  replace rs := rs.keep hb8 (by omega)
  replace rx := rx.keep hb8 (by omega)
  have hB8 := bnext hB7 hb8 (Nat.le_refl _)
  have hBB0_8 := bnext hBB0_7 hb8 (Nat.le_refl _)
  clear hc0 hf0; obtain ⟨hc0, hf0⟩ := bcell hBB0_8
  have hm0_0 : w.heap.size < w8.heap.size := by omega
  have od1 := ho8.b
  have rd1 := od1.rdB ShipD.enc_len
  clear ho8
  go_wp2_with fail
  refine (toLockingS_any _ a _ (ra.mono (by omega)) (by omega) qa2).mono ?_; rintro e w9 ⟨v9, e, rfl, ho9, hde, hb9⟩
  have s9 := hb9.size
  replace rf := rf.keep hb9 (by omega)
  replace ra := ra.keep hb9 (by omega)
  replace rs := rs.keep hb9 (by omega)
  replace rx := rx.keep hb9 (by omega)
  replace rd1 := rd1.keep hb9 (by omega)
  replace od1 := od1.keep hb9 (by omega)
  have hB9 := bnext hB8 hb9 (Nat.le_refl _)
  have hBB0_9 := bnext hBB0_8 hb9 (Nat.le_refl _)
  clear hc0 hf0; obtain ⟨hc0, hf0⟩ := bcell hBB0_9
  have hm0_0 : w.heap.size < w9.heap.size := by omega
  have re := ho9.rd
  have oe := ho9
  clear ho9
  have qe1 : lkTotal e ≤ 1048576 := by rw [lkTotal_d hde]; exact qa1
  have qe2 : ∀ r ∈ e, r.ships.length ≤ 1048576 := fun r hr => Nat.le_trans (lkTotal_mem hr) qe1
  have qe3 : e.length ≤ a.length := by have := congrArg List.length hde; simp at this; omega
  go_wp2_with fail
  refine (toIntS_any _ _ _ (rs.mono (by omega)) (by omega)).mono ?_; rintro e w10 ⟨v10, rfl, ho10, hb10⟩
  have s10 := hb10.size
  replace rf := rf.keep hb10 (by omega)
  replace ra := ra.keep hb10 (by omega)
  replace rs := rs.keep hb10 (by omega)
  replace rx := rx.keep hb10 (by omega)
  replace rd1 := rd1.keep hb10 (by omega)
  replace od1 := od1.keep hb10 (by omega)
  replace oe := oe.keep hb10 (by omega)
  replace re := re.keep hb10 (by omega)
  have hB10 := bnext hB9 hb10 (Nat.le_refl _)
  have hBB0_10 := bnext hBB0_9 hb10 (Nat.le_refl _)
  clear hc0 hf0; obtain ⟨hc0, hf0⟩ := bcell hBB0_10
  have hm0_0 : w.heap.size < w10.heap.size := by omega
  have og1 := ho10.b
  have rg1 := og1.rdB encI_len
  clear ho10
  go_wp2_with fail
  refine (toChamber_any _ _ _ _).mono ?_; rintro e w11 ⟨rfl, hb11⟩
  have s11 := hb11.size
  replace rf := rf.keep hb11 (by omega)
  replace ra := ra.keep hb11 (by omega)
  replace rs := rs.keep hb11 (by omega)
  replace rx := rx.keep hb11 (by omega)
  replace rd1 := rd1.keep hb11 (by omega)
  replace od1 := od1.keep hb11 (by omega)
  replace oe := oe.keep hb11 (by omega)
  replace re := re.keep hb11 (by omega)
  replace rg1 := rg1.keep hb11 (by omega)
  replace og1 := og1.keep hb11 (by omega)
  have hB11 := bnext hB10 hb11 (Nat.le_refl _)
  have hBB0_11 := bnext hBB0_10 hb11 (Nat.le_refl _)
  clear hc0 hf0; obtain ⟨hc0, hf0⟩ := bcell hBB0_11
  have hm0_0 : w.heap.size < w11.heap.size := by omega
  go_wp2_with fail
  refine (impl_AppendLocking_any k0 k1 k2 _ _ _ f e u n s _ (rd1.mono (by omega)) (re.mono (by omega)) (rg1.mono (by omega)) hokf (by omega) qe2 hlens).mono ?_; rintro e w12 ⟨v12, y, rfl, ho12, hdy, hb12⟩
  have s12 := hb12.size
  replace rf := rf.keep hb12 (by omega)
  replace ra := ra.keep hb12 (by omega)
  replace rs := rs.keep hb12 (by omega)
  replace rx := rx.keep hb12 (by omega)
  replace rd1 := rd1.keep hb12 (by omega)
  replace od1 := od1.keep hb12 (by omega)
  replace oe := oe.keep hb12 (by omega)
  replace re := re.keep hb12 (by omega)
  replace rg1 := rg1.keep hb12 (by omega)
  replace og1 := og1.keep hb12 (by omega)
  have hB12 := bnext hB11 hb12 (Nat.le_refl _)
  have hBB0_12 := bnext hBB0_11 hb12 (Nat.le_refl _)
  clear hc0 hf0; obtain ⟨hc0, hf0⟩ := bcell hBB0_12
  have hm0_0 : w.heap.size < w12.heap.size := by omega
  rw [hde, HBS.out]
  rw [hde] at hdy
  have oy := ho12.b
  have ry := oy.rd
  clear ho12
  obtain ⟨hzy0, hzy1⟩ := app_size hdy
  go_wp2_with fail
  refine (eqLockingS_any _ _ y x _ (ry.mono (by omega)) (rx.mono (by omega))).mono ?_; rintro e w13 ⟨rfl, hb13⟩
  have s13 := hb13.size
  replace rf := rf.keep hb13 (by omega)
  replace ra := ra.keep hb13 (by omega)
  replace rs := rs.keep hb13 (by omega)
  replace rx := rx.keep hb13 (by omega)
  replace rd1 := rd1.keep hb13 (by omega)
  replace od1 := od1.keep hb13 (by omega)
  replace oe := oe.keep hb13 (by omega)
  replace re := re.keep hb13 (by omega)
  replace rg1 := rg1.keep hb13 (by omega)
  replace og1 := og1.keep hb13 (by omega)
  replace ry := ry.keep hb13 (by omega)
  replace oy := oy.keep hb13 (by omega)
  have hB13 := bnext hB12 hb13 (Nat.le_refl _)
  have hBB0_13 := bnext hBB0_12 hb13 (Nat.le_refl _)
  clear hc0 hf0; obtain ⟨hc0, hf0⟩ := bcell hBB0_13
  have hm0_0 : w.heap.size < w13.heap.size := by omega
  rw [hdy, hdx, decide_eq_true rfl]
  go_wp2_with fail
  refine (toShipS_any _ _ _ (rf.mono (by omega)) (by omega)).mono ?_; rintro e w14 ⟨v14, rfl, ho14, hb14⟩
  have s14 := hb14.size
  replace rf := rf.keep hb14 (by omega)
  replace ra := ra.keep hb14 (by omega)
  replace rs := rs.keep hb14 (by omega)
  replace rx := rx.keep hb14 (by omega)
  replace rd1 := rd1.keep hb14 (by omega)
  replace od1 := od1.keep hb14 (by omega)
  replace oe := oe.keep hb14 (by omega)
  replace re := re.keep hb14 (by omega)
  replace rg1 := rg1.keep hb14 (by omega)
  replace og1 := og1.keep hb14 (by omega)
  replace ry := ry.keep hb14 (by omega)
  replace oy := oy.keep hb14 (by omega)
  have hB14 := bnext hB13 hb14 (Nat.le_refl _)
  have hBB0_14 := bnext hBB0_13 hb14 (Nat.le_refl _)
  clear hc0 hf0; obtain ⟨hc0, hf0⟩ := bcell hBB0_14
  have hm0_0 : w.heap.size < w14.heap.size := by omega
  have od2 := ho14.b
  have rd2 := od2.rdB ShipD.enc_len
  clear ho14
  clear od2
  go_wp2_with fail
  refine (eqShipS_any _ _ _ _ _ (rd1.mono (by omega)) (rd2.mono (by omega))).mono ?_; rintro e w15 ⟨rfl, hb15⟩
  have s15 := hb15.size
  replace rf := rf.keep hb15 (by omega)
  replace ra := ra.keep hb15 (by omega)
  replace rs := rs.keep hb15 (by omega)
  replace rx := rx.keep hb15 (by omega)
  replace rd1 := rd1.keep hb15 (by omega)
  replace od1 := od1.keep hb15 (by omega)
  replace oe := oe.keep hb15 (by omega)
  replace re := re.keep hb15 (by omega)
  replace rg1 := rg1.keep hb15 (by omega)
  replace og1 := og1.keep hb15 (by omega)
  replace ry := ry.keep hb15 (by omega)
  replace oy := oy.keep hb15 (by omega)
  replace rd2 := rd2.keep hb15 (by omega)
  have hB15 := bnext hB14 hb15 (Nat.le_refl _)
  have hBB0_15 := bnext hBB0_14 hb15 (Nat.le_refl _)
  clear hc0 hf0; obtain ⟨hc0, hf0⟩ := bcell hBB0_15
  have hm0_0 : w.heap.size < w15.heap.size := by omega
  clear rd2
  clear rd1
  go_wp2_with fail
  refine (toLockingS_any _ a _ (ra.mono (by omega)) (by omega) qa2).mono ?_; rintro e w16 ⟨v16, h, rfl, ho16, hdh, hb16⟩
  have s16 := hb16.size
  replace rf := rf.keep hb16 (by omega)
  replace ra := ra.keep hb16 (by omega)
  replace rs := rs.keep hb16 (by omega)
  replace rx := rx.keep hb16 (by omega)
  replace od1 := od1.keep hb16 (by omega)
  replace oe := oe.keep hb16 (by omega)
  replace re := re.keep hb16 (by omega)
  replace rg1 := rg1.keep hb16 (by omega)
  replace og1 := og1.keep hb16 (by omega)
  replace ry := ry.keep hb16 (by omega)
  replace oy := oy.keep hb16 (by omega)
  have hB16 := bnext hB15 hb16 (Nat.le_refl _)
  have hBB0_16 := bnext hBB0_15 hb16 (Nat.le_refl _)
  clear hc0 hf0; obtain ⟨hc0, hf0⟩ := bcell hBB0_16
  have hm0_0 : w.heap.size < w16.heap.size := by omega
  have rh := ho16.rd
  clear ho16
  have qh1 : lkTotal h ≤ 1048576 := by rw [lkTotal_d hdh]; exact qa1
  have qh2 : ∀ r ∈ h, r.ships.length ≤ 1048576 := fun r hr => Nat.le_trans (lkTotal_mem hr) qh1
  have qh3 : h.length ≤ a.length := by have := congrArg List.length hdh; simp at this; omega
  go_wp2_with fail
  refine (eqLockingS_any _ _ e h _ (re.mono (by omega)) (rh.mono (by omega))).mono ?_; rintro e w17 ⟨rfl, hb17⟩
  have s17 := hb17.size
  replace rf := rf.keep hb17 (by omega)
  replace ra := ra.keep hb17 (by omega)
  replace rs := rs.keep hb17 (by omega)
  replace rx := rx.keep hb17 (by omega)
  replace od1 := od1.keep hb17 (by omega)
  replace oe := oe.keep hb17 (by omega)
  replace re := re.keep hb17 (by omega)
  replace rg1 := rg1.keep hb17 (by omega)
  replace og1 := og1.keep hb17 (by omega)
  replace ry := ry.keep hb17 (by omega)
  replace oy := oy.keep hb17 (by omega)
  replace rh := rh.keep hb17 (by omega)
  have hB17 := bnext hB16 hb17 (Nat.le_refl _)
  have hBB0_17 := bnext hBB0_16 hb17 (Nat.le_refl _)
  clear hc0 hf0; obtain ⟨hc0, hf0⟩ := bcell hBB0_17
  have hm0_0 : w.heap.size < w17.heap.size := by omega
  rw [hde, hdh, decide_eq_true rfl]
  clear rh
  clear re
  go_wp2_with fail
  refine (toIntS_any _ _ _ (rs.mono (by omega)) (by omega)).mono ?_; rintro e w18 ⟨v18, rfl, ho18, hb18⟩
  have s18 := hb18.size
  replace rf := rf.keep hb18 (by omega)
  replace ra := ra.keep hb18 (by omega)
  replace rs := rs.keep hb18 (by omega)
  replace rx := rx.keep hb18 (by omega)
  replace od1 := od1.keep hb18 (by omega)
  replace oe := oe.keep hb18 (by omega)
  replace rg1 := rg1.keep hb18 (by omega)
  replace og1 := og1.keep hb18 (by omega)
  replace ry := ry.keep hb18 (by omega)
  replace oy := oy.keep hb18 (by omega)
  have hB18 := bnext hB17 hb18 (Nat.le_refl _)
  have hBB0_18 := bnext hBB0_17 hb18 (Nat.le_refl _)
  clear hc0 hf0; obtain ⟨hc0, hf0⟩ := bcell hBB0_18
  have hm0_0 : w.heap.size < w18.heap.size := by omega
  have og2 := ho18.b
  have rg2 := og2.rdB encI_len
  clear ho18
  clear og2
  go_wp2_with fail
  refine (eqIntS_any _ _ _ _ _ (rg1.mono (by omega)) (rg2.mono (by omega))).mono ?_; rintro e w19 ⟨rfl, hb19⟩
  have s19 := hb19.size
  replace rf := rf.keep hb19 (by omega)
  replace ra := ra.keep hb19 (by omega)
  replace rs := rs.keep hb19 (by omega)
  replace rx := rx.keep hb19 (by omega)
  replace od1 := od1.keep hb19 (by omega)
  replace oe := oe.keep hb19 (by omega)
  replace rg1 := rg1.keep hb19 (by omega)
  replace og1 := og1.keep hb19 (by omega)
  replace ry := ry.keep hb19 (by omega)
  replace oy := oy.keep hb19 (by omega)
  replace rg2 := rg2.keep hb19 (by omega)
  have hB19 := bnext hB18 hb19 (Nat.le_refl _)
  have hBB0_19 := bnext hBB0_18 hb19 (Nat.le_refl _)
  clear hc0 hf0; obtain ⟨hc0, hf0⟩ := bcell hBB0_19
  have hm0_0 : w.heap.size < w19.heap.size := by omega
  clear rg2
  clear rg1
  go_wp2_with fail
  refine (markShipS_any _ _ _ _ _ od1.1 (by omega) (by omega) (by omega)).mono ?_; rintro e w20 ⟨rfl, ho20, hg20⟩
  have ht20 := Tou.grown hg20 (fun k hk => ⟨(World.ownsRow.lt od1.1 k hk).1, od1.2 k hk⟩)
  replace od1 := od1.again ho20; clear ho20 hg20
  have s20 := ht20.size
  replace oe := oe.tou ht20 (by omega)
  replace og1 := og1.tou ht20 (by omega)
  replace oy := oy.tou ht20 (by omega)
  replace rf := rf.keep (ht20.below (by omega)) (by omega)
  replace ra := ra.keep (ht20.below (by omega)) (by omega)
  replace rs := rs.keep (ht20.below (by omega)) (by omega)
  replace rx := rx.keep (ht20.below (by omega)) (by omega)
  replace ry := oy.rd
  have hB20 := hB19.trans ((ht20.below (by omega)).mono (by omega))
  have hBB0_20 := hBB0_19.trans ((ht20.below (by omega)).mono (by omega))
  clear hc0 hf0; obtain ⟨hc0, hf0⟩ := bcell hBB0_20
  have hm0_0 : w.heap.size < w20.heap.size := by omega
  clear od1
  have hka := kAt_range (k := 1 + (f.length : Int) * 6) (Nat.le_refl e.length)
  go_wp2_with fail
  refine (markLk_any _ e (1 + (f.length : Int) * 6) _ _ _ oe (by omega) (by omega) (by omega) (by omega)).mono ?_; rintro e w21 ⟨rfl, -, ht21⟩
  clear oe
  have s21 := ht21.size
  replace og1 := og1.tou ht21 (by omega)
  replace oy := oy.tou ht21 (by omega)
  replace rf := rf.keep (ht21.below (by omega)) (by omega)
  replace ra := ra.keep (ht21.below (by omega)) (by omega)
  replace rs := rs.keep (ht21.below (by omega)) (by omega)
  replace rx := rx.keep (ht21.below (by omega)) (by omega)
  replace ry := oy.rd
  have hB21 := hB20.trans ((ht21.below (by omega)).mono (by omega))
  have hBB0_21 := hBB0_20.trans ((ht21.below (by omega)).mono (by omega))
  clear hc0 hf0; obtain ⟨hc0, hf0⟩ := bcell hBB0_21
  have hm0_0 : w.heap.size < w21.heap.size := by omega
  go_wp2_with fail
  refine (markIntS_any _ _ _ _ _ og1.1 (by omega) (by omega) (by omega)).mono ?_; rintro e w22 ⟨rfl, ho22, hg22⟩
  have ht22 := Tou.grown hg22 (fun k hk => ⟨(World.ownsRow.lt og1.1 k hk).1, og1.2 k hk⟩)
  replace og1 := og1.again ho22; clear ho22 hg22
  have s22 := ht22.size
  replace oy := oy.tou ht22 (by omega)
  replace rf := rf.keep (ht22.below (by omega)) (by omega)
  replace ra := ra.keep (ht22.below (by omega)) (by omega)
  replace rs := rs.keep (ht22.below (by omega)) (by omega)
  replace rx := rx.keep (ht22.below (by omega)) (by omega)
  replace ry := oy.rd
  have hB22 := hB21.trans ((ht22.below (by omega)).mono (by omega))
  have hBB0_22 := hBB0_21.trans ((ht22.below (by omega)).mono (by omega))
  clear hc0 hf0; obtain ⟨hc0, hf0⟩ := bcell hBB0_22
  have hm0_0 : w.heap.size < w22.heap.size := by omega
  clear og1
  go_wp2_with fail
  refine (eqLockingS_any _ _ y x _ (ry.mono (by omega)) (rx.mono (by omega))).mono ?_; rintro e w23 ⟨rfl, hb23⟩
  have s23 := hb23.size
  replace rf := rf.keep hb23 (by omega)
  replace ra := ra.keep hb23 (by omega)
  replace rs := rs.keep hb23 (by omega)
  replace rx := rx.keep hb23 (by omega)
  replace ry := ry.keep hb23 (by omega)
  replace oy := oy.keep hb23 (by omega)
  have hB23 := bnext hB22 hb23 (Nat.le_refl _)
  have hBB0_23 := bnext hBB0_22 hb23 (Nat.le_refl _)
  clear hc0 hf0; obtain ⟨hc0, hf0⟩ := bcell hBB0_23
  have hm0_0 : w.heap.size < w23.heap.size := by omega
  rw [hdy, hdx, decide_eq_true rfl]
  obtain ⟨M, hM⟩ : ∃ M, kAt 1 y y.length = M := ⟨_, rfl⟩
  have hM0 := kAt_range (k := 1) (Nat.le_refl y.length)
  rw [hM] at hM0
  have HM := hide hM; clear hM
  go_wp2_with fail
  refine (markLk_any _ y 1 _ _ _ oy (by omega) (by omega) (by omega) (by omega)).mono ?_; rintro e w24 ⟨rfl, ho24, ht24⟩
  rw [HM.out]
  clear ry
  replace oy := ho24; clear ho24
  have s24 := ht24.size
  replace rf := rf.keep (ht24.below (by omega)) (by omega)
  replace ra := ra.keep (ht24.below (by omega)) (by omega)
  replace rs := rs.keep (ht24.below (by omega)) (by omega)
  replace rx := rx.keep (ht24.below (by omega)) (by omega)
  have hB24 := hB23.trans ((ht24.below (by omega)).mono (by omega))
  have hBB0_24 := hBB0_23.trans ((ht24.below (by omega)).mono (by omega))
  clear hc0 hf0; obtain ⟨hc0, hf0⟩ := bcell hBB0_24
  have hm0_0 : w.heap.size < w24.heap.size := by omega
  have ry := oy.rd
  go_wp2_with fail
  refine (heldLk_any _ y 1 _ (ry.mono (by omega)) (by omega) (by omega) (by omega) (by omega)).mono ?_; rintro e w25 ⟨rfl, hb25⟩
  have s25 := hb25.size
  replace rf := rf.keep hb25 (by omega)
  replace ra := ra.keep hb25 (by omega)
  replace rs := rs.keep hb25 (by omega)
  replace rx := rx.keep hb25 (by omega)
  replace oy := oy.keep hb25 (by omega)
  replace ry := ry.keep hb25 (by omega)
  have hB25 := bnext hB24 hb25 (Nat.le_refl _)
  have hBB0_25 := bnext hBB0_24 hb25 (Nat.le_refl _)
  clear hc0 hf0; obtain ⟨hc0, hf0⟩ := bcell hBB0_25
  have hm0_0 : w.heap.size < w25.heap.size := by omega
  rw [HM.out]
  go_wp2_with fail
  refine (toChamber_any _ _ _ _).mono ?_; rintro e w26 ⟨rfl, hb26⟩
  have s26 := hb26.size
  replace rf := rf.keep hb26 (by omega)
  replace ra := ra.keep hb26 (by omega)
  replace rs := rs.keep hb26 (by omega)
  replace rx := rx.keep hb26 (by omega)
  replace oy := oy.keep hb26 (by omega)
  replace ry := ry.keep hb26 (by omega)
  have hB26 := bnext hB25 hb26 (Nat.le_refl _)
  have hBB0_26 := bnext hBB0_25 hb26 (Nat.le_refl _)
  clear hc0 hf0; obtain ⟨hc0, hf0⟩ := bcell hBB0_26
  have hm0_0 : w.heap.size < w26.heap.size := by omega
  go_wp2_with fail
  refine (toShipS_any _ _ _ (rf.mono (by omega)) (by omega)).mono ?_; rintro e w27 ⟨v27, rfl, ho27, hb27⟩
  have s27 := hb27.size
  replace rf := rf.keep hb27 (by omega)
  replace ra := ra.keep hb27 (by omega)
  replace rs := rs.keep hb27 (by omega)
  replace rx := rx.keep hb27 (by omega)
  replace oy := oy.keep hb27 (by omega)
  replace ry := ry.keep hb27 (by omega)
  have hB27 := bnext hB26 hb27 (Nat.le_refl _)
  have hBB0_27 := bnext hBB0_26 hb27 (Nat.le_refl _)
  clear hc0 hf0; obtain ⟨hc0, hf0⟩ := bcell hBB0_27
  have hm0_0 : w.heap.size < w27.heap.size := by omega
  have on1 := ho27.b
  have rn1 := on1.rdB ShipD.enc_len
  clear ho27
  clear on1
  go_wp2_with fail
  refine (toLockingS_any _ a _ (ra.mono (by omega)) (by omega) qa2).mono ?_; rintro e w28 ⟨v28, c2, rfl, ho28, hdc2, hb28⟩
  have s28 := hb28.size
  replace rf := rf.keep hb28 (by omega)
  replace ra := ra.keep hb28 (by omega)
  replace rs := rs.keep hb28 (by omega)
  replace rx := rx.keep hb28 (by omega)
  replace oy := oy.keep hb28 (by omega)
  replace ry := ry.keep hb28 (by omega)
  replace rn1 := rn1.keep hb28 (by omega)
  have hB28 := bnext hB27 hb28 (Nat.le_refl _)
  have hBB0_28 := bnext hBB0_27 hb28 (Nat.le_refl _)
  clear hc0 hf0; obtain ⟨hc0, hf0⟩ := bcell hBB0_28
  have hm0_0 : w.heap.size < w28.heap.size := by omega
  have rc2 := ho28.rd
  clear ho28
  have qc21 : lkTotal c2 ≤ 1048576 := by rw [lkTotal_d hdc2]; exact qa1
  have qc22 : ∀ r ∈ c2, r.ships.length ≤ 1048576 := fun r hr => Nat.le_trans (lkTotal_mem hr) qc21
  have qc23 : c2.length ≤ a.length := by have := congrArg List.length hdc2; simp at this; omega
  go_wp2_with fail
  refine (toIntS_any _ _ _ (rs.mono (by omega)) (by omega)).mono ?_; rintro e w29 ⟨v29, rfl, ho29, hb29⟩
  have s29 := hb29.size
  replace rf := rf.keep hb29 (by omega)
  replace ra := ra.keep hb29 (by omega)
  replace rs := rs.keep hb29 (by omega)
  replace rx := rx.keep hb29 (by omega)
  replace oy := oy.keep hb29 (by omega)
  replace ry := ry.keep hb29 (by omega)
  replace rn1 := rn1.keep hb29 (by omega)
  replace rc2 := rc2.keep hb29 (by omega)
  have hB29 := bnext hB28 hb29 (Nat.le_refl _)
  have hBB0_29 := bnext hBB0_28 hb29 (Nat.le_refl _)
  clear hc0 hf0; obtain ⟨hc0, hf0⟩ := bcell hBB0_29
  have hm0_0 : w.heap.size < w29.heap.size := by omega
  have on2 := ho29.b
  have rn2 := on2.rdB encI_len
  clear ho29
  clear on2
  go_wp2_with fail
  refine (impl_AppendLocking_any k0 k1 k2 _ _ _ f c2 u n s _ (rn1.mono (by omega)) (rc2.mono (by omega)) (rn2.mono (by omega)) hokf (by omega) qc22 hlens).mono ?_; rintro e w30 ⟨v30, z, rfl, ho30, hdz, hb30⟩
  have s30 := hb30.size
  replace rf := rf.keep hb30 (by omega)
  replace ra := ra.keep hb30 (by omega)
  replace rs := rs.keep hb30 (by omega)
  replace rx := rx.keep hb30 (by omega)
  replace oy := oy.keep hb30 (by omega)
  replace ry := ry.keep hb30 (by omega)
  replace rn1 := rn1.keep hb30 (by omega)
  replace rc2 := rc2.keep hb30 (by omega)
  replace rn2 := rn2.keep hb30 (by omega)
  have hB30 := bnext hB29 hb30 (Nat.le_refl _)
  have hBB0_30 := bnext hBB0_29 hb30 (Nat.le_refl _)
  clear hc0 hf0; obtain ⟨hc0, hf0⟩ := bcell hBB0_30
  have hm0_0 : w.heap.size < w30.heap.size := by omega
  rw [hdc2, HBS.out]
  rw [hdc2] at hdz
  have oz := ho30.b
  have rz := oz.rd
  clear ho30
  obtain ⟨hzz0, hzz1⟩ := app_size hdz
  clear oz
  clear rn1
  clear rc2
  clear rn2
  go_wp2_with fail
  refine (eqLockingS_any _ _ z x _ (rz.mono (by omega)) (rx.mono (by omega))).mono ?_; rintro e w31 ⟨rfl, hb31⟩
  have s31 := hb31.size
  replace rf := rf.keep hb31 (by omega)
  replace ra := ra.keep hb31 (by omega)
  replace rs := rs.keep hb31 (by omega)
  replace rx := rx.keep hb31 (by omega)
  replace oy := oy.keep hb31 (by omega)
  replace ry := ry.keep hb31 (by omega)
  replace rz := rz.keep hb31 (by omega)
  have hB31 := bnext hB30 hb31 (Nat.le_refl _)
  have hBB0_31 := bnext hBB0_30 hb31 (Nat.le_refl _)
  clear hc0 hf0; obtain ⟨hc0, hf0⟩ := bcell hBB0_31
  have hm0_0 : w.heap.size < w31.heap.size := by omega
  rw [hdz, hdx, decide_eq_true rfl]
  go_wp2_with fail
  refine (heldLk_any _ y 1 _ (ry.mono (by omega)) (by omega) (by omega) (by omega) (by omega)).mono ?_; rintro e w32 ⟨rfl, hb32⟩
  have s32 := hb32.size
  replace rf := rf.keep hb32 (by omega)
  replace ra := ra.keep hb32 (by omega)
  replace rs := rs.keep hb32 (by omega)
  replace rx := rx.keep hb32 (by omega)
  replace oy := oy.keep hb32 (by omega)
  replace ry := ry.keep hb32 (by omega)
  replace rz := rz.keep hb32 (by omega)
  have hB32 := bnext hB31 hb32 (Nat.le_refl _)
  have hBB0_32 := bnext hBB0_31 hb32 (Nat.le_refl _)
  clear hc0 hf0; obtain ⟨hc0, hf0⟩ := bcell hBB0_32
  have hm0_0 : w.heap.size < w32.heap.size := by omega
  rw [HM.out]
  go_wp2_with fail
  go_ret
  exact ⟨rfl, hB32⟩
namespace fnExactAppendLocking
set_option maxRecDepth 100000 in
theorem lifted (os : Os) (started : os.Started) (H : Type) (enc : TypeId × Value → H) :
    ReturnsInHanded {} Try.checked os 10 .any (Rows.fnExactAppendLockingSpec.pre6 enc Try.prog Try.f10 Rows.fnExactAppendLockingRow.domain false) (Rows.fnExactAppendLockingSpec.post enc Try.prog Try.f10 false true false false) := by
  refine returnsInHanded_of_change (C := Try.checked) own started (by kernel_rfl) Try.func10
    (ChangeSpec.witness6 (enc := enc) (C := Try.checked) false ⟨#[], #[.agg #[.int .i64 0, .int .i64 0, .int .i64 0], .slice none 0 0, .slice none 0 0, .bool false, .int .i64 0, .slice none 0 0], []⟩ 8 (by kernel_rfl) (by kernel_rfl) (by kernel_rfl) (by kernel_rfl)) ?_
  intro W base args ds gs before hval0 hW hcnd _
  have hval : ∀ (j : Nat) t v, Try.f10.params[j]? = some t → args[j]? = some v → Value.okWide Try.prog W .any base t v := hval0
  have hW' := hW
  obtain ⟨p, q, hA0, hV, hbef, hfz, hnd⟩ := hW
  have hA : DataW.TrodAll enc Try.prog W 0 (fun _ => true) true Try.f10.params.toList args.toList ds p := hA0
  rw [Try.params10] at hA hval
  obtain ⟨v0, vs0, d0, ds0, p0, q0, hargs, rfl, hp0, h0, r0⟩ := trodAll_cons hA
  obtain ⟨v1, vs1, d1, ds1, p1, q1, rfl, rfl, hp1, h1, r1⟩ := trodAll_cons r0
  obtain ⟨v2, vs2, d2, ds2, p2, q2, rfl, rfl, hp2, h2, r2⟩ := trodAll_cons r1
  obtain ⟨v3, vs3, d3, ds3, p3, q3, rfl, rfl, hp3, h3, r3⟩ := trodAll_cons r2
  obtain ⟨v4, vs4, d4, ds4, p4, q4, rfl, rfl, hp4, h4, r4⟩ := trodAll_cons r3
  obtain ⟨v5, vs5, d5, ds5, p5, q5, rfl, rfl, hp5, h5, r5⟩ := trodAll_cons r4
  obtain ⟨rfl, rfl, hpn⟩ := trodAll_nil r5
  obtain rfl : args = #[v0, v1, v2, v3, v4, v5] := by cases args; simp_all
  obtain ⟨rfl, rfl⟩ := trodVars_none hV
  obtain ⟨cs0, rfl, hl0, hf0⟩ := open_struct Try.underlying23 (by kernel_rfl) (by kernel_rfl) (hval 0 23 v0 rfl rfl) h0
  obtain ⟨c0_0, c0_1, c0_2, rfl⟩ := list3 hl0
  obtain ⟨u0_0, y0_0, m0_0, g0_0, hy0_0⟩ := hf0 0 _ rfl
  have g0_0 := Option.some.inj g0_0; subst g0_0
  obtain ⟨a0_0, e0_0, -, w0_0⟩ := DataW.trod_int Try.underlying3 hy0_0
  simp only [List.cons.injEq, and_true] at e0_0; subst e0_0
  obtain ⟨u0_1, y0_1, m0_1, g0_1, hy0_1⟩ := hf0 1 _ rfl
  have g0_1 := Option.some.inj g0_1; subst g0_1
  obtain ⟨a0_1, e0_1, -, w0_1⟩ := DataW.trod_int Try.underlying3 hy0_1
  simp only [List.cons.injEq, and_true] at e0_1; subst e0_1
  obtain ⟨u0_2, y0_2, m0_2, g0_2, hy0_2⟩ := hf0 2 _ rfl
  have g0_2 := Option.some.inj g0_2; subst g0_2
  obtain ⟨a0_2, e0_2, -, w0_2⟩ := DataW.trod_int Try.underlying3 hy0_2
  simp only [List.cons.injEq, and_true] at e0_2; subst e0_2
  obtain ⟨a1, g1, w1⟩ := openShipS (hval 1 44 v1 rfl rfl) h1
  obtain ⟨a2, g2, w2⟩ := openLockingS (hval 2 45 v2 rfl rfl) h2
  obtain ⟨a3, rfl, -, -⟩ := open_bool Try.underlying4 (hval 3 4 v3 rfl rfl) h3
  obtain ⟨a4, rfl, -, -, w4⟩ := open_int Try.underlying3 (hval 4 3 v4 rfl rfl) h4
  obtain ⟨a5, g5, w5⟩ := open_rowsI Try.underlying24 Try.underlying3 (by kernel_rfl) (hval 5 24 v5 rfl rfl) h5
  refine (FnExactAppendLocking_walk W a0_0 a0_1 a0_2 w0_0 w0_1 w0_2 _ a1 g1 w1 _ a2 g2 w2 a3 a4 w4 _ a5 g5 w5).mono fun e W' ⟨he, hg⟩ => ?_
  subst he
  exact ⟨_, rfl, post_law laidOut (by kernel_rfl) rfl Try.underlying4 rfl ⟨rfl, rfl, rfl⟩ hW' hg⟩
theorem proved : Rows.FnExactAppendLockingSaid :=
  OpenClaim.holds_of_wide 10 Try.f10 rfl rfl rfl rfl rfl rfl rfl ⟨rfl, rfl, rfl, rfl, rfl⟩ rfl rfl rfl rfl rfl (by kernel_rfl) Try.func10 (by kernel_rfl)
    (of_decide_eq_true (by kernel_rfl)) (by unfold Func.isWrapper; first | (rw [if_pos (by decide +kernel)]; kernel_rfl) | (rw [if_neg (by decide +kernel)]; exact ⟨rfl, rfl⟩))
    (fun os started H enc _ => lifted os started H enc)
end fnExactAppendLocking
end Go.Proofs.Ytjmffhpfmfmnlaa
