/- Packing: the program's search through the lanes. No condition. -/
import Derived.Test.YtjmffhpfmfmnlaaPack
namespace Go.Proofs.Ytjmffhpfmfmnlaa
open Go.RowKit
set_option linter.unusedVariables false
set_option maxRecDepth 100000 in
set_option maxHeartbeats 16000000 in
theorem pack_any (L M : Int) (m : Nat) (hL0 : 10 ≤ L) (hL1 : L ≤ 1000) (hm0 : 1 ≤ m) (hm1 : m ≤ 3) (v1 : Value) (ns : List Int) (hns : ∀ x ∈ ns, 1 ≤ x ∧ x ≤ 400) (h8 : ns.length ≤ 8) :
    ∀ (n : Nat) (d : List Int) (u : Nat → Int) (vd : Value) (lo : Nat) (w : World), RdI w v1 ns → Own w lo 3 1 encI vd d →
    lo ≤ w.heap.size → ns.length = n + d.length → (∀ j, j < 3 → 0 ≤ u j ∧ u j ≤ L) →
    Calls Try.prog 55 #[.agg #[.int .i64 L, .int .i64 m, .int .i64 M], v1, vd, .agg #[.int .i64 (u 0), .int .i64 (u 1), .int .i64 (u 2)]] w fun e w' => ∃ v, e = .returned (.tuple #[v, .bool (packL L m (ns.drop d.length) u d).isSome]) ∧ PackRes w' lo v (packL L m (ns.drop d.length) u d) ∧ Below w.heap.size w w' := by
  intro n
  induction n with
  | zero =>
    intro d u vd lo w h1 hod hlo hlen hu
    have HO := hide hod
    have hrd := Own.rd encI_len hod
    obtain ⟨A4, c4, rfl, hc4, hm4, h4⟩ := hrd
    obtain ⟨A1, c1, rfl, hc1, hm1, h1⟩ := h1
    unfold maxLen at hm1 hm4
    have hq : ((d.length : Int) == (ns.length : Int)) = true := by simp; omega
    have HD := hide (show ns.drop d.length = [] by rw [show d.length = ns.length by omega, List.drop_length])
    clear h4 h1 hod hlen
    go_enter Try.func55, Try.ntmps55
    go_wp2
    go_ret2
    exact ⟨_, by rw [HD.out]; rfl, ⟨(fun ys hy => by rw [HD.out, packL] at hy; have := Option.some.inj hy; subst this; exact HO.out.below (by repeat (first | exact Below.refl _ _ | assumption | refine Below.setCell ?_ (by first | omega | (simp <;> omega)) _ | refine Below.alloc ?_ (by first | omega | (simp <;> omega)) _ | refine below_drewN ?_ _ | refine Below.drew ?_ | refine Below.trans ?_ (Below.mono (by assumption) (by first | omega | (simp <;> omega)))))), (fun hn => by rw [HD.out, packL] at hn; cases hn)⟩, (by repeat (first | exact Below.refl _ _ | assumption | refine Below.setCell ?_ (by first | omega | (simp <;> omega)) _ | refine Below.alloc ?_ (by first | omega | (simp <;> omega)) _ | refine below_drewN ?_ _ | refine Below.drew ?_ | refine Below.trans ?_ (Below.mono (by assumption) (by first | omega | (simp <;> omega)))))⟩
  | succ n ih =>
    intro d u vd lo w h1 hod hlo hlen hu
    have HR1 := hide h1
    have HO := hide hod
    have hrd := Own.rd encI_len hod
    have HRD := hide hrd
    obtain ⟨A4, c4, rfl, hc4, hm4, h4⟩ := hrd
    obtain ⟨A1, c1, rfl, hc1, hmx1, h1⟩ := h1
    unfold maxLen at hmx1 hm4
    have hil : d.length < ns.length := by omega
    obtain ⟨b1, o1, rfl, hb1, hcell1⟩ := h1 (by omega)
    have hx := hns ns[d.length] (List.getElem_mem hil)
    have e0 : w.cell? ⟨b1, o1 + d.length, none⟩ = some (.int .i64 ns[d.length]) := by have := hcell1 d.length ns[d.length] (List.getElem?_eq_getElem hil) 0 _ rfl; simpa using this
    have hq : ((d.length : Int) == (ns.length : Int)) = false := by rw [beq_eq_false_iff_ne]; omega
    obtain ⟨x, hxe⟩ : ∃ x, ns[d.length] = x := ⟨_, rfl⟩
    rw [hxe] at e0 hx
    have HD := hide (show packL L m (ns.drop d.length) u d = firstSome (fun lane => if u lane + x ≤ L then packL L m (ns.drop (d.length + 1)) (addAt u lane x) (d ++ [(lane : Int)]) else none) m by rw [List.drop_eq_getElem_cons hil, hxe, packL])
    have HLEN := hide hlen; have HUB := hide hu
    have hil' : (d.length : Int) < ns.length := by omega
    have hdl8 : d.length ≤ 8 := by omega
    obtain ⟨hx0, hx1⟩ := hx
    obtain ⟨i0, hi, hz0, hz1, hz2⟩ := info_parts int_info
    clear hcell1 h1 h4 hod hlen hu hxe
    go_enter Try.func55, Try.ntmps55
    go_wp2
    go_loopw [28] (fun s wr => ∃ k : Nat, k ≤ m ∧ s = .int .i64 k ∧ Hid (firstSome (fun lane => if u lane + x ≤ L then packL L m (ns.drop (d.length + 1)) (addAt u lane x) (d ++ [(lane : Int)]) else none) k = none) ∧ wr.cell? ⟨w.heap.size, 0, none⟩ = some (.int .i64 (L)) ∧ wr.cell? ⟨w.heap.size, 1, none⟩ = some (.int .i64 (m)) ∧ wr.cell? ⟨w.heap.size, 2, none⟩ = some (.int .i64 (M)) ∧ wr.cell? ⟨w.heap.size + 1, 0, none⟩ = some (.int .i64 (u 0)) ∧ wr.cell? ⟨w.heap.size + 1, 1, none⟩ = some (.int .i64 (u 1)) ∧ wr.cell? ⟨w.heap.size + 1, 2, none⟩ = some (.int .i64 (u 2)) ∧ w.heap.size + 1 < wr.heap.size ∧ Below w.heap.size w wr) (fun s _ => m - (intOf s).toNat)
    case atStart => exact ⟨0, Nat.zero_le _, rfl, hide rfl, by simp [go_sem], by simp [go_sem], by simp [go_sem], by simp [go_sem], by simp [go_sem], by simp [go_sem], by simp, (by repeat (first | exact Below.refl _ _ | assumption | refine Below.setCell ?_ (by first | omega | (simp <;> omega)) _ | refine Below.alloc ?_ (by first | omega | (simp <;> omega)) _ | refine below_drewN ?_ _ | refine Below.drew ?_ | refine Below.trans ?_ (Below.mono (by assumption) (by first | omega | (simp <;> omega)))))⟩
    case round =>
      obtain ⟨k, hk, rfl, HN, z0, z1, z2, z3, z4, z5, hl1, hbk⟩ := hrel
      obtain ⟨wo, rfl⟩ : ∃ wo : World, wo = wr := ⟨_, rfl⟩
      have hbs := hbk.size
      by_cases hlt : k < m
      · have hk3 : k = 0 ∨ k = 1 ∨ k = 2 := by omega
        have f1 : wo.cell? ⟨w.heap.size + 1, k, none⟩ = some (.int .i64 (u k)) := by rcases hk3 with rfl | rfl | rfl <;> assumption
        have hu0 := (HUB.out k (by omega)).1; have hu1 := (HUB.out k (by omega)).2
        have hlt' : (k : Int) < m := by omega
        have hk3' : (k : Int) < 3 := by omega
        clear e0
        by_cases hfit : u k + x ≤ L
        · have hdec : decide (L < u k + x) = false := by simp; omega
          go_wp2
          go_quiet (fail)
          have hbW : Below wo.heap.size wo (wo.drewN nq) := below_drewN (Below.refl _ _) _
          have hsW := hbW.size
          have y0 := cellKeep hbW z0 (by omega)
          have y1 := cellKeep hbW z1 (by omega)
          have y2 := cellKeep hbW z2 (by omega)
          have y3 := cellKeep hbW z3 (by omega)
          have y4 := cellKeep hbW z4 (by omega)
          have y5 := cellKeep hbW z5 (by omega)
          have hidx : [Value.int .i64 (u 0), Value.int .i64 (u 1), Value.int .i64 (u 2)][k]? = some (.int .i64 (u k)) := by rcases hk3 with rfl | rfl | rfl <;> rfl
          generalize wo.drewN nq = W0 at *
          clear z0 z1 z2 z3 z4 z5 f1
          go_wp2
          have hB1 : Below W0.heap.size W0 (W0.alloc (.cells ([Value.int .i64 (u 0), Value.int .i64 (u 1), Value.int .i64 (u 2)].set k (.int .i64 (u k + x))).toArray 73)) := (Below.refl _ _).alloc (Nat.le_refl _) _
          have x0 := cellKeep hB1 y0 (by omega)
          have x1 := cellKeep hB1 y1 (by omega)
          have x2 := cellKeep hB1 y2 (by omega)
          have x3 := cellKeep hB1 y3 (by omega)
          have x4 := cellKeep hB1 y4 (by omega)
          have x5 := cellKeep hB1 y5 (by omega)
          have t0 : (W0.alloc (.cells ([Value.int .i64 (u 0), Value.int .i64 (u 1), Value.int .i64 (u 2)].set k (.int .i64 (u k + x))).toArray 73)).cell? ⟨W0.heap.size, 0, none⟩ = some (.int .i64 (addAt u k x 0)) := by rcases hk3 with rfl | rfl | rfl <;> simp [go_sem, addAt]
          have t1 : (W0.alloc (.cells ([Value.int .i64 (u 0), Value.int .i64 (u 1), Value.int .i64 (u 2)].set k (.int .i64 (u k + x))).toArray 73)).cell? ⟨W0.heap.size, 1, none⟩ = some (.int .i64 (addAt u k x 1)) := by rcases hk3 with rfl | rfl | rfl <;> simp [go_sem, addAt]
          have t2 : (W0.alloc (.cells ([Value.int .i64 (u 0), Value.int .i64 (u 1), Value.int .i64 (u 2)].set k (.int .i64 (u k + x))).toArray 73)).cell? ⟨W0.heap.size, 2, none⟩ = some (.int .i64 (addAt u k x 2)) := by rcases hk3 with rfl | rfl | rfl <;> simp [go_sem, addAt]
          have hl3 : W0.heap.size < (W0.alloc (.cells ([Value.int .i64 (u 0), Value.int .i64 (u 1), Value.int .i64 (u 2)].set k (.int .i64 (u k + x))).toArray 73)).heap.size := by simp
          generalize W0.alloc (.cells ([Value.int .i64 (u 0), Value.int .i64 (u 1), Value.int .i64 (u 2)].set k (.int .i64 (u k + x))).toArray 73) = W1 at x0 x1 x2 x3 x4 x5 t0 t1 t2 hB1 hl3 ⊢
          have hbw := hbk.trans ((hbW.mono hbs).trans (hB1.mono (Nat.le_trans hbs hsW)))
          have hl2 : w.heap.size < W1.heap.size := by omega
          have hlw : w.heap.size ≤ W1.heap.size := by omega
          have hlo2 : lo ≤ W1.heap.size := by omega
          have hnd : d.length ≤ 1048576 := by omega
          have keepS : ∀ w', Below W1.heap.size W1 w' → w'.cell? ⟨w.heap.size, 0, none⟩ = some (.int .i64 (L)) ∧ w'.cell? ⟨w.heap.size, 1, none⟩ = some (.int .i64 (m)) ∧ w'.cell? ⟨w.heap.size, 2, none⟩ = some (.int .i64 (M)) ∧ w'.cell? ⟨W0.heap.size, 0, none⟩ = some (.int .i64 (addAt u k x 0)) ∧ w'.cell? ⟨W0.heap.size, 1, none⟩ = some (.int .i64 (addAt u k x 1)) ∧ w'.cell? ⟨W0.heap.size, 2, none⟩ = some (.int .i64 (addAt u k x 2)) ∧ Below W1.heap.size W1 w' := fun w' hB => ⟨cellKeep hB x0 hl2, cellKeep hB x1 hl2, cellKeep hB x2 hl2, cellKeep hB t0 hl3, cellKeep hB t1 hl3, cellKeep hB t2 hl3, hB⟩
          have HR2 := hide ((HR1.out.keep hbw (Nat.le_refl _)).mono hlw)
          have HRD2 := hide ((HRD.out.keep hbw (Nat.le_refl _)).mono hlw)
          have UB2 := hide (show ∀ j, j < 3 → 0 ≤ addAt u k x j ∧ addAt u k x j ≤ L from fun j hj => by have h1 := HUB.out j hj; unfold addAt; split; exact ⟨by omega, by omega⟩; exact h1)
          clear y0 y1 y2 y3 y4 y5 hidx
          go_region_held3 (fun w' => w'.cell? ⟨w.heap.size, 0, none⟩ = some (.int .i64 (L)) ∧ w'.cell? ⟨w.heap.size, 1, none⟩ = some (.int .i64 (m)) ∧ w'.cell? ⟨w.heap.size, 2, none⟩ = some (.int .i64 (M)) ∧ w'.cell? ⟨W0.heap.size, 0, none⟩ = some (.int .i64 (addAt u k x 0)) ∧ w'.cell? ⟨W0.heap.size, 1, none⟩ = some (.int .i64 (addAt u k x 1)) ∧ w'.cell? ⟨W0.heap.size, 2, none⟩ = some (.int .i64 (addAt u k x 2)) ∧ Below W1.heap.size W1 w')
            (first
              | exact keepS _ (Below.drew (Below.refl _ _))
              | exact keepS _ hB11
              | exact keepS _ hB10
              | exact keepS _ hB7
              | (obtain ⟨_, _, _, _, _, _, qB⟩ := (by with_reducible assumption : _ ∧ _); exact keepS _ (qB.alloc qB.size _)))
            (first
              | (go_at_call 61; obtain ⟨_, _, _, _, _, _, qB⟩ := (by with_reducible assumption : _ ∧ _); with_reducible refine (cloneInt_any _ d _ ((HRD2.out.keep qB (Nat.le_refl _)).mono qB.size) hnd).mono ?_; rintro e w7 ⟨u7, rfl, hown7, hb7⟩; have hB7 := bnext qB hb7 (Nat.le_refl _))
              | (go_at_call 55; obtain ⟨_, _, _, _, _, _, qB⟩ := (by with_reducible assumption : _ ∧ _); with_reducible refine (ih (d ++ [(k : Int)]) (addAt u k x) _ lo _ ((HR2.out.keep qB (Nat.le_refl _)).mono qB.size) (by first | with_reducible exact hown10.mono hlo2 | exact (hown10.below (by repeat (first | exact Below.refl _ _ | assumption | refine Below.setCell ?_ (by first | omega | (simp <;> omega)) _ | refine Below.alloc ?_ (by first | omega | (simp <;> omega)) _ | refine below_drewN ?_ _ | refine Below.drew ?_ | refine Below.trans ?_ (Below.mono (by assumption) (by first | omega | (simp <;> omega)))))).mono hlo2) (Nat.le_trans hlo2 qB.size) (by have := HLEN.out; simp; omega) UB2.out).mono ?_; rintro e w11 ⟨v11, rfl, hres, hb11⟩; have hB11 := bnext qB hb11 (Nat.le_refl _))
              | (obtain ⟨_, _, _, _, _, _, qB⟩ := (by with_reducible assumption : _ ∧ _); refine step_append_rd _ encI_len encI_one (by rfl) _ _ 24 (by rfl) W1.heap.size 3 i0 (.int .i64 0) 8 Try.underlying24 hi hz0 hz1 hz2 rfl (by decide) u7 d (by rfl) (by first | exact hown7.mono (by first | exact Nat.le_refl _ | (simp; done) | (simp <;> omega)) | exact (hown7.below (by repeat (first | exact Below.refl _ _ | assumption | refine Below.setCell ?_ (by first | omega | (simp <;> omega)) _ | refine Below.alloc ?_ (by first | omega | (simp <;> omega)) _ | refine below_drewN ?_ _ | refine Below.drew ?_ | refine Below.trans ?_ (Below.mono (by assumption) (by first | omega | (simp <;> omega)))))).mono (by first | exact Nat.le_refl _ | (simp; done) | (simp <;> omega))) _ (.slice (some ⟨_, 0, none⟩) 1 1) [(k : Int)] (by rfl) (by first | with_reducible exact rdI9a w7 3 (k : Int) | exact Rd.below (Rd.below (rdI9a W1 3 (k : Int)) (Below.drew (Below.refl _ _))) hb7 | exact Rd.below (rdI9a W1 3 (k : Int)) hb7) (by unfold maxLen; simp; omega) (by simp; omega) qB.size ?_; intro v10 w10 hown10 hgrow10 hblk10; have hB10 := qB.trans (Own.belowGrown (B := W1.heap.size) (by first | exact hown7.mono (by first | exact Nat.le_refl _ | (simp; done) | (simp <;> omega)) | exact (hown7.below (by repeat (first | exact Below.refl _ _ | assumption | refine Below.setCell ?_ (by first | omega | (simp <;> omega)) _ | refine Below.alloc ?_ (by first | omega | (simp <;> omega)) _ | refine below_drewN ?_ _ | refine Below.drew ?_ | refine Below.trans ?_ (Below.mono (by assumption) (by first | omega | (simp <;> omega)))))).mono (by first | exact Nat.le_refl _ | (simp; done) | (simp <;> omega))) hgrow10 (Nat.le_refl _) qB.size)))
          all_goals
            have hsB := hB11.size
            have hend := hbw.trans (hB11.mono hlw)
            have hlen1 : (d ++ [(k : Int)]).length = d.length + 1 := by simp
            rw [hlen1] at hres
            clear hlen1
            have HRES := hide hres; clear hres
            go_wp2_with fail
            · have hq2 : (packL L m (ns.drop (d.length + 1)) (addAt u k x) (d ++ [(k : Int)])).isSome = true := by assumption
              obtain ⟨ys, hys⟩ := Option.isSome_iff_exists.1 hq2
              have hA := HD.out.trans (firstSome_hit HN.out (by rw [if_pos hfit]; exact hys) hlt)
              have HA := hide hA; have HY := hide hys; clear hA hys
              go_ret2
              exact ⟨_, by rw [HA.out]; rfl, ⟨(fun zs hz => by rw [HA.out] at hz; have := Option.some.inj hz; subst this; exact HRES.out.1 _ HY.out), (fun hn => by rw [HA.out] at hn; cases hn)⟩, hend⟩
            · have hq2 : (packL L m (ns.drop (d.length + 1)) (addAt u k x) (d ++ [(k : Int)])).isSome = false := by assumption
              have HR := hide (show packL L m (ns.drop (d.length + 1)) (addAt u k x) (d ++ [(k : Int)]) = none by simpa using hq2)
              clear hq2
              go_roundw
              case rel => exact ⟨k + 1, by omega, by go_num, hide (firstSome_step HN.out (by rw [if_pos hfit]; exact HR.out)), cellKeep hB11 x0 hl2, cellKeep hB11 x1 hl2, cellKeep hB11 x2 hl2, cellKeep hB11 x3 (by omega), cellKeep hB11 x4 (by omega), cellKeep hB11 x5 (by omega), by omega, hend⟩
              case measure => simp [intOf]; omega
        · have hdec : decide (L < u k + x) = true := by simp; omega
          have HG := hide hfit
          clear hfit
          go_wp2
          go_quiet (fail)
          go_wp2
          go_roundw
          case rel => exact ⟨k + 1, by omega, by go_num, hide (firstSome_step HN.out (by rw [if_neg (by have := HG.out; omega)])), by simpa [go_sem] using z0, by simpa [go_sem] using z1, by simpa [go_sem] using z2, by simpa [go_sem] using z3, by simpa [go_sem] using z4, by simpa [go_sem] using z5, by simpa using hl1, (by repeat (first | exact Below.refl _ _ | assumption | refine Below.setCell ?_ (by first | omega | (simp <;> omega)) _ | refine Below.alloc ?_ (by first | omega | (simp <;> omega)) _ | refine below_drewN ?_ _ | refine Below.drew ?_ | refine Below.trans ?_ (Below.mono (by assumption) (by first | omega | (simp <;> omega)))))⟩
          case measure => simp [intOf]; omega
      · obtain rfl : k = m := by omega
        go_wp2
        go_ret2
        exact ⟨_, by rw [HD.out, HN.out]; rfl, ⟨(fun ys hy => by rw [HD.out, HN.out] at hy; cases hy), fun _ => rfl⟩, hbk⟩
end Go.Proofs.Ytjmffhpfmfmnlaa
