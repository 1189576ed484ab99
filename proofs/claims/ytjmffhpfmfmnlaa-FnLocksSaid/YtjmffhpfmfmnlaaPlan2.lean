/- Whether a plan of lockings is valid: both texts. No condition. -/
import Derived.Test.YtjmffhpfmfmnlaaPlan
namespace Go.Proofs.Ytjmffhpfmfmnlaa
open Go.RowKit
set_option linter.unusedVariables false
def upSame (a b : Bool) : Bool := a == b
def planRow (x0 x2 : Int) (m : Nat) (fl : List ShipD) (ds : List LockD) (i : Nat) : Bool :=
  inB (ds.getD i default).start 0 2880 && (decide (i = 0) || (!decide ((ds.getD i default).start < (ds.getD (i - 1) default).start + x2) && !upSame (ds.getD i default).up (ds.getD (i - 1) default).up)) && shipsFitB x0 m fl (ds.getD i default).ships
def lockPlanOk (x0 x1 x2 : Int) (fl : List ShipD) (ds : List LockD) : Bool := chOk x0 x1 x2 && fleetOk fl && decide ((ds.length : Int) ≤ 12) && allUpTo (planRow x0 x2 x1.toNat fl ds) ds.length
theorem planRow_start {x0 x2 : Int} {m : Nat} {fl : List ShipD} {ds : List LockD} {k j : Nat} (h : allUpTo (planRow x0 x2 m fl ds) k = true) (hj : j < k) : 0 ≤ (ds.getD j default).start ∧ (ds.getD j default).start ≤ 2880 := by
  have := allUpTo_iff.1 h j hj
  unfold planRow at this
  simp only [Bool.and_eq_true, inB, decide_eq_true_eq] at this
  exact this.1.1
theorem packShips_can {x0 x2 : Int} {m : Nat} {fl : List ShipD} {xs : List Int} (hc : chOk x0 m x2 = true) (hfl : ∀ x ∈ fl, 1 ≤ x.length ∧ x.length ≤ 400) (h : shipsOkB fl.length xs = true) (h8 : (xs.length : Int) ≤ 8) : (packShips x0 m x2 (lensOf fl xs)).isSome = canPack x0 m (lensOf fl xs) :=
  packShips_some hc (lengthsOk_mk (by rw [lensOf_len]; omega) (lensOf_ok hfl h))
set_option maxRecDepth 100000 in
set_option maxHeartbeats 16000000 in
theorem spec_LockPlanOk_any (x0 x1 x2 : Int) (v1 v2 : Value) (fl : List ShipD) (rs : List LockR) (w : World) (h1 : RdShip w v1 fl) (h2 : RdLk w w.heap.size v2 rs) (hokf : ∀ x ∈ fl, x.ok) (hnx : ∀ r ∈ rs, r.ships.length ≤ 1048576) :
    Calls Try.prog 33 #[.agg #[.int .i64 x0, .int .i64 x1, .int .i64 x2], v1, v2] w fun e w' => e = .returned (.bool (lockPlanOk x0 x1 x2 fl (rs.map LockR.d))) ∧ Below w.heap.size w w' := by
  have HR1 := hide h1
  obtain ⟨A1, c1, rfl, hc1, hm1, h1⟩ := h1
  obtain ⟨h2, hsh⟩ := h2
  obtain ⟨A2, c2, rfl, hc2, hm2, h2⟩ := h2
  unfold maxLen at hm1 hm2
  clear h1
  have H2 := hide h2; clear h2
  have HSH := hide hsh; clear hsh
  have HNR := hide hnx; clear hnx
  rcases ch3 (chOk x0 x1 x2) (fleetOk fl) (decide ((rs.length : Int) ≤ 12)) with ⟨g1, g2, g3⟩ | g1 | ⟨g1, g2⟩ | ⟨g1, g2, g3⟩
  · obtain ⟨hL0, hL1, hM0, hM1, hT0, hT1⟩ := chOk_of g1
    obtain ⟨m, rfl⟩ : ∃ m : Nat, x1 = m := ⟨x1.toNat, by omega⟩
    have hm0 : 1 ≤ m := by omega
    have hm1' : m ≤ 3 := by omega
    have HCH := hide g1
    have HFL := hide (fleet_len g2).2
    have l12 : (rs.length : Int) ≤ 12 := by simpa using g3
    have HV := hide (show lockPlanOk x0 m x2 fl (rs.map LockR.d) = allUpTo (planRow x0 x2 m fl (rs.map LockR.d)) rs.length by unfold lockPlanOk; rw [g1, g2, List.length_map, g3, Int.toNat_natCast]; rfl)
    clear g3
    go_enter Try.func33, Try.ntmps33
    go_wp2_with (first
      | (go_at_call 50; with_reducible refine (spec_ChamberOk_any _ _ _ _).mono ?_; rintro e w1 ⟨rfl, hb'⟩; (first | have hb := bnext hb hb' | have hb := bnextA hb hb' | have hb := hb'); clear hb'; obtain ⟨hc, hf⟩ := bcell hb; have hz := hb.size; (try simp at hz))
      | (go_at_call 69; with_reducible refine (spec_FleetOk_any _ fl _ ((RdB.keep HR1.out (B' := w.heap.size) (by repeat (first | exact Below.refl _ _ | assumption | refine Below.setCell ?_ (by first | omega | (simp <;> omega)) _ | refine Below.alloc ?_ (by first | omega | (simp <;> omega)) _ | refine below_drewN ?_ _ | refine Below.drew ?_ | refine Below.trans ?_ (Below.mono (by assumption) (by first | omega | (simp <;> omega))))) (Nat.le_refl _)).mono (by first | omega | (simp <;> omega))) hokf).mono ?_; rintro e w1 ⟨rfl, hb'⟩; (first | have hb := bnext hb hb' | have hb := bnextA hb hb' | have hb := hb'); clear hb'; obtain ⟨hc, hf⟩ := bcell hb; have hz := hb.size; (try simp at hz)))
    have z0 : w1.cell? ⟨w.heap.size, 0, none⟩ = some (.int .i64 x0) := by rw [hc _ _ (by simp)]; simp [go_sem]
    have z1 : w1.cell? ⟨w.heap.size, 1, none⟩ = some (.int .i64 m) := by rw [hc _ _ (by simp)]; simp [go_sem]
    have z2 : w1.cell? ⟨w.heap.size, 2, none⟩ = some (.int .i64 x2) := by rw [hc _ _ (by simp)]; simp [go_sem]
    have hbw1 : Below w.heap.size w w1 := (by repeat (first | exact Below.refl _ _ | assumption | refine Below.setCell ?_ (by first | omega | (simp <;> omega)) _ | refine Below.alloc ?_ (by first | omega | (simp <;> omega)) _ | refine below_drewN ?_ _ | refine Below.drew ?_ | refine Below.trans ?_ (Below.mono (by assumption) (by first | omega | (simp <;> omega)))))
    have hs1 : w.heap.size < w1.heap.size := by have := hb.size; simp at this; omega
    have Z := hide (show BoxK w1 w.heap.size x0 m x2 from ⟨z0, z1, z2⟩)
    clear hc hf hz hb z0 z1 z2 g1 g2
    go_loopw [28] (fun s wr => ∃ k : Nat, k ≤ rs.length ∧ s = .int .i64 k ∧ Hid (allUpTo (planRow x0 x2 m fl (rs.map LockR.d)) k = true) ∧ Hid (BoxK wr w.heap.size x0 m x2) ∧ w.heap.size < wr.heap.size ∧ Below w.heap.size w wr) (fun s _ => rs.length - (intOf s).toNat)
    case atStart => exact ⟨0, Nat.zero_le _, rfl, hide rfl, Z, hs1, hbw1⟩
    case round =>
      clear hbw1 hs1 Z
      obtain ⟨k, hk, rfl, HN, HZ, hgl, hbk⟩ := hrel
      obtain ⟨wo, rfl⟩ : ∃ wo : World, wo = wr := ⟨_, rfl⟩
      have hbs := hbk.size
      by_cases hlt : k < rs.length
      · obtain ⟨b2, o2, rfl, hb2, hcell2⟩ := H2.out (by omega)
        have e0 : wo.cell? ⟨b2, o2 + k * 3, none⟩ = some (.int .i64 rs[k].start) := by
          rw [hbk.cell (p := ⟨b2, _, none⟩) hb2]; have := hcell2 k rs[k] (List.getElem?_eq_getElem hlt) 0 _ rfl; simpa using this
        have e1 : wo.cell? ⟨b2, o2 + k * 3 + 1, none⟩ = some (.bool rs[k].up) := by
          rw [hbk.cell (p := ⟨b2, _, none⟩) hb2]; have := hcell2 k rs[k] (List.getElem?_eq_getElem hlt) 1 _ rfl; simpa using this
        have e2 : wo.cell? ⟨b2, o2 + k * 3 + 2, none⟩ = some (rs[k].v) := by
          rw [hbk.cell (p := ⟨b2, _, none⟩) hb2]; have := hcell2 k rs[k] (List.getElem?_eq_getElem hlt) 2 _ rfl; simpa using this
        have HS := hide (HSH.out rs[k] (List.getElem_mem hlt))
        have HNX := hide (HNR.out rs[k] (List.getElem_mem hlt))
        have HD := hide (lkd_at hlt)
        have HBAD := hide (show planRow x0 x2 m fl (rs.map LockR.d) k = false → lockPlanOk x0 m x2 fl (rs.map LockR.d) = false from fun h => by rw [HV.out]; exact allUpTo_bad hlt h)
        have hlt' : (k : Int) < rs.length := by omega
        obtain ⟨r, hr⟩ : ∃ r, rs[k] = r := ⟨_, rfl⟩
        rw [hr] at e0 e1 e2 HS HNX HD
        clear hr
        obtain ⟨sK, uK, vK, xs⟩ := r
        simp only at e0 e1 e2 HS HNX
        obtain ⟨A4, c4, rfl, hc4, hm4, -⟩ := HS.out
        unfold maxLen at hm4
        have hpre : ∀ j (hj : j < rs.length), wo.cell? ⟨b2, o2 + j * 3, none⟩ = some (.int .i64 rs[j].start) ∧ wo.cell? ⟨b2, o2 + j * 3 + 1, none⟩ = some (.bool rs[j].up) := fun j hj =>
          ⟨by rw [hbk.cell (p := ⟨b2, _, none⟩) hb2]; have := hcell2 j rs[j] (List.getElem?_eq_getElem hj) 0 _ rfl; simpa using this, by rw [hbk.cell (p := ⟨b2, _, none⟩) hb2]; have := hcell2 j rs[j] (List.getElem?_eq_getElem hj) 1 _ rfl; simpa using this⟩
        have HPRE := hide hpre; clear hpre hcell2
        go_wp2_with fail
        generalize hW0 : (wo.alloc (.cells #[.int .i64 sK, .bool uK, .slice A4 xs.length c4] 68)) = W0
        have hB0 : Below wo.heap.size wo W0 := by rw [← hW0]; exact (by repeat (first | exact Below.refl _ _ | assumption | refine Below.setCell ?_ (by first | omega | (simp <;> omega)) _ | refine Below.alloc ?_ (by first | omega | (simp <;> omega)) _ | refine below_drewN ?_ _ | refine Below.drew ?_ | refine Below.trans ?_ (Below.mono (by assumption) (by first | omega | (simp <;> omega)))))
        have hl0 : wo.heap.size < W0.heap.size := by rw [← hW0]; simp
        have hx0 : W0.cell? ⟨wo.heap.size, 0, none⟩ = some (.int .i64 sK) := by rw [← hW0]; simp [go_sem]
        have hx1 : W0.cell? ⟨wo.heap.size, 1, none⟩ = some (.bool uK) := by rw [← hW0]; simp [go_sem]
        have hx2 : W0.cell? ⟨wo.heap.size, 2, none⟩ = some (.slice A4 xs.length c4) := by rw [← hW0]; simp [go_sem]
        clear hW0 e0 e1 e2
        have hbw := bnext hbk hB0 (Nat.le_refl _)
        have HZW := hide (HZ.out.keep hB0 hgl)
        have hzw : w.heap.size < W0.heap.size := Nat.lt_trans hgl hl0
        have hzw2 := HZW.out
        obtain ⟨y0, y1, y2⟩ := hzw2
        have hb2' : b2 < W0.heap.size := by omega
        rcases ch1 (inB sK 0 2880) with gi | gi
        · have HI := hide gi
          have hsk : 0 ≤ sK ∧ sK ≤ 2880 := by simp [inB] at gi; omega
          obtain ⟨hsk0, hsk1⟩ := hsk
          clear gi
          rcases Nat.eq_zero_or_pos k with hk0 | hk0
          · subst hk0
            have HRW := hide (show planRow x0 x2 m fl (rs.map LockR.d) 0 = (true && shipsFitB x0 m fl xs) by unfold planRow; rw [HD.out]; show (inB sK 0 2880 && _ && _) = _; rw [HI.out]; rfl)
            have HP := hide (rfl : true = true)
            refine wp_region_below (Below.refl W0.heap.size _) (by kernel_rfl) (by kernel_rfl) ?_
            repeat (first
              | go_big_quiet_skip
              | (go_big_quiet_want
                 first
                  | (refine quiet_value ?_; apply Exists.intro
                     refine ⟨fun wq hq => ?_, ?_⟩
                     · (obtain ⟨hc, hf⟩ := bcell hq; go_simp; first | done | rfl)
                     go_big_quiet_on
                     simp only [Act.put, List.setIfInBounds_toArray, List.set_cons_zero, List.set_cons_succ])
                  | (refine quiet_call ?_; apply Exists.intro; apply Exists.intro; apply Exists.intro
                     refine ⟨fun wq hq => ?_, fun wq hq => ?_, ?_⟩
                     · (obtain ⟨hc, hf⟩ := bcell hq; go_simp; exact ⟨rfl, rfl⟩)
                     · (first | with_reducible exact (calls_bool (l01In_any sK 0 2880 _) HI.out).mono fun e w'' ⟨he, hw⟩ => ⟨he, hw ▸ hq⟩ | with_reducible exact (calls_bool (l01In_any sK 0 2880 _) HI.out).mono fun e w'' ⟨he, hb'⟩ => ⟨he, bnext hq hb'⟩ |  exact (calls_bool (l01In_any sK 0 2880 _) HI.out).mono fun e w'' ⟨he, hb'⟩ => ⟨he, bnext hq hb'⟩ |  exact (calls_bool (l01In_any sK 0 2880 _) HI.out).mono fun e w'' ⟨he, hw⟩ => ⟨he, hw ▸ hq⟩)
                     go_big_quiet_on
                     simp only [Act.put, List.setIfInBounds_toArray, List.set_cons_zero, List.set_cons_succ])
                  | (go_big_quiet_op; go_big_quiet_on)
                 ))
            refine wpQuiet_nil (fun wq hbq => ?_)
            have hbk0 := bnext hbw hbq (Nat.le_refl _)
            have hsq := hbq.size
            have p0 := cellKeep hbq hx0 hl0; have p1 := cellKeep hbq hx1 hl0; have p2 := cellKeep hbq hx2 hl0
            have hl1 : wo.heap.size < wq.heap.size := Nat.lt_of_lt_of_le hl0 hsq
            have ZQ := hide (HZW.out.keep hbq hzw)
            have ZQ' := ZQ.out
            obtain ⟨q0, q1, q2⟩ := ZQ'
            have hzq : w.heap.size < wq.heap.size := Nat.lt_of_lt_of_le hzw hsq
            have HRF := hide ((RdB.keep HR1.out hbk0 (Nat.le_refl _)).mono hbk0.size)
            have HRS := hide ((RdB.keep HS.out hbk0 (Nat.le_refl _)).mono hbk0.size)
            clear hx0 hx1 hx2
            have hz5 := hl1
            rcases ch1 (lensOkB fl.length xs) with gl | gl
            · have HOK := hide gl
              have hok2 := gl
              unfold lensOkB at hok2
              rw [Bool.and_eq_true] at hok2
              have HL8 := hide (show (xs.length : Int) ≤ 8 by simpa using hok2.2)
              have HSK := hide hok2.1
              have HPS := hide (packShips_can HCH.out HFL.out HSK.out HL8.out)
              clear hok2
              rcases ch1 (canPack x0 m (lensOf fl xs)) with gc | gc
              all_goals
                have HC := hide gc
                have HPC := hide (HPS.out.trans gc)
                have HFT := hide (show shipsFitB x0 m fl xs = canPack x0 m (lensOf fl xs) by unfold shipsFitB; rw [decide_eq_true HL8.out, HSK.out]; rfl)
                clear gc
                go_wp2_with (first
                  | (go_at_call 70; refine (l11Lengths_any _ _ fl xs _ HRF.out HRS.out HNX.out).mono ?_; rintro e w5 ⟨v5, rfl, ho5, hb5⟩; have HO5 := hide (ho5 HSK.out); clear ho5; have hs5 := hb5.size; obtain ⟨u0, u1, u2⟩ := ZQ.out.keep hb5 hzq; have hz6 : w.heap.size < w5.heap.size := Nat.lt_of_lt_of_le hzq hs5)
                  | (go_at_call 17; with_reducible refine (spec_PackShips_any x0 m x2 _ (lensOf fl xs) _ (Own.rd encI_len HO5.out)).mono ?_; rintro e w6 ⟨v6, rfl, ho6, hb6⟩; rw [HPC.out]; have HO6 := hide ho6; clear ho6))
                first
                  | (go_ret; exact ⟨by rw [HBAD.out (by rw [HRW.out, HFT.out, HC.out]; simp)]; first | done | rfl, bnext (bnext hbk0 hb5 (Nat.le_refl _)) hb6 (Nat.le_refl _)⟩)
                  | (have HG := hide (show planRow x0 x2 m fl (rs.map LockR.d) 0 = true by rw [HRW.out, HFT.out, HC.out]; rfl)
                     go_roundw
                     case rel => exact ⟨0 + 1, by omega, by go_num, hide (allUpTo_succ HN.out HG.out), hide ((ZQ.out.keep hb5 hzq).keep hb6 hz6), Nat.lt_of_lt_of_le hz6 hb6.size, bnext (bnext hbk0 hb5 (Nat.le_refl _)) hb6 (Nat.le_refl _)⟩
                     case measure => simp [intOf]; omega)
            · have HFT := hide (show shipsFitB x0 m fl xs = false by unfold shipsFitB; rw [Bool.and_comm (decide _)]; unfold lensOkB at gl; rw [gl]; rfl)
              go_wp2_with (go_at_call 70; refine (l11Lengths_any _ _ fl xs _ HRF.out HRS.out HNX.out).mono ?_; rintro e w5 ⟨v5, rfl, ho5, hb5⟩; have HO5 := hide ho5; clear ho5)
              go_ret
              exact ⟨by rw [HBAD.out (by rw [HRW.out, HFT.out]; simp)]; first | done | rfl, bnext hbk0 hb5 (Nat.le_refl _)⟩
          · obtain ⟨j, hj⟩ : ∃ j, k = j + 1 := ⟨k - 1, by omega⟩
            have hjl : j < rs.length := by omega
            have hjl' : (j : Int) < rs.length := by omega
            have hj0 : (0 : Int) ≤ (j : Int) := by omega
            have hps := planRow_start HN.out (show j < k by omega)
            rw [lkd_at hjl] at hps
            obtain ⟨t0, t1⟩ := HPRE.out j hjl
            replace t0 := cellKeep hB0 t0 (by omega)
            replace t1 := cellKeep hB0 t1 (by omega)
            have HDJ := hide (lkd_at hjl)
            obtain ⟨r, hr⟩ : ∃ r, rs[j] = r := ⟨_, rfl⟩
            rw [hr] at t0 t1 hps HDJ
            clear hr
            obtain ⟨sJ, uJ, vJ, xJ⟩ := r
            simp only [LockR.d] at t0 t1 hps
            obtain ⟨hps0, hps1⟩ := hps
            have hjw : IntKind.i64.wrap ((k : Int) - 1) = (j : Int) := by rw [IntWalk.i64_in _ (by omega)]; omega
            have hje : (k : Int) - 1 = (j : Int) := by omega
            have hjp : (0 : Int) < (k : Int) := by omega
            have hjw2 : IntKind.i64.wrap (j : Int) = (j : Int) := IntWalk.i64_in _ (by omega)
            have hsw : IntKind.i64.wrap (sJ + x2) = sJ + x2 := IntWalk.i64_in _ (by omega)
            have HRW := hide (show planRow x0 x2 m fl (rs.map LockR.d) k = ((!decide (sK < sJ + x2) && !upSame uK uJ) && shipsFitB x0 m fl xs) by unfold planRow; rw [HD.out, show k - 1 = j by omega, HDJ.out, decide_eq_false (show ¬ k = 0 by omega)]; show (inB sK 0 2880 && _ && _) = _; rw [HI.out]; rfl)
            have HKJ := hide hj; clear hj
            rcases ch1 (decide (sK < sJ + x2)) with gd | gd
            · have HP := hide (show (!decide (sK < sJ + x2) && !upSame uK uJ) = false by rw [gd]; rfl)
              have hd : sK < sJ + x2 := by simpa using gd
              refine wp_region_below (Below.refl W0.heap.size _) (by kernel_rfl) (by kernel_rfl) ?_
              repeat (first
                | go_big_quiet_skip
                | (go_big_quiet_want
                   first
                    | (refine quiet_value ?_; apply Exists.intro
                       refine ⟨fun wq hq => ?_, ?_⟩
                       · (obtain ⟨hc, hf⟩ := bcell hq; go_simp; first | done | rfl)
                       go_big_quiet_on
                       simp only [Act.put, List.setIfInBounds_toArray, List.set_cons_zero, List.set_cons_succ])
                    | (refine quiet_call ?_; apply Exists.intro; apply Exists.intro; apply Exists.intro
                       refine ⟨fun wq hq => ?_, fun wq hq => ?_, ?_⟩
                       · (obtain ⟨hc, hf⟩ := bcell hq; go_simp; exact ⟨rfl, rfl⟩)
                       · (first | with_reducible exact (calls_bool (l01In_any sK 0 2880 _) HI.out).mono fun e w'' ⟨he, hw⟩ => ⟨he, hw ▸ hq⟩ | with_reducible exact (calls_bool (l01In_any sK 0 2880 _) HI.out).mono fun e w'' ⟨he, hb'⟩ => ⟨he, bnext hq hb'⟩ |  exact (calls_bool (l01In_any sK 0 2880 _) HI.out).mono fun e w'' ⟨he, hb'⟩ => ⟨he, bnext hq hb'⟩ |  exact (calls_bool (l01In_any sK 0 2880 _) HI.out).mono fun e w'' ⟨he, hw⟩ => ⟨he, hw ▸ hq⟩)
                       go_big_quiet_on
                       simp only [Act.put, List.setIfInBounds_toArray, List.set_cons_zero, List.set_cons_succ])
                    | (go_big_quiet_op; go_big_quiet_on)
                   ))
              refine wpQuiet_nil (fun wq hbq => ?_)
              go_wp2
              go_ret
              exact ⟨by rw [HBAD.out (by rw [HRW.out, HP.out]; rfl)]; first | done | rfl, bnext hbw hbq (Nat.le_refl _)⟩
            · have hd : ¬ sK < sJ + x2 := by simpa using gd
              rcases ch1 (uK == uJ) with gu | gu
              · have HP := hide (show (!decide (sK < sJ + x2) && !upSame uK uJ) = false by unfold upSame; rw [gu]; simp)
                refine wp_region_below (Below.refl W0.heap.size _) (by kernel_rfl) (by kernel_rfl) ?_
                repeat (first
                  | go_big_quiet_skip
                  | (go_big_quiet_want
                     first
                      | (refine quiet_value ?_; apply Exists.intro
                         refine ⟨fun wq hq => ?_, ?_⟩
                         · (obtain ⟨hc, hf⟩ := bcell hq; go_simp; first | done | rfl)
                         go_big_quiet_on
                         simp only [Act.put, List.setIfInBounds_toArray, List.set_cons_zero, List.set_cons_succ])
                      | (refine quiet_call ?_; apply Exists.intro; apply Exists.intro; apply Exists.intro
                         refine ⟨fun wq hq => ?_, fun wq hq => ?_, ?_⟩
                         · (obtain ⟨hc, hf⟩ := bcell hq; go_simp; exact ⟨rfl, rfl⟩)
                         · (first | with_reducible exact (calls_bool (l01In_any sK 0 2880 _) HI.out).mono fun e w'' ⟨he, hw⟩ => ⟨he, hw ▸ hq⟩ | with_reducible exact (calls_bool (l01In_any sK 0 2880 _) HI.out).mono fun e w'' ⟨he, hb'⟩ => ⟨he, bnext hq hb'⟩ |  exact (calls_bool (l01In_any sK 0 2880 _) HI.out).mono fun e w'' ⟨he, hb'⟩ => ⟨he, bnext hq hb'⟩ |  exact (calls_bool (l01In_any sK 0 2880 _) HI.out).mono fun e w'' ⟨he, hw⟩ => ⟨he, hw ▸ hq⟩)
                         go_big_quiet_on
                         simp only [Act.put, List.setIfInBounds_toArray, List.set_cons_zero, List.set_cons_succ])
                      | (go_big_quiet_op; go_big_quiet_on)
                     ))
                refine wpQuiet_nil (fun wq hbq => ?_)
                go_wp2
                go_ret
                exact ⟨by rw [HBAD.out (by rw [HRW.out, HP.out]; rfl)]; first | done | rfl, bnext hbw hbq (Nat.le_refl _)⟩
              · have HP := hide (show (!decide (sK < sJ + x2) && !upSame uK uJ) = true by unfold upSame; rw [gd, gu]; rfl)
                clear gd
                refine wp_region_below (Below.refl W0.heap.size _) (by kernel_rfl) (by kernel_rfl) ?_
                repeat (first
                  | go_big_quiet_skip
                  | (go_big_quiet_want
                     first
                      | (refine quiet_value ?_; apply Exists.intro
                         refine ⟨fun wq hq => ?_, ?_⟩
                         · (obtain ⟨hc, hf⟩ := bcell hq; go_simp; first | done | rfl)
                         go_big_quiet_on
                         simp only [Act.put, List.setIfInBounds_toArray, List.set_cons_zero, List.set_cons_succ])
                      | (refine quiet_call ?_; apply Exists.intro; apply Exists.intro; apply Exists.intro
                         refine ⟨fun wq hq => ?_, fun wq hq => ?_, ?_⟩
                         · (obtain ⟨hc, hf⟩ := bcell hq; go_simp; exact ⟨rfl, rfl⟩)
                         · (first | with_reducible exact (calls_bool (l01In_any sK 0 2880 _) HI.out).mono fun e w'' ⟨he, hw⟩ => ⟨he, hw ▸ hq⟩ | with_reducible exact (calls_bool (l01In_any sK 0 2880 _) HI.out).mono fun e w'' ⟨he, hb'⟩ => ⟨he, bnext hq hb'⟩ |  exact (calls_bool (l01In_any sK 0 2880 _) HI.out).mono fun e w'' ⟨he, hb'⟩ => ⟨he, bnext hq hb'⟩ |  exact (calls_bool (l01In_any sK 0 2880 _) HI.out).mono fun e w'' ⟨he, hw⟩ => ⟨he, hw ▸ hq⟩)
                         go_big_quiet_on
                         simp only [Act.put, List.setIfInBounds_toArray, List.set_cons_zero, List.set_cons_succ])
                      | (go_big_quiet_op; go_big_quiet_on)
                     ))
                refine wpQuiet_nil (fun wq hbq => ?_)
                have hbk0 := bnext hbw hbq (Nat.le_refl _)
                have hsq := hbq.size
                have p0 := cellKeep hbq hx0 hl0; have p1 := cellKeep hbq hx1 hl0; have p2 := cellKeep hbq hx2 hl0
                have hl1 : wo.heap.size < wq.heap.size := Nat.lt_of_lt_of_le hl0 hsq
                have ZQ := hide (HZW.out.keep hbq hzw)
                have ZQ' := ZQ.out
                obtain ⟨q0, q1, q2⟩ := ZQ'
                have hzq : w.heap.size < wq.heap.size := Nat.lt_of_lt_of_le hzw hsq
                have HRF := hide ((RdB.keep HR1.out hbk0 (Nat.le_refl _)).mono hbk0.size)
                have HRS := hide ((RdB.keep HS.out hbk0 (Nat.le_refl _)).mono hbk0.size)
                clear hx0 hx1 hx2
                have hz5 := hl1
                rcases ch1 (lensOkB fl.length xs) with gl | gl
                · have HOK := hide gl
                  have hok2 := gl
                  unfold lensOkB at hok2
                  rw [Bool.and_eq_true] at hok2
                  have HL8 := hide (show (xs.length : Int) ≤ 8 by simpa using hok2.2)
                  have HSK := hide hok2.1
                  have HPS := hide (packShips_can HCH.out HFL.out HSK.out HL8.out)
                  clear hok2
                  rcases ch1 (canPack x0 m (lensOf fl xs)) with gc | gc
                  all_goals
                    have HC := hide gc
                    have HPC := hide (HPS.out.trans gc)
                    have HFT := hide (show shipsFitB x0 m fl xs = canPack x0 m (lensOf fl xs) by unfold shipsFitB; rw [decide_eq_true HL8.out, HSK.out]; rfl)
                    clear gc
                    go_wp2_with (first
                      | (go_at_call 70; refine (l11Lengths_any _ _ fl xs _ HRF.out HRS.out HNX.out).mono ?_; rintro e w5 ⟨v5, rfl, ho5, hb5⟩; have HO5 := hide (ho5 HSK.out); clear ho5; have hs5 := hb5.size; obtain ⟨u0, u1, u2⟩ := ZQ.out.keep hb5 hzq; have hz6 : w.heap.size < w5.heap.size := Nat.lt_of_lt_of_le hzq hs5)
                      | (go_at_call 17; with_reducible refine (spec_PackShips_any x0 m x2 _ (lensOf fl xs) _ (Own.rd encI_len HO5.out)).mono ?_; rintro e w6 ⟨v6, rfl, ho6, hb6⟩; rw [HPC.out]; have HO6 := hide ho6; clear ho6))
                    first
                      | (go_ret; exact ⟨by rw [HBAD.out (by rw [HRW.out, HFT.out, HC.out]; simp)]; first | done | rfl, bnext (bnext hbk0 hb5 (Nat.le_refl _)) hb6 (Nat.le_refl _)⟩)
                      | (have HG := hide (show planRow x0 x2 m fl (rs.map LockR.d) k = true by rw [HRW.out, HP.out, HFT.out, HC.out]; rfl)
                         go_roundw
                         case rel => exact ⟨k + 1, by omega, by go_num, hide (allUpTo_succ HN.out HG.out), hide ((ZQ.out.keep hb5 hzq).keep hb6 hz6), Nat.lt_of_lt_of_le hz6 hb6.size, bnext (bnext hbk0 hb5 (Nat.le_refl _)) hb6 (Nat.le_refl _)⟩
                         case measure => simp [intOf]; omega)
                · have HFT := hide (show shipsFitB x0 m fl xs = false by unfold shipsFitB; rw [Bool.and_comm (decide _)]; unfold lensOkB at gl; rw [gl]; rfl)
                  go_wp2_with (go_at_call 70; refine (l11Lengths_any _ _ fl xs _ HRF.out HRS.out HNX.out).mono ?_; rintro e w5 ⟨v5, rfl, ho5, hb5⟩; have HO5 := hide ho5; clear ho5)
                  go_ret
                  exact ⟨by rw [HBAD.out (by rw [HRW.out, HFT.out]; simp)]; first | done | rfl, bnext hbk0 hb5 (Nat.le_refl _)⟩
        · have HI := hide gi
          have HRW := hide (show planRow x0 x2 m fl (rs.map LockR.d) k = false by unfold planRow; rw [HD.out]; show (inB sK 0 2880 && _ && _) = _; rw [HI.out]; rfl)
          clear gi
          refine wp_region_below (Below.refl W0.heap.size _) (by kernel_rfl) (by kernel_rfl) ?_
          repeat (first
            | go_big_quiet_skip
            | (go_big_quiet_want
               first
                | (refine quiet_value ?_; apply Exists.intro
                   refine ⟨fun wq hq => ?_, ?_⟩
                   · (obtain ⟨hc, hf⟩ := bcell hq; go_simp; first | done | rfl)
                   go_big_quiet_on
                   simp only [Act.put, List.setIfInBounds_toArray, List.set_cons_zero, List.set_cons_succ])
                | (refine quiet_call ?_; apply Exists.intro; apply Exists.intro; apply Exists.intro
                   refine ⟨fun wq hq => ?_, fun wq hq => ?_, ?_⟩
                   · (obtain ⟨hc, hf⟩ := bcell hq; go_simp; exact ⟨rfl, rfl⟩)
                   · (first | with_reducible exact (calls_bool (l01In_any sK 0 2880 _) HI.out).mono fun e w'' ⟨he, hw⟩ => ⟨he, hw ▸ hq⟩ | with_reducible exact (calls_bool (l01In_any sK 0 2880 _) HI.out).mono fun e w'' ⟨he, hb'⟩ => ⟨he, bnext hq hb'⟩ |  exact (calls_bool (l01In_any sK 0 2880 _) HI.out).mono fun e w'' ⟨he, hb'⟩ => ⟨he, bnext hq hb'⟩ |  exact (calls_bool (l01In_any sK 0 2880 _) HI.out).mono fun e w'' ⟨he, hw⟩ => ⟨he, hw ▸ hq⟩)
                   go_big_quiet_on
                   simp only [Act.put, List.setIfInBounds_toArray, List.set_cons_zero, List.set_cons_succ])
                | (go_big_quiet_op; go_big_quiet_on)
               ))
          refine wpQuiet_nil (fun wq hbq => ?_)
          go_wp2
          go_ret
          exact ⟨by rw [HBAD.out HRW.out]; first | done | rfl, bnext hbw hbq (Nat.le_refl _)⟩
      · obtain rfl : k = rs.length := by omega
        go_wp2
        go_ret
        exact ⟨by rw [HV.out, HN.out]; first | done | rfl, hbk⟩
  all_goals
    have HF := hide (show lockPlanOk x0 x1 x2 fl (rs.map LockR.d) = false by unfold lockPlanOk; rw [List.length_map]; simp [*])
    try (have l12 : (12 : Int) < (rs.length : Int) := by simp at g3; omega)
    try clear g3
    go_enter Try.func33, Try.ntmps33
    go_wp2_with (first
      | (go_at_call 50; with_reducible refine (spec_ChamberOk_any _ _ _ _).mono ?_; rintro e w1 ⟨rfl, hb'⟩; (first | have hb := bnext hb hb' | have hb := bnextA hb hb' | have hb := hb'); clear hb'; obtain ⟨hc, hf⟩ := bcell hb; have hz := hb.size; (try simp at hz))
      | (go_at_call 69; with_reducible refine (spec_FleetOk_any _ fl _ ((RdB.keep HR1.out (B' := w.heap.size) (by repeat (first | exact Below.refl _ _ | assumption | refine Below.setCell ?_ (by first | omega | (simp <;> omega)) _ | refine Below.alloc ?_ (by first | omega | (simp <;> omega)) _ | refine below_drewN ?_ _ | refine Below.drew ?_ | refine Below.trans ?_ (Below.mono (by assumption) (by first | omega | (simp <;> omega))))) (Nat.le_refl _)).mono (by first | omega | (simp <;> omega))) hokf).mono ?_; rintro e w1 ⟨rfl, hb'⟩; (first | have hb := bnext hb hb' | have hb := bnextA hb hb' | have hb := hb'); clear hb'; obtain ⟨hc, hf⟩ := bcell hb; have hz := hb.size; (try simp at hz)))
    go_ret
    exact ⟨by rw [HF.out]; first | done | rfl, (by repeat (first | exact Below.refl _ _ | assumption | refine Below.setCell ?_ (by first | omega | (simp <;> omega)) _ | refine Below.alloc ?_ (by first | omega | (simp <;> omega)) _ | refine below_drewN ?_ _ | refine Below.drew ?_ | refine Below.trans ?_ (Below.mono (by assumption) (by first | omega | (simp <;> omega)))))⟩
end Go.Proofs.Ytjmffhpfmfmnlaa
