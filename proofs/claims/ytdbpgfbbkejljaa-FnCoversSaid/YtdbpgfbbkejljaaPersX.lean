/- The least number of persons: the program's walk. No condition. -/
import Derived.Test.YtdbpgfbbkejljaaPersW
import Derived.Deep.DeepCutAuto
namespace Go.Proofs.Ytdbpgfbbkejljaa
open Go.RowKit
set_option linter.unusedVariables false
theorem mem_all {n i : Nat} : Mem (2 ^ n - 1) i ↔ i < n := by
  show (2 ^ n - 1).testBit i = true ↔ _
  rw [Nat.testBit_two_pow_sub_one]; simp
set_option maxRecDepth 100000 in
set_option maxHeartbeats 16000000 in
theorem leastPersons_any (p : Int) (ms : List Int) (xs : List DutyD) (v : Value) (w : World) (h12 : xs.length ≤ 12) (h1 : Rd w 1 encU v (rowL xs.length (partBits p ms xs))) :
    Calls Try.prog 50 #[v] w fun e w' => ∃ m : Nat, e = .returned (.int .i64 m) ∧ LeastP (bothD p ms xs) (fun i => i < xs.length) m ∧ Below w.heap.size w w' := by
  obtain ⟨A1, c1, rfl, hc1, hm1, h1⟩ := h1
  unfold maxLen at hm1
  rw [rowL_len] at hc1
  simp only [rowL_len] at h1 ⊢
  have H1 := hide h1; clear h1
  obtain ⟨i0, hi, hz0, hz1, hz2⟩ := info_parts int_info
  obtain ⟨j0, hj, hy0, hy1, hy2⟩ := info_parts bool_info
  have HSY := hide (bothD_symm p ms xs)
  obtain ⟨lf, hlf⟩ := least_fun (bothD p ms xs)
  obtain ⟨cl, hcl⟩ := clq_fun (bothD p ms xs)
  have HLF := hide hlf; have HCL := hide hcl
  have HL0 := hide (lf_zero hlf); have HC0 := hide (cl_zero hcl)
  have HLLE := hide (fun (s : Nat) (hs : s < 2 ^ xs.length) => lf_le hlf hs)
  have HEND := hide (show LeastP (bothD p ms xs) (fun i => i < xs.length) (lf (2 ^ xs.length - 1)) from (LeastP.iff fun i => mem_all).1 (hlf (2 ^ xs.length - 1)))
  clear hlf hcl
  have hNlt : 2 ^ xs.length ≤ 4096 := Nat.pow_le_pow_right (n := 2) (by omega) h12
  have hNw := wrap_i64 (2 ^ xs.length) (by omega)
  have hpos : 0 < 2 ^ xs.length := Nat.pow_pos (by omega)
  rw [← two_pow_cast] at hNw
  obtain ⟨N, hN⟩ : ∃ N, 2 ^ xs.length = N := ⟨_, rfl⟩
  have f1 : IntKind.i64.wrap ((2 : Int) ^ xs.length) = (N : Int) := by rw [hNw, two_pow_cast, hN]
  rw [hN] at hNlt hpos HEND HLLE
  have HNN := hide hN
  clear hNw hN
  have hpos' : (0 : Int) < N := by omega
  go_enter Try.func50, Try.ntmps50
  go_wp2_with (first
    | (refine wpList_make_full _ rfl _ _ _ rfl w.heap.size 4 j0 _ 1 Try.underlying63 hj hy0 hy1 _ _ _ _ N rfl rfl rfl rfl (by rw [hy2]; omega) (by unfold maxLen; omega) (by omega) ?_; intro w2 hown2 hg2; have hb2 : Below w.heap.size w w2 := (Below.refl _ _).grown hg2 (Nat.le_refl _) (by simp); have HOU2 := hide (ownG_made (enc := encB) false (.bool false) rfl rfl hown2); have hgl2 := (Own.lt HOU2.out _ rfl).2; clear hown2 hg2)
    | (refine wpList_make_full _ rfl _ _ _ rfl w2.heap.size 3 i0 _ 1 Try.underlying29 hi hz0 hz1 _ _ _ _ N rfl rfl rfl rfl (by rw [hz2]; omega) (by unfold maxLen; omega) (by omega) ?_; intro w3 hown3 hg3; have hb3 : Below w2.heap.size w2 w3 := (Below.refl _ _).grown hg3 (Nat.le_refl _) (by simp); have HOU3 := hide (HOU2.out.below hb3); have hfc := ownG_cell encB_len HOU3.out hpos (z := .bool false) rfl; have q1 := hfc.1; have q2 := hfc.2; clear hfc))
  have HIU3 := hide (ownG_made (enc := encI) 0 (.int .i64 0) rfl rfl hown3)
  clear hown3 hg3 HOU2 q1 q2
  obtain ⟨G2, hG2⟩ : ∃ G, w2.heap.size = G := ⟨_, rfl⟩
  rw [hG2] at HIU3 hgl2 ⊢
  have hG2w : G2 < w3.heap.size := (Own.lt HIU3.out _ rfl).2
  have hO0 : Own (w3.setCell ⟨w.heap.size, 0, none⟩ (.bool true)) w.heap.size 4 1 encB (.slice (some ⟨w.heap.size, 0, none⟩) N N) (rowG N (tgTab cl 1)) := by
    have := ownG_store encB_len HOU3.out hpos (x := true) (z := .bool true) rfl
    rwa [rowG_congr (v := tgTab cl 1) (fun j _ => by unfold tgTab; by_cases e : j = 0; (subst e; simp [HC0.out]); (rw [if_neg e, if_neg (by omega)]))] at this
  have hI0 : Own (w3.setCell ⟨w.heap.size, 0, none⟩ (.bool true)) G2 3 1 encI (.slice (some ⟨G2, 0, none⟩) N N) (rowG N (lsTab lf 1 0)) := by
    have := HIU3.out.setFar (p := ⟨w.heap.size, 0, none⟩) (by simp [Value.ownBlock]; omega) (.bool true)
    rwa [rowG_congr (v := lsTab lf 1 0) (fun j _ => by unfold lsTab; by_cases e : j < 1; (obtain rfl : j = 0 := (by omega); simp [HL0.out]); (rw [if_neg e]; simp))] at this
  have hbw3 : Below w.heap.size w (w3.setCell ⟨w.heap.size, 0, none⟩ (.bool true)) := below_store (bnext hb2 hb3 (Nat.le_refl _)) (Nat.le_refl _)
  have HO0 := hide hO0; have HI0 := hide hI0
  clear hO0 hI0 HOU3 HIU3 hb3 hb2 hG2 hG2w
  go_loopw [6] (fun s wr => ∃ k : Nat, 1 ≤ k ∧ k ≤ N ∧ s = .int .i64 k ∧ Hid (Own wr w.heap.size 4 1 encB (.slice (some ⟨w.heap.size, 0, none⟩) N N) (rowG N (tgTab cl k))) ∧ Hid (Own wr G2 3 1 encI (.slice (some ⟨G2, 0, none⟩) N N) (rowG N (lsTab lf k 0))) ∧ Below w.heap.size w wr) (fun s _ => N - (intOf s).toNat)
  case atStart => exact ⟨1, Nat.le_refl _, hpos, rfl, HO0, HI0, hbw3⟩
  case round =>
    clear HO0 HI0 hbw3
    obtain ⟨k, hk1, hkN, rfl, HO, HI, hbk⟩ := hrel
    rename_i wr
    obtain ⟨wo, rfl⟩ : ∃ wo : World, wo = wr := ⟨_, rfl⟩
    have hgO := (Own.lt HO.out _ rfl).2
    have hgI := (Own.lt HI.out _ rfl).2
    by_cases hlt : k < N
    · have hlt' : (k : Int) < N := by omega
      obtain ⟨t, r, hbl, htn, hrt, hks⟩ := split_top (s := k) (n := xs.length) (by omega) (by omega) (by rw [HNN.out]; exact hlt)
      have HBL := hide hbl; have HRT := hide hrt; have HKS := hide hks
      have hku : IntKind.u64.wrap (k : Int) = k := wrap_u64 k (by omega)
      have htje : ((t + 1 : Nat) : Int) - 1 = t := by omega
      have htjw : IntKind.i64.wrap (((t + 1 : Nat) : Int) - 1) = t := by rw [htje]; exact wrap_i64 t (by omega)
      have htjw2 : IntKind.i64.wrap (t : Int) = t := wrap_i64 t (by omega)
      have htjw3 : IntKind.i64.wrap ((t : Int) + 1 - 1) = t := by rw [show (t : Int) + 1 - 1 = t by omega]; exact htjw2
      have ht12 : (t : Int) ≤ 11 := by omega
      have ht0 : (0 : Int) ≤ (t : Int) := by omega
      obtain ⟨T2, hT2⟩ : ∃ T, 2 ^ t = T := ⟨_, rfl⟩
      have hTk : T2 ≤ k := by omega
      have hsh : IntKind.i64.wrap ((2 : Int) ^ t) = (T2 : Int) := by rw [two_pow_cast, hT2]; exact wrap_i64 T2 (by omega)
      have hrest : bits .andNot .i64 (k : Int) (T2 : Int) = (r : Int) := by
        obtain ⟨c, h1, -, h2⟩ := andNot_i64 k T2 (by omega) (by omega)
        rw [h1, top_off hrt (c := c) (fun j => by rw [h2, hks, hT2])]
      have hrN : r < N := by omega
      have hrN' : (r : Int) < N := by omega
      have hr0 : (0 : Int) ≤ (r : Int) := by omega
      have hrk : r < k := by omega
      have HT2 := hide hT2
      have hru : IntKind.u64.wrap (r : Int) = r := wrap_u64 r (by omega)
      have hfr := ownG_cell encB_len HO.out hrN (z := .bool (cl r)) (by show [Value.bool (tgTab cl k r)] = _; unfold tgTab; rw [if_pos hrk])
      have hfk := ownG_cell encB_len HO.out hlt (z := .bool false) (by show [Value.bool (tgTab cl k k)] = _; unfold tgTab; rw [if_neg (Nat.lt_irrefl _)])
      have r1 := hfr.1; have r2 := hfk.1; have r3 := hfk.2
      obtain ⟨b1, o1, rfl, hb1, hcell1⟩ := H1.out (by omega)
      have e0 : wo.cell? ⟨b1, o1 + t, none⟩ = some (.int .u64 (partBits p ms xs t : Nat)) := by
        rw [hbk.cell (p := ⟨b1, _, none⟩) hb1]
        have := hcell1 t ((partBits p ms xs t : Nat) : Int) (by rw [List.getElem?_eq_getElem (by rw [rowL_len]; exact htn), rowL_at _ _ htn]) 0 _ rfl
        simpa using this
      have htn' : (t : Int) < xs.length := by omega
      have hsl : partBits p ms xs t < 4611686018427387904 := Nat.lt_of_lt_of_le (bitsOf_lt _ _) (Nat.le_trans (Nat.pow_le_pow_right (show 0 < 2 by omega) h12) (by decide))
      obtain ⟨c, hcv, hcle, hct⟩ := andNot_u64 r (partBits p ms xs t) (by omega) hsl
      have HCZ := hide (holds_all hrt htn hct)
      have HST := hide (cl_step (cl := cl) HCL.out hrt)
      have HRT2 := hide hks
      obtain ⟨S, hS⟩ : ∃ S, partBits p ms xs t = S := ⟨_, rfl⟩
      rw [hS] at e0 hcv hsl
      clear hS hcell1 hfr hfk hbl hks hct hT2
      go_upto_region 10 with (go_at_call 55; with_reducible refine (len_any k _ (by omega)).mono ?_; rintro e w9 ⟨rfl, hw⟩; obtain rfl := hw.symm; rw [HBL.out])
      go_cut [] (fun wx => Hid (Own wx w.heap.size 4 1 encB (.slice (some ⟨w.heap.size, 0, none⟩) N N) (rowG N (tgTab cl (k + 1)))) ∧ Hid (Own wx G2 3 1 encI (.slice (some ⟨G2, 0, none⟩) N N) (rowG N (lsTab lf k 0))) ∧ Below w.heap.size w wx)
      case first =>
        have HOK := hide (show Own (wo.setCell ⟨w.heap.size, k, none⟩ (.bool (cl k))) w.heap.size 4 1 encB (.slice (some ⟨w.heap.size, 0, none⟩) N N) (rowG N (tgTab cl (k + 1))) by
          have := ownG_store encB_len HO.out hlt (x := cl k) (z := .bool (cl k)) rfl
          rwa [tg_next] at this)
        have HIK := hide (HI.out.setFar (p := ⟨w.heap.size, k, none⟩) (by simp [Value.ownBlock]; omega) (.bool (cl k)))
        have hbe := below_store (v := .bool (cl k)) (o := k) hbk (Nat.le_refl w.heap.size)
        have hst := HST.out
        rw [← HRT2.out] at hst
        rcases ch1 (cl r) with gr | gr
        · rw [gr] at r1
          by_cases hcz : c = 0
          · have hk : cl k = true := hst.2 ⟨gr, HCZ.out.1 hcz⟩
            have hcz2 : ((c : Int) == 0) = true := by simp [hcz]
            rw [hk] at HOK HIK hbe
            clear hst hk hcz
            go_wp2_with fail
            go_meet
            exact ⟨HOK, HIK, hbe⟩
          · have hk : cl k = false := by
              cases e : cl k with
              | false => rfl
              | true => exact absurd (HCZ.out.2 (hst.1 e).2) hcz
            have hcz2 : ((c : Int) == 0) = false := by rw [beq_eq_false_iff_ne]; omega
            rw [hk] at HOK HIK hbe
            clear hst hk hcz
            go_wp2_with fail
            go_meet
            exact ⟨HOK, HIK, hbe⟩
        · rw [gr] at r1
          have hk : cl k = false := by
            cases e : cl k with
            | false => rfl
            | true => rw [(hst.1 e).1] at gr; cases gr
          rw [hk] at HOK HIK hbe
          clear hst hk
          go_wp2_with fail
          go_meet
          exact ⟨HOK, HIK, hbe⟩
      case rest =>
        clear HO HI hbk r1 r2 r3 e0 hgO hgI HCZ HST hcv hcle hsl
        obtain ⟨HO, HI, hbk⟩ := hcut
        have hgI := (Own.lt HI.out _ rfl).2
        have hgO := (Own.lt HO.out _ rfl).2
        have hfk := ownG_cell encI_len HI.out hlt (z := .int .i64 0) (by show [Value.int .i64 (lsTab lf k 0 k)] = _; unfold lsTab; rw [if_neg (Nat.lt_irrefl _), if_pos rfl]; rfl)
        have r2 := hfk.1; have r3 := hfk.2
        have HI1 := hide (show Own (wc.setCell ⟨G2, k, none⟩ (.int .i64 xs.length)) G2 3 1 encI (.slice (some ⟨G2, 0, none⟩) N N) (rowG N (lsTab lf k xs.length)) by
          have := ownG_store encI_len HI.out hlt (x := (xs.length : Int)) (z := .int .i64 xs.length) rfl
          rwa [ls_put (acc' := xs.length)] at this)
        have HO1 := hide (HO.out.setFar (p := ⟨G2, k, none⟩) (by simp [Value.ownBlock]; omega) (.int .i64 xs.length))
        have hbk1 := below_store (v := .int .i64 xs.length) (o := k) hbk (show w.heap.size ≤ G2 by omega)
        clear hfk
        go_wp2_with fail
        go_loopw [9] (fun s wr => ∃ (q acc : Nat), s = .int .i64 q ∧ Hid (Part q r) ∧ Hid (SeenTo (bothD p ms xs) cl lf t r q acc) ∧ acc ≤ xs.length ∧ Hid (Own wr w.heap.size 4 1 encB (.slice (some ⟨w.heap.size, 0, none⟩) N N) (rowG N (tgTab cl (k + 1)))) ∧ Hid (Own wr G2 3 1 encI (.slice (some ⟨G2, 0, none⟩) N N) (rowG N (lsTab lf k acc))) ∧ Below w.heap.size w wr) (fun s _ => (intOf s).toNat)
        case atStart => exact ⟨r, xs.length, rfl, hide (part_refl r), hide (seen_start HRT.out htn), Nat.le_refl _, HO1, HI1, hbk1⟩
        case round =>
          clear HO HI HO1 HI1 hbk1 hbk r2 r3 hgI hgO
          obtain ⟨q, acc, rfl, HPQ, HSE, hacc, HO, HI, hbk⟩ := hrel
          rename_i wr
          obtain ⟨wi, rfl⟩ : ∃ wi : World, wi = wr := ⟨_, rfl⟩
          have hgI := (Own.lt HI.out _ rfl).2
          have hgO := (Own.lt HO.out _ rfl).2
          have hqr := HPQ.out.le
          have hqt : q < T2 := by rw [← HT2.out]; exact Nat.lt_of_le_of_lt hqr HRT.out
          -- the round
          have hQk : q + T2 ≤ k := by have := HRT2.out; rw [HT2.out] at this; omega
          have hor : bits .or .i64 (q : Int) (T2 : Int) = ((q + T2 : Nat) : Int) := by
            rw [bits_or_i64 q T2 (by omega) (by omega)]
            have := or_top (p := q) (t := t) (by rw [HT2.out]; exact hqt)
            rw [HT2.out] at this
            rw [this]
          have hQN : q + T2 < N := by omega
          have hQN' : ((q + T2 : Nat) : Int) < N := by omega
          have hQ0 : (0 : Int) ≤ ((q + T2 : Nat) : Int) := by omega
          have hfq := ownG_cell encB_len HO.out hQN (z := .bool (cl (q + T2))) (by show [Value.bool (tgTab cl (k + 1) (q + T2))] = _; unfold tgTab; rw [if_pos (by omega)])
          have r1 := hfq.1
          have HSY2 := hide (seen_yes (p := q) HCL.out HLF.out HRT.out HSE.out HPQ.out)
          have HSN2 := hide (seen_no (p := q) HSE.out)
          rw [HT2.out] at HSY2 HSN2
          obtain ⟨Q, hQ⟩ : ∃ Q, q + T2 = Q := ⟨_, rfl⟩
          rw [hQ] at hor hQN hQN' hQ0 r1 HSY2 HSN2
          clear hfq hQ hQk
          have hkw : IntKind.i64.wrap ((k : Int) + 1) = (k : Int) + 1 := IntWalk.i64_in _ (by omega)
          by_cases hq0 : q = 0
          · have hqe : ((q : Int) == 0) = true := by simp [hq0]
            have HQ0 := hide hq0; clear hq0
            rcases ch1 (cl Q) with gq | gq
            · have HS2 := hide (HSY2.out gq)
              rw [gq] at r1
              clear gq HSY2 HSN2 HSE
              have hy : lf (r - q) ≤ xs.length := HLLE.out _ (by omega)
              have hfs := ownG_cell encI_len HI.out (show r - q < N by omega) (z := .int .i64 (lf (r - q))) (by show [Value.int .i64 (lsTab lf k acc (r - q))] = _; unfold lsTab; rw [if_pos (by omega)])
              have hfk := ownG_cell encI_len HI.out hlt (z := .int .i64 acc) (by show [Value.int .i64 (lsTab lf k acc k)] = _; unfold lsTab; rw [if_neg (Nat.lt_irrefl _), if_pos rfl])
              have r4 := hfs.1; have r2 := hfk.1; have r3 := hfk.2
              have hsub : bits .andNot .i64 (r : Int) (q : Int) = ((r - q : Nat) : Int) := by
                obtain ⟨c, h1, -, h2⟩ := andNot_i64 r q (by omega) (by omega)
                rw [h1, andNot_part HPQ.out h2]
              have hsN : r - q < N := by omega
              have hsN' : ((r - q : Nat) : Int) < N := by omega
              have hs0 : (0 : Int) ≤ ((r - q : Nat) : Int) := by omega
              clear hfs hfk
              obtain ⟨s, hs⟩ : ∃ s, r - q = s := ⟨_, rfl⟩
              rw [hs] at r4 hsub hsN hsN' hs0 hy HS2
              obtain ⟨y, hye⟩ : ∃ y, lf s = y := ⟨_, rfl⟩
              rw [hye] at r4 hy HS2
              clear hs hye
              have hyw : IntKind.i64.wrap (1 + (y : Int)) = 1 + (y : Int) := IntWalk.i64_in _ (by omega)
              have hacc' : (acc : Int) ≤ xs.length := by omega
              have hmc : ((min acc (1 + y) : Nat) : Int) = min (acc : Int) (1 + (y : Int)) := by omega
              have hml : min acc (1 + y) ≤ acc := by omega
              have HMC := hide hmc; clear hmc
              obtain ⟨M, hM⟩ : ∃ M, min acc (1 + y) = M := ⟨_, rfl⟩
              rw [hM] at HS2 HMC hml
              clear hM
              go_wp2
              go_still_tail 15, (by kernel_rfl)
              change wpList _ _ _ _ _ wi.drew
              have hbd : Below wi.heap.size wi wi.drew := Below.drew (Below.refl _ _)
              have s2 := cellKeep hbd r2 hgI; have s3 := frozenKeep hbd r3 hgI
              have HO4 := hide (HO.out.below hbd); have HI4 := hide (HI.out.below hbd)
              have hbk4 := bnext hbk hbd (by omega)
              generalize wi.drew = W4 at s2 s3 HO4 HI4 hbk4 ⊢
              clear hbd r1 r2 r3 r4 HO HI hbk
              have HI5 := hide (show Own (W4.setCell ⟨G2, k, none⟩ (.int .i64 (min (acc : Int) (1 + (y : Int))))) G2 3 1 encI (.slice (some ⟨G2, 0, none⟩) N N) (rowG N (lsTab lf k M)) by have := ownG_store encI_len HI4.out hlt (x := (M : Int)) (z := .int .i64 M) rfl; rw [ls_put (acc' := M), HMC.out] at this; exact this)
              have HE := hide (seen_end HSY.out HCL.out HLF.out HRT.out (by have := HS2.out; rwa [HQ0.out] at this))
              go_wp2
              go_roundw
              case rel => exact ⟨k + 1, by omega, by omega, by first | rfl | go_num, hide (HO4.out.setFar (p := ⟨G2, k, none⟩) (by simp [Value.ownBlock]; omega) _), hide (by have := HI5.out; rwa [ls_next (by rw [HE.out, ← HRT2.out])] at this), below_store hbk4 (by omega)⟩
              case measure => simp [intOf]; omega
            · have HS2 := hide (HSN2.out gq)
              rw [gq] at r1
              clear gq HSY2 HSN2 HSE
              have HE := hide (seen_end HSY.out HCL.out HLF.out HRT.out (by have := HS2.out; rwa [HQ0.out] at this))
              go_wp2
              go_roundw
              case rel => exact ⟨k + 1, by omega, by omega, by first | rfl | go_num, HO, hide (by have := HI.out; rwa [ls_next (by rw [HE.out, ← HRT2.out])] at this), hbk⟩
              case measure => simp [intOf]; omega
          · have hqe : ((q : Int) == 0) = false := by rw [beq_eq_false_iff_ne]; omega
            have HP3 := hide (part_and (q - 1) r)
            have hlt3 := and_lt_of (set := r) hq0
            have hd1 : IntKind.i64.wrap ((q : Int) - 1) = ((q - 1 : Nat) : Int) := by rw [IntWalk.i64_in _ (by omega)]; omega
            have hand := bits_and_i64 (q - 1) r (by omega) (by omega)
            obtain ⟨q2, hq2⟩ : ∃ q2, (q - 1) &&& r = q2 := ⟨_, rfl⟩
            rw [hq2] at hand HP3 hlt3
            have HQ2 := hide hq2
            clear hq2
            rcases ch1 (cl Q) with gq | gq
            · have HS2 := hide (HSY2.out gq)
              rw [gq] at r1
              clear gq HSY2 HSN2 HSE
              have hy : lf (r - q) ≤ xs.length := HLLE.out _ (by omega)
              have hfs := ownG_cell encI_len HI.out (show r - q < N by omega) (z := .int .i64 (lf (r - q))) (by show [Value.int .i64 (lsTab lf k acc (r - q))] = _; unfold lsTab; rw [if_pos (by omega)])
              have hfk := ownG_cell encI_len HI.out hlt (z := .int .i64 acc) (by show [Value.int .i64 (lsTab lf k acc k)] = _; unfold lsTab; rw [if_neg (Nat.lt_irrefl _), if_pos rfl])
              have r4 := hfs.1; have r2 := hfk.1; have r3 := hfk.2
              have hsub : bits .andNot .i64 (r : Int) (q : Int) = ((r - q : Nat) : Int) := by
                obtain ⟨c, h1, -, h2⟩ := andNot_i64 r q (by omega) (by omega)
                rw [h1, andNot_part HPQ.out h2]
              have hsN : r - q < N := by omega
              have hsN' : ((r - q : Nat) : Int) < N := by omega
              have hs0 : (0 : Int) ≤ ((r - q : Nat) : Int) := by omega
              clear hfs hfk
              obtain ⟨s, hs⟩ : ∃ s, r - q = s := ⟨_, rfl⟩
              rw [hs] at r4 hsub hsN hsN' hs0 hy HS2
              obtain ⟨y, hye⟩ : ∃ y, lf s = y := ⟨_, rfl⟩
              rw [hye] at r4 hy HS2
              clear hs hye
              have hyw : IntKind.i64.wrap (1 + (y : Int)) = 1 + (y : Int) := IntWalk.i64_in _ (by omega)
              have hacc' : (acc : Int) ≤ xs.length := by omega
              have hmc : ((min acc (1 + y) : Nat) : Int) = min (acc : Int) (1 + (y : Int)) := by omega
              have hml : min acc (1 + y) ≤ acc := by omega
              have HMC := hide hmc; clear hmc
              obtain ⟨M, hM⟩ : ∃ M, min acc (1 + y) = M := ⟨_, rfl⟩
              rw [hM] at HS2 HMC hml
              clear hM
              go_wp2
              go_still_tail 15, (by kernel_rfl)
              change wpList _ _ _ _ _ wi.drew
              have hbd : Below wi.heap.size wi wi.drew := Below.drew (Below.refl _ _)
              have s2 := cellKeep hbd r2 hgI; have s3 := frozenKeep hbd r3 hgI
              have HO4 := hide (HO.out.below hbd); have HI4 := hide (HI.out.below hbd)
              have hbk4 := bnext hbk hbd (by omega)
              generalize wi.drew = W4 at s2 s3 HO4 HI4 hbk4 ⊢
              clear hbd r1 r2 r3 r4 HO HI hbk
              have HI5 := hide (show Own (W4.setCell ⟨G2, k, none⟩ (.int .i64 (min (acc : Int) (1 + (y : Int))))) G2 3 1 encI (.slice (some ⟨G2, 0, none⟩) N N) (rowG N (lsTab lf k M)) by have := ownG_store encI_len HI4.out hlt (x := (M : Int)) (z := .int .i64 M) rfl; rw [ls_put (acc' := M), HMC.out] at this; exact this)
              have HS3 := hide (seen_next HS2.out HPQ.out (by omega))
              rw [HQ2.out] at HS3
              go_wp2
              go_roundw
              case rel => exact ⟨q2, M, by first | rfl | go_num, HP3, HS3, by omega, hide (HO4.out.setFar (p := ⟨G2, k, none⟩) (by simp [Value.ownBlock]; omega) _), hide (HI5.out), below_store hbk4 (by omega)⟩
              case measure => simp [intOf]; omega
            · have HS2 := hide (HSN2.out gq)
              rw [gq] at r1
              clear gq HSY2 HSN2 HSE
              have HS3 := hide (seen_next HS2.out HPQ.out (by omega))
              rw [HQ2.out] at HS3
              go_wp2
              go_roundw
              case rel => exact ⟨q2, acc, by first | rfl | go_num, HP3, HS3, by omega, HO, hide (HI.out), hbk⟩
              case measure => simp [intOf]; omega
    · obtain rfl : N = k := by omega
      obtain ⟨M, hM⟩ : ∃ M, N = M + 1 := ⟨N - 1, by omega⟩
      have hMN : M < N := by omega
      have hMN' : (M : Int) < N := by omega
      have hM0 : (0 : Int) ≤ (M : Int) := by omega
      have HE := hide (show LeastP (bothD p ms xs) (fun i => i < xs.length) (lf M) by have := HEND.out; rwa [show N - 1 = M by omega] at this)
      have hfk := ownG_cell encI_len HI.out hMN (z := .int .i64 (lf M)) (by show [Value.int .i64 (lsTab lf N 0 M)] = _; unfold lsTab; rw [if_pos hMN])
      have r2 := hfk.1
      have f2 : IntKind.i64.wrap ((N : Int) - 1) = (M : Int) := by rw [IntWalk.i64_in _ (by omega)]; omega
      have f5 : (N : Int) - 1 = M := by omega
      have f6 : IntKind.i64.wrap (M : Int) = M := wrap_i64 M (by omega)
      clear hM hfk
      go_wp2
      go_ret
      exact ⟨lf M, rfl, HE.out, hbk⟩
end Go.Proofs.Ytdbpgfbbkejljaa
