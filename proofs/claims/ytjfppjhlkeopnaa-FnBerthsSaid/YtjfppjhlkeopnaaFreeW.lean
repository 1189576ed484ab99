/- Free times of a berth: the program and the spec. No condition. -/
import Derived.Test.YtjfppjhlkeopnaaGathI
import Derived.Test.YtjfppjhlkeopnaaOtherI
import Derived.Test.YtjfppjhlkeopnaaBerths
import Derived.Test.YtjfppjhlkeopnaaSStay
namespace Go.Proofs.Ytjfppjhlkeopnaa
open Go.RowKit
set_option linter.unusedVariables false
theorem i64_bounds {n : Int} (h : (Lit.int .i64 n).wf = true) : -9223372036854775808 ≤ n ∧ n ≤ 9223372036854775807 := by
  simp [Lit.wf, IntKind.min, IntKind.max, IntKind.signed, IntKind.bits] at h; omega
theorem gather_ok (us : List WindowD) : WinOk (gatherL us) 2881 ∧ (gatherL us).length ≤ 2881 := ⟨winsTo_ok _ 2881, winsTo_len _ 2881⟩
theorem freeL_len (bs : List BerthD) (ys : List StayD) (b : Int) : (freeL bs ys b).length ≤ 2882 := by
  unfold freeL
  split
  · have := otherL_len (gatherL (takenTo ys b ys.length)); have := (gather_ok (takenTo ys b ys.length)).2; omega
  · simp
set_option maxRecDepth 100000 in
set_option maxHeartbeats 16000000 in
theorem spec_FreeTimes_any (v1 v2 : Value) (bs : List BerthD) (ys : List StayD) (b : Int) (w : World) (h1 : RdBerth w v1 bs) (h2 : RdStay w v2 ys) (hokb : ∀ x ∈ bs, x.name.size ≤ maxLen) (hoky : ∀ x ∈ ys, x.ok) (hl : ys.length ≤ 1048576) :
    Calls Try.prog 43 #[v1, v2, .int .i64 b] w fun e w' => ∃ u, e = .returned u ∧ Own w' w.heap.size 117 2 WindowD.enc u (freeL bs ys b) ∧ Below w.heap.size w w' := by
  have HR1 := hide h1; have HR2 := hide h2; have HOKB := hide hokb; have HOKY := hide hoky; have HL := hide hl
  obtain ⟨A1, c1, rfl, hc1, hm1, h1⟩ := h1
  obtain ⟨A2, c2, rfl, hc2, hm2, h2⟩ := h2
  unfold maxLen at hm1 hm2
  clear h1 h2 hokb hoky hl
  obtain ⟨i0, hi, hz0, hz1, hz2⟩ := info_parts window_info
  have hbw : IntKind.i64.wrap ((bs.length : Int) - 1) = (bs.length : Int) - 1 := IntWalk.i64_in _ (by omega)
  rcases ch2 (berthsOk bs) (inB b 0 ((bs.length : Int) - 1)) with ⟨g1, g2⟩ | g1 | ⟨g1, g2⟩
  · have HFR := hide (show freeL bs ys b = otherL (gatherL (takenTo ys b ys.length)) by unfold freeL; rw [g1, g2]; rfl)
    go_enter Try.func43, Try.ntmps43
    go_upto_region 3 with (first
      | (go_at_call 25; (with_reducible refine (spec_BerthsOk_any _ bs _ HR1.out HOKB.out).mono ?_); rintro e w1 ⟨rfl, hb1⟩)
      | (go_at_call 63; refine (l01In_any _ _ _ _).mono ?_; rintro e wq ⟨rfl, hwq⟩; obtain rfl := hwq.symm))
    clear g1 g2
    have hs1 := hb1.size
    have HO0 := hide ((own_built0 (enc := WindowD.enc) w1 117 2).mono (base' := w.heap.size) hs1)
    have HB0 := hide (show Below w.heap.size w (w1.alloc (.cells #[] 117)) from (by repeat (first | exact Below.refl _ _ | assumption | refine Below.setCell ?_ (by first | omega | (simp <;> omega)) _ | refine Below.alloc ?_ (by first | omega | (simp <;> omega)) _ | refine below_drewN ?_ _ | refine Below.drew ?_ | refine Below.trans ?_ (Below.mono (by assumption) (by first | omega | (simp <;> omega))))))
    go_wp2_with fail
    generalize w1.alloc (.cells #[] 117) = W0 at HO0 HB0 ⊢
    clear hb1
    go_loopw [7, 24] (fun o s wr => ∃ k : Nat, k ≤ ys.length ∧ s = .int .i64 k ∧ Hid (Own wr w.heap.size 117 2 WindowD.enc o (takenTo ys b k)) ∧ Below w.heap.size w wr) (fun _ s _ => ys.length - (intOf s).toNat)
    case atStart => exact ⟨0, Nat.zero_le _, rfl, HO0, HB0.out⟩
    case round =>
      clear HO0 HB0
      obtain ⟨k, hk, rfl, HO, hbk⟩ := hrel
      obtain ⟨wo, rfl⟩ : ∃ wo : World, wo = wr := ⟨_, rfl⟩
      have hbs := hbk.size
      by_cases hlt : k < ys.length
      · have hlt' : (k : Int) < ys.length := by omega
        obtain ⟨A2x, c2x, eq2, -, -, h2⟩ := HR2.out
        obtain ⟨b1, o1, e2x, hb1, hcell1⟩ := h2 (by omega)
        obtain ⟨rfl, rfl⟩ : A2 = A2x ∧ c2 = c2x := by injection eq2 with q1 q2 q3; exact ⟨q1, q3⟩
        subst e2x
        have e0 : wo.cell? ⟨b1, o1 + k * 4, none⟩ = some (.int .i64 ys[k].ship) := by
          rw [hbk.cell (p := ⟨b1, _, none⟩) hb1]; have := hcell1 k ys[k] (List.getElem?_eq_getElem hlt) 0 _ rfl; simpa using this
        have e1 : wo.cell? ⟨b1, o1 + k * 4 + 1, none⟩ = some (.int .i64 ys[k].berth) := by
          rw [hbk.cell (p := ⟨b1, _, none⟩) hb1]; have := hcell1 k ys[k] (List.getElem?_eq_getElem hlt) 1 _ rfl; simpa using this
        have e2 : wo.cell? ⟨b1, o1 + k * 4 + 2, none⟩ = some (.int .i64 ys[k].start) := by
          rw [hbk.cell (p := ⟨b1, _, none⟩) hb1]; have := hcell1 k ys[k] (List.getElem?_eq_getElem hlt) 2 _ rfl; simpa using this
        have e3 : wo.cell? ⟨b1, o1 + k * 4 + 3, none⟩ = some (.int .i64 ys[k].fin) := by
          rw [hbk.cell (p := ⟨b1, _, none⟩) hb1]; have := hcell1 k ys[k] (List.getElem?_eq_getElem hlt) 3 _ rfl; simpa using this
        clear hcell1 h2 eq2
        have hok := HOKY.out ys[k] (List.getElem_mem hlt)
        have HTK := hide (show takenTo ys b (k + 1) = takenTo ys b k ++ if ys[k].berth = b ∧ ys[k].start < ys[k].fin then [⟨ys[k].start, ys[k].fin - 1⟩] else [] by rw [takenTo, getD_at hlt])
        have HLN := hide (show (takenTo ys b k).length ≤ 1048576 by have := takenTo_len ys b k; have := HL.out; omega)
        obtain ⟨x, hxe⟩ : ∃ x, ys[k] = x := ⟨_, rfl⟩
        rw [hxe] at e0 e1 e2 e3 hok HTK
        obtain ⟨tk, htk⟩ : ∃ z, takenTo ys b k = z := ⟨_, rfl⟩
        rw [htk] at HTK HO HLN
        clear hxe htk
        obtain ⟨x0, x1, x2, x3⟩ := x
        obtain ⟨-, -, hwf2, hwf3⟩ := hok
        have hr2 := i64_bounds hwf2; have hr3 := i64_bounds hwf3
        clear hwf2 hwf3
        simp only at e0 e1 e2 e3 HTK hr2 hr3
        obtain ⟨A3, c3, rfl, hc3, hm3, -⟩ := Own.rd WindowD.enc_len HO.out
        unfold maxLen at hm3
        have hbx : Below wo.heap.size wo (wo.alloc (.cells #[.int .i64 x0, .int .i64 x1, .int .i64 x2, .int .i64 x3] 97)) := (Below.refl _ _).alloc (Nat.le_refl _) _
        by_cases hbe : x1 = b
        · have hbe2 := hbe.symm
          subst hbe2
          by_cases hlf : x2 < x3
          · have HG2 := hide (show takenTo ys b (k + 1) = tk ++ [⟨x2, x3 - 1⟩] by rw [HTK.out, if_pos ⟨rfl, hlf⟩])
            clear HTK
            have hw2 : IntKind.i64.wrap (x3 - 1) = x3 - 1 := IntWalk.i64_in _ (by omega)
            have HOX := hide (HO.out.below hbx)
            have HBX := hide (bnext hbk hbx (Nat.le_refl _))
            go_upto_region 8 with fail
            obtain ⟨W1, hW1⟩ : ∃ W, wo.alloc (.cells #[.int .i64 x0, .int .i64 b, .int .i64 x2, .int .i64 x3] 97) = W := ⟨_, rfl⟩
            have f0 : W1.cell? ⟨wo.heap.size, 2, none⟩ = some (.int .i64 x2) := by rw [← hW1]; simp [go_sem]
            have f1 : W1.cell? ⟨wo.heap.size, 3, none⟩ = some (.int .i64 x3) := by rw [← hW1]; simp [go_sem]
            rw [hW1] at HOX HBX ⊢
            clear hW1 e0 e1 e2 e3 hbx
            have hs1 : w.heap.size ≤ W1.heap.size := HBX.out.size
            go_wp2_with (at_builtin; refine wpList_append_rd _ WindowD.enc_len WindowD.one (by rfl) _ _ 85 (by rfl) w.heap.size 117 i0 (.agg #[.int .i64 0, .int .i64 0]) 16 Try.underlying85 hi hz0 hz1 hz2 rfl (by decide) _ _ (by rfl) (HOX.out.below ((Below.refl _ _).alloc (Nat.le_refl _) _)) _ _ [(⟨x2, x3 - 1⟩ : WindowD)] (by rfl) (rd_new (enc := WindowD.enc) _ (⟨x2, x3 - 1⟩ : WindowD) _) (by have := HLN.out; unfold maxLen; simp <;> omega) (by have := HLN.out; simp <;> omega) (by simp <;> omega) ?_; intro r9 w9 hown9 hgrow9 hblk9)
            have hb9 : Below w.heap.size w w9 := (HBX.out.trans (((Below.refl _ _).alloc (Nat.le_refl _) _).mono hs1)).trans (Own.belowGrown (B := w.heap.size) (HOX.out.below ((Below.refl _ _).alloc (Nat.le_refl _) _)) hgrow9 (Nat.le_refl _) (by simp <;> omega))
            have HO9 := hide (show Own w9 w.heap.size 117 2 WindowD.enc r9 (takenTo ys b (k + 1)) by rw [HG2.out]; exact hown9)
            clear hown9 hgrow9 hblk9 f0 f1 HOX HBX
            go_roundw
            case rel => exact ⟨k + 1, by omega, by go_num, HO9, hb9⟩
            case measure => simp [intOf]; omega
          · have HG2 := hide (show takenTo ys b (k + 1) = tk by rw [HTK.out, if_neg (fun h => hlf h.2), List.append_nil])
            clear HTK
            go_wp2
            go_roundw
            case rel => exact ⟨k + 1, by omega, by go_num, hide (by rw [HG2.out]; exact HO.out.below hbx), bnext hbk hbx (Nat.le_refl _)⟩
            case measure => simp [intOf]; omega
        · have HG2 := hide (show takenTo ys b (k + 1) = tk by rw [HTK.out, if_neg (fun h => hbe h.1), List.append_nil])
          clear HTK
          go_wp2
          go_roundw
          case rel => exact ⟨k + 1, by omega, by go_num, hide (by rw [HG2.out]; exact HO.out.below hbx), bnext hbk hbx (Nat.le_refl _)⟩
          case measure => simp [intOf]; omega
      · obtain rfl : k = ys.length := by omega
        have HRT := hide (Own.rd WindowD.enc_len HO.out)
        have HTL := hide (show (takenTo ys b ys.length).length ≤ 1048576 by have := takenTo_len ys b ys.length; have := HL.out; omega)
        have HBK := hide hbk
        clear hlt HO hbk
        go_wp2_with (first
          | (go_at_call 77; (with_reducible refine (spec_GatherWindows_any _ _ _ HRT.out).mono ?_); rintro e w4 ⟨u4, rfl, ho4, hb4⟩; have hs4 := hb4.size; have HR4 := hide (Own.rd WindowD.enc_len ho4); clear ho4)
          | (go_at_call 76; (with_reducible refine (spec_OtherWindows_any _ _ _ HR4.out (gather_ok _).1 (gather_ok _).2).mono ?_); rintro e w5 ⟨u5, rfl, ho5, hb5⟩))
        have HO5 := hide (ho5.mono (base' := w.heap.size) (Nat.le_trans HBK.out.size hs4))
        have HB5 := hide (bnext (bnext HBK.out hb4 (Nat.le_refl _)) hb5 (Nat.le_refl _))
        clear ho5 hb5 hb4
        go_wp2
        go_ret
        exact ⟨_, rfl, by rw [HFR.out]; exact HO5.out, HB5.out⟩
  all_goals
    have HFR := hide (show freeL bs ys b = [] by unfold freeL; rw [if_neg (by simp [*])])
    go_enter Try.func43, Try.ntmps43
    go_wp2_with (first
      | (go_at_call 25; (with_reducible refine (spec_BerthsOk_any _ bs _ HR1.out HOKB.out).mono ?_); rintro e w1 ⟨rfl, hb1⟩)
      | (go_at_call 63; refine (l01In_any _ _ _ _).mono ?_; rintro e wq ⟨rfl, hwq⟩; obtain rfl := hwq.symm))
    go_ret
    exact ⟨_, rfl, by rw [HFR.out]; exact Own.nil_, hb1⟩
set_option maxRecDepth 100000 in
set_option maxHeartbeats 16000000 in
theorem impl_FreeTimes_any (v1 v2 : Value) (bs : List BerthD) (ys : List StayD) (b : Int) (w : World) (h1 : RdBerth w v1 bs) (h2 : RdStay w v2 ys) (hokb : ∀ x ∈ bs, x.name.size ≤ maxLen) (hoky : ∀ x ∈ ys, x.ok) (hl : ys.length ≤ 1048576) :
    Calls Try.prog 44 #[v1, v2, .int .i64 b] w fun e w' => ∃ u, e = .returned u ∧ Own w' w.heap.size 117 2 WindowD.enc u (freeL bs ys b) ∧ Below w.heap.size w w' := by
  have HR1 := hide h1; have HR2 := hide h2; have HOKB := hide hokb; have HOKY := hide hoky; have HL := hide hl
  obtain ⟨A1, c1, rfl, hc1, hm1, h1⟩ := h1
  obtain ⟨A2, c2, rfl, hc2, hm2, h2⟩ := h2
  unfold maxLen at hm1 hm2
  clear h1 h2 hokb hoky hl
  obtain ⟨i0, hi, hz0, hz1, hz2⟩ := info_parts window_info
  have hbw : IntKind.i64.wrap ((bs.length : Int) - 1) = (bs.length : Int) - 1 := IntWalk.i64_in _ (by omega)
  rcases ch2 (berthsOk bs) (inB b 0 ((bs.length : Int) - 1)) with ⟨g1, g2⟩ | g1 | ⟨g1, g2⟩
  · have HFR := hide (show freeL bs ys b = otherL (gatherL (takenTo ys b ys.length)) by unfold freeL; rw [g1, g2]; rfl)
    go_enter Try.func44, Try.ntmps44
    go_upto_region 3 with (first
      | (go_at_call 27; (with_reducible refine (impl_BerthsOk_any _ bs _ HR1.out HOKB.out).mono ?_); rintro e w1 ⟨rfl, hb1⟩)
      | (go_at_call 72; refine (isIndexB _ _ ((bs.length : Int) - 1) _ (by omega)).mono ?_; rintro e wq ⟨rfl, hwq⟩; obtain rfl := hwq.symm))
    clear g1 g2
    have hs1 := hb1.size
    have HO0 := hide ((own_built0 (enc := WindowD.enc) w1 117 2).mono (base' := w.heap.size) hs1)
    have HB0 := hide (show Below w.heap.size w (w1.alloc (.cells #[] 117)) from (by repeat (first | exact Below.refl _ _ | assumption | refine Below.setCell ?_ (by first | omega | (simp <;> omega)) _ | refine Below.alloc ?_ (by first | omega | (simp <;> omega)) _ | refine below_drewN ?_ _ | refine Below.drew ?_ | refine Below.trans ?_ (Below.mono (by assumption) (by first | omega | (simp <;> omega))))))
    go_wp2_with fail
    generalize w1.alloc (.cells #[] 117) = W0 at HO0 HB0 ⊢
    clear hb1
    go_loopw [7, 23] (fun o s wr => ∃ k : Nat, k ≤ ys.length ∧ s = .int .i64 k ∧ Hid (Own wr w.heap.size 117 2 WindowD.enc o (takenTo ys b k)) ∧ Below w.heap.size w wr) (fun _ s _ => ys.length - (intOf s).toNat)
    case atStart => exact ⟨0, Nat.zero_le _, rfl, HO0, HB0.out⟩
    case round =>
      clear HO0 HB0
      obtain ⟨k, hk, rfl, HO, hbk⟩ := hrel
      obtain ⟨wo, rfl⟩ : ∃ wo : World, wo = wr := ⟨_, rfl⟩
      have hbs := hbk.size
      by_cases hlt : k < ys.length
      · have hlt' : (k : Int) < ys.length := by omega
        obtain ⟨A2x, c2x, eq2, -, -, h2⟩ := HR2.out
        obtain ⟨b1, o1, e2x, hb1, hcell1⟩ := h2 (by omega)
        obtain ⟨rfl, rfl⟩ : A2 = A2x ∧ c2 = c2x := by injection eq2 with q1 q2 q3; exact ⟨q1, q3⟩
        subst e2x
        have e0 : wo.cell? ⟨b1, o1 + k * 4, none⟩ = some (.int .i64 ys[k].ship) := by
          rw [hbk.cell (p := ⟨b1, _, none⟩) hb1]; have := hcell1 k ys[k] (List.getElem?_eq_getElem hlt) 0 _ rfl; simpa using this
        have e1 : wo.cell? ⟨b1, o1 + k * 4 + 1, none⟩ = some (.int .i64 ys[k].berth) := by
          rw [hbk.cell (p := ⟨b1, _, none⟩) hb1]; have := hcell1 k ys[k] (List.getElem?_eq_getElem hlt) 1 _ rfl; simpa using this
        have e2 : wo.cell? ⟨b1, o1 + k * 4 + 2, none⟩ = some (.int .i64 ys[k].start) := by
          rw [hbk.cell (p := ⟨b1, _, none⟩) hb1]; have := hcell1 k ys[k] (List.getElem?_eq_getElem hlt) 2 _ rfl; simpa using this
        have e3 : wo.cell? ⟨b1, o1 + k * 4 + 3, none⟩ = some (.int .i64 ys[k].fin) := by
          rw [hbk.cell (p := ⟨b1, _, none⟩) hb1]; have := hcell1 k ys[k] (List.getElem?_eq_getElem hlt) 3 _ rfl; simpa using this
        clear hcell1 h2 eq2
        have hok := HOKY.out ys[k] (List.getElem_mem hlt)
        have HTK := hide (show takenTo ys b (k + 1) = takenTo ys b k ++ if ys[k].berth = b ∧ ys[k].start < ys[k].fin then [⟨ys[k].start, ys[k].fin - 1⟩] else [] by rw [takenTo, getD_at hlt])
        have HLN := hide (show (takenTo ys b k).length ≤ 1048576 by have := takenTo_len ys b k; have := HL.out; omega)
        obtain ⟨x, hxe⟩ : ∃ x, ys[k] = x := ⟨_, rfl⟩
        rw [hxe] at e0 e1 e2 e3 hok HTK
        obtain ⟨tk, htk⟩ : ∃ z, takenTo ys b k = z := ⟨_, rfl⟩
        rw [htk] at HTK HO HLN
        clear hxe htk
        obtain ⟨x0, x1, x2, x3⟩ := x
        obtain ⟨-, -, hwf2, hwf3⟩ := hok
        have hr2 := i64_bounds hwf2; have hr3 := i64_bounds hwf3
        clear hwf2 hwf3
        simp only at e0 e1 e2 e3 HTK hr2 hr3
        obtain ⟨A3, c3, rfl, hc3, hm3, -⟩ := Own.rd WindowD.enc_len HO.out
        unfold maxLen at hm3
        have hbx : Below wo.heap.size wo (wo.alloc (.cells #[.int .i64 x0, .int .i64 x1, .int .i64 x2, .int .i64 x3] 97)) := (Below.refl _ _).alloc (Nat.le_refl _) _
        by_cases hbe : x1 = b
        · have hbe2 := hbe.symm
          subst hbe2
          by_cases hlf : x2 < x3
          · have HG2 := hide (show takenTo ys b (k + 1) = tk ++ [⟨x2, x3 - 1⟩] by rw [HTK.out, if_pos ⟨rfl, hlf⟩])
            clear HTK
            have hw2 : IntKind.i64.wrap (x3 - 1) = x3 - 1 := IntWalk.i64_in _ (by omega)
            have HOX := hide (HO.out.below hbx)
            have HBX := hide (bnext hbk hbx (Nat.le_refl _))
            go_upto_region 8 with fail
            obtain ⟨W1, hW1⟩ : ∃ W, wo.alloc (.cells #[.int .i64 x0, .int .i64 b, .int .i64 x2, .int .i64 x3] 97) = W := ⟨_, rfl⟩
            have f0 : W1.cell? ⟨wo.heap.size, 2, none⟩ = some (.int .i64 x2) := by rw [← hW1]; simp [go_sem]
            have f1 : W1.cell? ⟨wo.heap.size, 3, none⟩ = some (.int .i64 x3) := by rw [← hW1]; simp [go_sem]
            rw [hW1] at HOX HBX ⊢
            clear hW1 e0 e1 e2 e3 hbx
            have hs1 : w.heap.size ≤ W1.heap.size := HBX.out.size
            go_wp2_with (at_builtin; refine wpList_append_rd _ WindowD.enc_len WindowD.one (by rfl) _ _ 85 (by rfl) w.heap.size 117 i0 (.agg #[.int .i64 0, .int .i64 0]) 16 Try.underlying85 hi hz0 hz1 hz2 rfl (by decide) _ _ (by rfl) (HOX.out.below ((Below.refl _ _).alloc (Nat.le_refl _) _)) _ _ [(⟨x2, x3 - 1⟩ : WindowD)] (by rfl) (rd_new (enc := WindowD.enc) _ (⟨x2, x3 - 1⟩ : WindowD) _) (by have := HLN.out; unfold maxLen; simp <;> omega) (by have := HLN.out; simp <;> omega) (by simp <;> omega) ?_; intro r9 w9 hown9 hgrow9 hblk9)
            have hb9 : Below w.heap.size w w9 := (HBX.out.trans (((Below.refl _ _).alloc (Nat.le_refl _) _).mono hs1)).trans (Own.belowGrown (B := w.heap.size) (HOX.out.below ((Below.refl _ _).alloc (Nat.le_refl _) _)) hgrow9 (Nat.le_refl _) (by simp <;> omega))
            have HO9 := hide (show Own w9 w.heap.size 117 2 WindowD.enc r9 (takenTo ys b (k + 1)) by rw [HG2.out]; exact hown9)
            clear hown9 hgrow9 hblk9 f0 f1 HOX HBX
            go_roundw
            case rel => exact ⟨k + 1, by omega, by go_num, HO9, hb9⟩
            case measure => simp [intOf]; omega
          · have HG2 := hide (show takenTo ys b (k + 1) = tk by rw [HTK.out, if_neg (fun h => hlf h.2), List.append_nil])
            clear HTK
            go_wp2
            go_roundw
            case rel => exact ⟨k + 1, by omega, by go_num, hide (by rw [HG2.out]; exact HO.out.below hbx), bnext hbk hbx (Nat.le_refl _)⟩
            case measure => simp [intOf]; omega
        · have HG2 := hide (show takenTo ys b (k + 1) = tk by rw [HTK.out, if_neg (fun h => hbe h.1), List.append_nil])
          clear HTK
          go_wp2
          go_roundw
          case rel => exact ⟨k + 1, by omega, by go_num, hide (by rw [HG2.out]; exact HO.out.below hbx), bnext hbk hbx (Nat.le_refl _)⟩
          case measure => simp [intOf]; omega
      · obtain rfl : k = ys.length := by omega
        have HRT := hide (Own.rd WindowD.enc_len HO.out)
        have HTL := hide (show (takenTo ys b ys.length).length ≤ 1048576 by have := takenTo_len ys b ys.length; have := HL.out; omega)
        have HBK := hide hbk
        clear hlt HO hbk
        go_wp2_with (first
          | (go_at_call 79; (with_reducible refine (impl_GatherWindows_any _ _ HTL.out _ HRT.out).mono ?_); rintro e w4 ⟨u4, rfl, ho4, hb4⟩; have hs4 := hb4.size; have HR4 := hide (Own.rd WindowD.enc_len ho4); clear ho4)
          | (go_at_call 78; (with_reducible refine (impl_OtherWindows_any _ _ _ HR4.out (gather_ok _).1 (gather_ok _).2).mono ?_); rintro e w5 ⟨u5, rfl, ho5, hb5⟩))
        have HO5 := hide (ho5.mono (base' := w.heap.size) (Nat.le_trans HBK.out.size hs4))
        have HB5 := hide (bnext (bnext HBK.out hb4 (Nat.le_refl _)) hb5 (Nat.le_refl _))
        clear ho5 hb5 hb4
        go_wp2
        go_ret
        exact ⟨_, rfl, by rw [HFR.out]; exact HO5.out, HB5.out⟩
  all_goals
    have HFR := hide (show freeL bs ys b = [] by unfold freeL; rw [if_neg (by simp [*])])
    go_enter Try.func44, Try.ntmps44
    go_wp2_with (first
      | (go_at_call 27; (with_reducible refine (impl_BerthsOk_any _ bs _ HR1.out HOKB.out).mono ?_); rintro e w1 ⟨rfl, hb1⟩)
      | (go_at_call 72; refine (isIndexB _ _ ((bs.length : Int) - 1) _ (by omega)).mono ?_; rintro e wq ⟨rfl, hwq⟩; obtain rfl := hwq.symm))
    go_ret
    exact ⟨_, rfl, by rw [HFR.out]; exact Own.nil_, hb1⟩
end Go.Proofs.Ytjfppjhlkeopnaa
