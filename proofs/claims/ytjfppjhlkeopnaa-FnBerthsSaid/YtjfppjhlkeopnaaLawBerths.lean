/- The law FnBerths: for every row of bytes it returns true and leaves its argument as it was. No condition. -/
import Derived.Test.YtjfppjhlkeopnaaAskDraw
import Derived.Test.YtjfppjhlkeopnaaBerL
import Derived.Test.YtjfppjhlkeopnaaFreeW
import Derived.Test.YtjfppjhlkeopnaaCntW
import Derived.Test.YtjfppjhlkeopnaaLaw2
import Derived.Deep.DeepCutAuto
namespace Go.Proofs.Ytjfppjhlkeopnaa
open Go.RowKit Go.WideShapes Go.ChangeShapes Go.ChangeAt Go.Joins Go.Deep
set_option linter.unusedVariables false
theorem calls_boolQ {P : Program} {f : FuncId} {args : Array Value} {w : World} {R : World → Prop} {b c : Bool} (h : Calls P f args w fun e w' => e = .returned (.bool b) ∧ R w') (hb : b = c) : Calls P f args w fun e w' => e = .returned (.bool c) ∧ R w' := hb ▸ h
theorem stays_wf {bs : List BerthD} {fl : List ShipD} {ys : List StayD} (h : staysOk bs fl ys = true) (hb : bs.length ≤ 4) (hf : fl.length ≤ 6) : ∀ x ∈ ys, x.ok := by
  intro x hx
  obtain ⟨i, hi, rfl⟩ := List.getElem_of_mem hx
  obtain ⟨h1, h2, -⟩ := (stays_row h).2.2 i hi
  have hs : 0 ≤ ys[i].ship ∧ ys[i].ship ≤ (fl.length : Int) - 1 := by
    unfold staysOk at h
    simp only [Bool.and_eq_true, decide_eq_true_eq, allUpTo_iff] at h
    have hr := h.2 i hi
    unfold stayRow stayFit at hr
    rw [getD_at hi] at hr
    simp only [Bool.and_eq_true] at hr
    have := hr.1.1.1.1
    simp [inB] at this
    omega
  exact ⟨i64_wf (by omega) (by omega), i64_wf (by omega) (by omega), i64_wf (by omega) (by omega), i64_wf (by omega) (by omega)⟩
theorem allot_facts (bs : List BerthD) (fl : List ShipD) (asks : List StayD) (hb : berthsOk bs = true) (ha : asks.length ≤ 3) (hbl : bs.length ≤ 4) (hfl : fl.length ≤ 6) : ∃ (o : Bool) (ys : List StayD), (allotBerths bs fl asks).isSome = o ∧ (allotBerths bs fl asks).getD [] = ys ∧ StaysAre bs fl ys ∧ AsAsked asks ys ∧ ys.length ≤ asks.length ∧ ((o = true ∧ staysOk bs fl ys = true ∧ ys.length = asks.length) ∨ (o = false ∧ ys = [])) ∧ (∀ x ∈ ys, x.ok) ∧ (∀ i (h : i < ys.length), 0 ≤ ys[i].start ∧ ys[i].start < ys[i].fin ∧ ys[i].fin ≤ 2880) ∧ ∀ k, k ≤ ys.length → 0 ≤ sumTo ys k ∧ sumTo ys k ≤ 8640 := by
  cases hq : allotBerths bs fl asks with
  | none => exact ⟨false, [], rfl, rfl, .inr ⟨rfl, hb⟩, fun i hi => by simp at hi, by simp, .inr ⟨rfl, rfl⟩, fun x hx => by simp at hx, fun i hi => by simp at hi, fun k hk => (by obtain rfl : k = 0 := (by simpa using hk); simp [sumTo])⟩
  | some ys =>
    obtain ⟨h1, h2, h3⟩ := allot_sound hq
    refine ⟨true, ys, rfl, rfl, .inl h2, h1, by omega, .inl ⟨rfl, h2, h3⟩, stays_wf h2 hbl hfl, fun i hi => ((stays_row h2).2.2 i hi).2.1, fun k hk => ?_⟩
    have := sum_range h2 k hk
    omega
theorem rdStay_nil (w : World) (B : Nat) : RdB w B 4 StayD.enc (.slice none 0 0) [] := ⟨none, 0, rfl, Nat.le_refl _, by unfold maxLen; omega, fun h => absurd h (by simp)⟩
set_option maxRecDepth 100000 in
set_option maxHeartbeats 32000000 in
theorem FnBerths_walk (w : World) (v : Value) (bs : List Int) (h : RdB w w.heap.size 1 enc8 v bs) (hby : Byt bs) :
    Calls Try.prog 12 #[v] w fun e w' => e = .returned (.bool true) ∧ Below w.heap.size w w' := by
  have HR := hide h; have HBY := hide hby; clear hby
  obtain ⟨A0, c0, rfl, hc0, hm0, -⟩ := h
  unfold maxLen at hm0
  go_enter Try.func12, Try.ntmps12
  by_cases hbig : (1048576 : Int) < (bs.length : Int)
  · go_wp2_with fail
    go_ret
    exact ⟨rfl, (by repeat (first | exact Below.refl _ _ | assumption | refine Below.setCell ?_ (by first | omega | (simp <;> omega)) _ | refine Below.alloc ?_ (by first | omega | (simp <;> omega)) _ | refine below_drewN ?_ _ | refine Below.drew ?_ | refine Below.trans ?_ (Below.mono (by assumption) (by first | omega | (simp <;> omega)))))⟩
  have hbig' : (bs.length : Int) ≤ 1048576 := by omega
  have HN := hide (show bs.length ≤ 1048576 by omega)
  clear hbig
  go_wp2_with fail
  refine (MakeAsks_any _ bs _ HR.out HBY.out HN.out).mono ?_
  rintro e w1 ⟨v1, v2, v3, n, xs, fl, asks, rfl, ho1, ho2, ho3, ⟨hn3, hxl, hbe⟩, ⟨hf0, hf1, hfl⟩, ha3, hb1⟩
  subst hxl
  have HR1 := hide (show RdBerth w1 v1 xs from Own.rd BerthD.enc_len ho1)
  have HR2 := hide (show RdShip w1 v2 fl from Own.rd ShipD.enc_len ho2)
  have HR3 := hide (show RdStay w1 v3 asks from Own.rd StayD.enc_len ho3)
  have HSZ := hide (hbe.size hn3); have HBO := hide (hbe.ok hn3 (Nat.le_refl _)); have HFW := hide (hfl.wf (by omega)); have HFO := hide (hfl.ok (by omega)); have HB1 := hide hb1
  obtain ⟨A1, c1, rfl, hc1, hm1, -⟩ := HR1.out
  obtain ⟨A2, c2, rfl, hc2, hm2, -⟩ := HR2.out
  obtain ⟨A3, c3, rfl, hc3, hm3, -⟩ := HR3.out
  unfold maxLen at hm1 hm2 hm3
  clear ho1 ho2 ho3 hbe hfl hb1
  obtain ⟨o, ys, hoe, hys, hsa, haa, hyl, hor, hyo, hrng, hsum⟩ := allot_facts xs fl asks HBO.out ha3 (by omega) (by omega)
  have HSA := hide hsa; have HAA := hide haa; have HRG := hide hrng; have HSM := hide hsum; have HOR := hide hor; have HYO := hide hyo
  clear hsa haa hrng hsum hor hyo
  go_wp2_with fail
  refine (impl_AllotBerths_any _ _ _ xs fl asks _ HR1.out HR2.out HR3.out HSZ.out HFW.out).mono ?_
  rintro e w2 ⟨v4, rfl, ho4, hb2⟩
  rw [hys] at ho4
  rw [hoe]
  have HR4 := hide (show RdStay w2 v4 ys from Own.rd StayD.enc_len ho4)
  obtain ⟨A4, c4, rfl, hc4, hm4, -⟩ := HR4.out
  unfold maxLen at hm4
  have s2 := hb2.size
  have HK1 := hide (show ∀ w', Below w2.heap.size w2 w' → RdBerth w' (.slice A1 xs.length c1) xs from fun w' hB => (((HR1.out.keep hb2 (Nat.le_refl _)).mono s2).keep hB (Nat.le_refl _)).mono hB.size)
  have HK2 := hide (show ∀ w', Below w2.heap.size w2 w' → RdShip w' (.slice A2 fl.length c2) fl from fun w' hB => (((HR2.out.keep hb2 (Nat.le_refl _)).mono s2).keep hB (Nat.le_refl _)).mono hB.size)
  have HK4 := hide (show ∀ w', Below w2.heap.size w2 w' → RdStay w' (.slice A4 ys.length c4) ys from fun w' hB => (HR4.out.keep hB (Nat.le_refl _)).mono hB.size)
  have HR13 := hide (show RdStay w2 (.slice A3 asks.length c3) asks from (HR3.out.keep hb2 (Nat.le_refl _)).mono s2)
  have HBW := hide (show Below w.heap.size w w2 from HB1.out.trans (hb2.mono HB1.out.size))
  clear ho4 hoe hys hb2
  have hxl4 : xs.length ≤ 3 := by omega
  have hyl3 : ys.length ≤ 3 := by omega
  go_upto_region 5 with fail
  go_cut [59] (fun s wx => s = .bool false ∧ Hid (Below w2.heap.size w2 wx))
  case first =>
    rcases HOR.out with ⟨rfl, hso, hle⟩ | ⟨rfl, rfl⟩
    · have HSO := hide hso
      have hle' : ((ys.length : Int) != (asks.length : Int)) = false := by rw [hle]; simp
      clear hso hle
      go_wp2_with (first
        | (go_at_call 27; (with_reducible refine (calls_boolQ (impl_BerthsOk_any _ xs _ (HK1.out _ (Below.refl _ _)) HSZ.out) HBO.out).mono ?_); rintro e w3 ⟨rfl, hb3⟩)
        | (go_at_call 39; (with_reducible refine (calls_boolQ (impl_StaysOk_any _ _ _ xs fl ys _ (HK1.out _ hb3) (HK2.out _ hb3) (HK4.out _ hb3) HSZ.out HFW.out) HSO.out).mono ?_); rintro e w4 ⟨rfl, hb4⟩))
      go_meet
      exact ⟨by first | rfl | simp [hle'], hide (bnext hb3 hb4 (Nat.le_refl _))⟩
    · go_wp2_with (go_at_call 27; (with_reducible refine (calls_boolQ (impl_BerthsOk_any _ xs _ (HK1.out _ (Below.refl _ _)) HSZ.out) HBO.out).mono ?_); rintro e w3 ⟨rfl, hb3⟩)
      go_meet
      exact ⟨by first | rfl | simp, hide hb3⟩
  case rest =>
    obtain ⟨rfl, HB3⟩ := hcut
    clear HOR
    go_wp2_with fail
    go_loopw [8, 62] (fun al i wr => ∃ k : Nat, k ≤ ys.length ∧ i = .int .i64 k ∧ al = .int .i64 (sumTo ys k) ∧ Hid (Below w2.heap.size w2 wr)) (fun _ i _ => ys.length - (intOf i).toNat)
    case atStart => exact ⟨0, Nat.zero_le _, rfl, rfl, HB3⟩
    case round =>
      clear HB3
      obtain ⟨k, hk, rfl, rfl, HB⟩ := hrel
      obtain ⟨wo, rfl⟩ : ∃ wo : World, wo = wr := ⟨_, rfl⟩
      have hbk := HB.out
      have hsk := HSM.out k hk
      by_cases hlt : k < ys.length
      · have hlt' : (k : Int) < ys.length := by omega
        have hlt3 : k < asks.length := by omega
        have hlt3' : (k : Int) < asks.length := by omega
        obtain ⟨A4x, c4x, ee4, -, -, h4⟩ := HR4.out
        obtain ⟨b4, o4, e4x, hb4, hcell4⟩ := h4 (by omega)
        obtain ⟨rfl, rfl⟩ : A4 = A4x ∧ c4 = c4x := by injection ee4 with q1 q2 q3; exact ⟨q1, q3⟩
        subst e4x
        obtain ⟨A3x, c3x, ee3, -, -, h3⟩ := HR13.out
        obtain ⟨b3, o3, e3x, hb3, hcell3⟩ := h3 (by omega)
        obtain ⟨rfl, rfl⟩ : A3 = A3x ∧ c3 = c3x := by injection ee3 with q1 q2 q3; exact ⟨q1, q3⟩
        subst e3x
        have e0 : wo.cell? ⟨b4, o4 + k * 4, none⟩ = some (.int .i64 ys[k].ship) := by
          rw [hbk.cell (p := ⟨b4, _, none⟩) hb4]; have := hcell4 k ys[k] (List.getElem?_eq_getElem hlt) 0 _ rfl; simpa using this
        have e1 : wo.cell? ⟨b4, o4 + k * 4 + 1, none⟩ = some (.int .i64 ys[k].berth) := by
          rw [hbk.cell (p := ⟨b4, _, none⟩) hb4]; have := hcell4 k ys[k] (List.getElem?_eq_getElem hlt) 1 _ rfl; simpa using this
        have e2 : wo.cell? ⟨b4, o4 + k * 4 + 2, none⟩ = some (.int .i64 ys[k].start) := by
          rw [hbk.cell (p := ⟨b4, _, none⟩) hb4]; have := hcell4 k ys[k] (List.getElem?_eq_getElem hlt) 2 _ rfl; simpa using this
        have e3 : wo.cell? ⟨b4, o4 + k * 4 + 3, none⟩ = some (.int .i64 ys[k].fin) := by
          rw [hbk.cell (p := ⟨b4, _, none⟩) hb4]; have := hcell4 k ys[k] (List.getElem?_eq_getElem hlt) 3 _ rfl; simpa using this
        have q0 : wo.cell? ⟨b3, o3 + k * 4, none⟩ = some (.int .i64 asks[k].ship) := by
          rw [hbk.cell (p := ⟨b3, _, none⟩) hb3]; have := hcell3 k asks[k] (List.getElem?_eq_getElem hlt3) 0 _ rfl; simpa using this
        have q1 : wo.cell? ⟨b3, o3 + k * 4 + 1, none⟩ = some (.int .i64 asks[k].berth) := by
          rw [hbk.cell (p := ⟨b3, _, none⟩) hb3]; have := hcell3 k asks[k] (List.getElem?_eq_getElem hlt3) 1 _ rfl; simpa using this
        have q2 : wo.cell? ⟨b3, o3 + k * 4 + 2, none⟩ = some (.int .i64 asks[k].start) := by
          rw [hbk.cell (p := ⟨b3, _, none⟩) hb3]; have := hcell3 k asks[k] (List.getElem?_eq_getElem hlt3) 2 _ rfl; simpa using this
        have q3 : wo.cell? ⟨b3, o3 + k * 4 + 3, none⟩ = some (.int .i64 asks[k].fin) := by
          rw [hbk.cell (p := ⟨b3, _, none⟩) hb3]; have := hcell3 k asks[k] (List.getElem?_eq_getElem hlt3) 3 _ rfl; simpa using this
        have ha := HAA.out k hlt
        rw [getD_at hlt3] at ha
        rw [← ha.1] at q0
        rw [← ha.2.1] at q2
        rw [← ha.2.2] at q3
        have hrg := HRG.out k hlt
        have hst : sumTo ys (k + 1) = sumTo ys k + ys[k].fin - ys[k].start := by rw [sumTo, getD_at hlt]
        obtain ⟨x, hxe⟩ : ∃ x, ys[k] = x := ⟨_, rfl⟩
        rw [hxe] at e0 e1 e2 e3 q0 q2 q3 hrg hst
        obtain ⟨sk, hske⟩ : ∃ z, sumTo ys k = z := ⟨_, rfl⟩
        rw [hske] at hst hsk ⊢
        have HST := hide hst
        clear hxe hske ha hcell4 hcell3 h4 h3 ee4 ee3 hst q1
        obtain ⟨x0, x1, x2, x3⟩ := x
        simp only at e0 e1 e2 e3 q0 q2 q3 hrg HST
        have hw1 : IntKind.i64.wrap (sk + x3) = sk + x3 := IntWalk.i64_in _ (by omega)
        have hw2 : IntKind.i64.wrap (sk + x3 - x2) = sk + x3 - x2 := IntWalk.i64_in _ (by omega)
        go_upto_region 11 with fail
        obtain ⟨W1, hW1⟩ : ∃ W, wo.alloc (.cells #[.int .i64 x0, .int .i64 x1, .int .i64 x2, .int .i64 x3] 97) = W := ⟨_, rfl⟩
        have f0 : W1.cell? ⟨wo.heap.size, 0, none⟩ = some (.int .i64 x0) := by rw [← hW1]; simp [go_sem]
        have f2 : W1.cell? ⟨wo.heap.size, 2, none⟩ = some (.int .i64 x2) := by rw [← hW1]; simp [go_sem]
        have f3 : W1.cell? ⟨wo.heap.size, 3, none⟩ = some (.int .i64 x3) := by rw [← hW1]; simp [go_sem]
        have hl1 : wo.heap.size < W1.heap.size := by rw [← hW1]; simp
        have hbx : Below wo.heap.size wo W1 := by rw [← hW1]; exact (Below.refl _ _).alloc (Nat.le_refl _) _
        have hb3o : b3 < wo.heap.size := Nat.lt_of_lt_of_le hb3 hbk.size
        have g0 := cellKeep hbx q0 hb3o; have g2 := cellKeep hbx q2 hb3o; have g3 := cellKeep hbx q3 hb3o
        have HB2 := hide (bnext hbk hbx (Nat.le_refl _))
        rw [hW1]
        clear hW1 e0 e1 e2 e3 q0 q2 q3 hbx hbk HB
        obtain ⟨G, hG⟩ : ∃ G, wo.heap.size = G := ⟨_, rfl⟩
        rw [hG] at f0 f2 f3 hl1 hb3o ⊢
        clear hG
        have hb31 : b3 < W1.heap.size := by omega
        refine wp_region_below (Below.refl W1.heap.size W1) (by kernel_rfl) (by kernel_rfl) ?_
        repeat (first
          | go_big_quiet_skip
          | (go_big_quiet_want
             first
              | (refine quiet_value ?_; apply Exists.intro
                 refine ⟨fun wq hq => ?_, ?_⟩
                 · (obtain ⟨hc, hf⟩ := bcell hq; go_simp; first | done | rfl)
                 go_big_quiet_on
                 simp only [Act.put, List.setIfInBounds_toArray, List.set_cons_zero, List.set_cons_succ])
              | (go_big_quiet_op; go_big_quiet_on)
             ))
        refine wpQuiet_nil (fun w5 hb5 => ?_)
        have f2' := cellKeep hb5 f2 hl1; have f3' := cellKeep hb5 f3 hl1
        have HB5 := hide (bnext HB2.out hb5 (Nat.le_refl _))
        clear f0 f2 f3 g0 g2 g3
        go_wp2
        go_roundw
        case rel => exact ⟨k + 1, by omega, by go_num, by rw [HST.out], HB5⟩
        case measure => simp [intOf]; omega
      · obtain rfl : k = ys.length := by omega
        have HSU := hide (show loadsTo ys xs.length = sumTo ys ys.length from HSA.out.sum)
        obtain ⟨al, hal⟩ : ∃ z, sumTo ys ys.length = z := ⟨_, rfl⟩
        rw [hal] at HSU hsk ⊢
        clear hlt hal hbk
        go_wp2_with fail
        go_loopw [11, 12, 105] (fun f t i wr => ∃ m : Nat, m ≤ xs.length ∧ i = .int .i64 m ∧ f = .int .i64 (freeTo xs ys m) ∧ t = .int .i64 (loadsTo ys m) ∧ Hid (Below w2.heap.size w2 wr)) (fun _ _ i _ => xs.length - (intOf i).toNat)
        case atStart => exact ⟨0, Nat.zero_le _, rfl, rfl, rfl, HB⟩
        case round =>
          clear HB
          obtain ⟨m, hm, rfl, rfl, rfl, HB⟩ := hrel
          rename_i wr
          obtain ⟨wi, rfl⟩ : ∃ wi : World, wi = wr := ⟨_, rfl⟩
          have hfr := HSA.out.free m hm
          have hlr := loads_range (ys := ys) (by omega) m
          by_cases hlt : m < xs.length
          · have hlt' : (m : Int) < xs.length := by omega
            have hld := HSA.out.load hlt
            have hlb := loadTo_range ys (m : Nat) ys.length
            have hfs : freeTo xs ys (m + 1) = freeTo xs ys m + cntW (freeL xs ys (m : Nat)) := rfl
            have hls : loadsTo ys (m + 1) = loadsTo ys m + berthLoad ys (m : Nat) := rfl
            have HWO := hide hld.2
            have hl1 := hld.1
            have hl2 : 0 ≤ berthLoad ys (m : Nat) ∧ berthLoad ys (m : Nat) ≤ 2880 * ys.length := hlb
            obtain ⟨ff, hff⟩ : ∃ z, freeTo xs ys m = z := ⟨_, rfl⟩
            obtain ⟨ll, hll⟩ : ∃ z, loadsTo ys m = z := ⟨_, rfl⟩
            obtain ⟨cc, hcc⟩ : ∃ z, cntW (freeL xs ys (m : Nat)) = z := ⟨_, rfl⟩
            obtain ⟨bb, hbb⟩ : ∃ z, berthLoad ys (m : Nat) = z := ⟨_, rfl⟩
            rw [hff] at hfs hfr ⊢
            rw [hll] at hls hfr hlr ⊢
            rw [hcc] at hfs hl1
            rw [hbb] at hls hl1 hl2
            have HFS := hide hfs; have HLS := hide hls; have HCC := hide hcc; have HBB := hide hbb
            clear hff hll hcc hbb hfs hls hld hlb
            have hw1 : IntKind.i64.wrap (ff + cc) = ff + cc := IntWalk.i64_in _ (by omega)
            have hw2 : IntKind.i64.wrap (ll + bb) = ll + bb := IntWalk.i64_in _ (by omega)
            go_wp2_with (first
              | (go_at_call 44; (with_reducible refine (impl_FreeTimes_any _ _ xs ys m _ (HK1.out _ HB.out) (HK4.out _ HB.out) HSZ.out HYO.out (by omega)).mono ?_); rintro e w6 ⟨v6, rfl, ho6, hb6⟩; have HR6 := hide (Own.rd WindowD.enc_len ho6); have HB6 := hide (bnext HB.out hb6 (Nat.le_refl _)); clear ho6 hb6)
              | (go_at_call 55; (with_reducible refine (impl_CountMinutes_any _ (freeL xs ys (m : Nat)) _ HR6.out HWO.out).mono ?_); rintro e w7 ⟨rfl, hb7⟩; rw [HCC.out]; have HB7 := hide (bnext HB6.out hb7 (Nat.le_refl _)); clear hb7)
              | (go_at_call 22; (with_reducible refine (impl_BerthLoad_any _ ys m _ (HK4.out _ HB7.out) (by omega)).mono ?_); rintro e w8 ⟨rfl, hb8⟩; rw [HBB.out]; have HB8 := hide (bnext HB7.out hb8 (Nat.le_refl _)); clear hb8))
            go_roundw
            case rel => exact ⟨m + 1, by omega, by go_num, by rw [HFS.out], by rw [HLS.out], HB8⟩
            case measure => simp [intOf]; omega
          · obtain rfl : m = xs.length := by omega
            rw [HSU.out] at hfr hlr ⊢
            obtain ⟨ff, hff⟩ : ∃ z, freeTo xs ys xs.length = z := ⟨_, rfl⟩
            rw [hff] at hfr ⊢
            clear hff hlt
            have hfr2 : ff + al = (xs.length : Int) * 2881 := by omega
            have hw1 : IntKind.i64.wrap (ff + al) = (xs.length : Int) * 2881 := by rw [hfr2]; exact IntWalk.i64_in _ (by omega)
            have hw2 : IntKind.i64.wrap ((xs.length : Int) * 2881) = (xs.length : Int) * 2881 := IntWalk.i64_in _ (by omega)
            have HFF := hide (fun k h1 h2 => @find_fits xs fl k h1 h2)
            obtain ⟨fk, hfk⟩ : ∃ z, findBerth xs fl [] 0 10 20 = z := ⟨_, rfl⟩
            have HFK := hide hfk
            go_wp2_with (go_at_call 42; (with_reducible refine (impl_FindBerth_any _ _ _ xs fl [] 0 10 20 _ (HK1.out _ HB.out) (HK2.out _ HB.out) (rdStay_nil _ _) HSZ.out HFW.out).mono ?_); rintro e w6 ⟨rfl, hb6⟩; rw [HFK.out]; have HB6 := hide (bnext HB.out hb6 (Nat.le_refl _)); clear hb6)
            clear hfr hfr2
            by_cases hneg : fk < 0
            · clear HFF hfk HFK
              refine wp_region_below (Below.refl w6.heap.size w6) (by kernel_rfl) (by kernel_rfl) ?_
              repeat (first
                | go_big_quiet_skip
                | (go_big_quiet_want
                   first
                    | (refine quiet_value ?_; apply Exists.intro
                       refine ⟨fun wq hq => ?_, ?_⟩
                       · (obtain ⟨hc, hf⟩ := bcell hq; go_simp; first | done | rfl)
                       go_big_quiet_on
                       simp only [Act.put, List.setIfInBounds_toArray, List.set_cons_zero, List.set_cons_succ])
                    | (go_big_quiet_op; go_big_quiet_on)
                   ))
              refine wpQuiet_nil (fun w7 hb7 => ?_)
              have HB7 := hide (bnext HB6.out hb7 (Nat.le_refl _))
              go_wp2
              go_ret
              exact ⟨by first | rfl | simp [*], HBW.out.trans (HB7.out.mono HBW.out.size)⟩
            · obtain ⟨b, rfl, hbl, hfit⟩ := HFF.out fk hfk (by omega)
              have hbl' : (b : Int) < xs.length := by omega
              have hf0' : (0 : Int) < fl.length := by omega
              rw [getD_at hbl, getD_at (show 0 < fl.length by omega)] at hfit
              obtain ⟨A1x, c1x, ee1, -, -, h1⟩ := HK1.out _ HB6.out
              obtain ⟨b1, o1, e1x, hb1, hcell1⟩ := h1 (by omega)
              obtain ⟨rfl, rfl⟩ : A1 = A1x ∧ c1 = c1x := by injection ee1 with q1 q2 q3; exact ⟨q1, q3⟩
              subst e1x
              obtain ⟨A2x, c2x, ee2, -, -, h2⟩ := HK2.out _ HB6.out
              obtain ⟨b2, o2, e2x, hb2, hcell2⟩ := h2 (by omega)
              obtain ⟨rfl, rfl⟩ : A2 = A2x ∧ c2 = c2x := by injection ee2 with q1 q2 q3; exact ⟨q1, q3⟩
              subst e2x
              have hb66 := Below.refl w6.heap.size w6
              have hf0n : 0 < fl.length := by omega
              have e0 : w6.cell? ⟨b1, o1 + b * 3, none⟩ = some (.string xs[b].name) := by
                rw [hb66.cell (p := ⟨b1, _, none⟩) hb1]; have := hcell1 b xs[b] (List.getElem?_eq_getElem hbl) 0 _ rfl; simpa using this
              have e1 : w6.cell? ⟨b1, o1 + b * 3 + 1, none⟩ = some (.int .i64 xs[b].length) := by
                rw [hb66.cell (p := ⟨b1, _, none⟩) hb1]; have := hcell1 b xs[b] (List.getElem?_eq_getElem hbl) 1 _ rfl; simpa using this
              have e2 : w6.cell? ⟨b1, o1 + b * 3 + 2, none⟩ = some (.int .i64 xs[b].depth) := by
                rw [hb66.cell (p := ⟨b1, _, none⟩) hb1]; have := hcell1 b xs[b] (List.getElem?_eq_getElem hbl) 2 _ rfl; simpa using this
              have q0 : w6.cell? ⟨b2, o2 + 0 * 6, none⟩ = some (.string fl[0].name) := by
                rw [hb66.cell (p := ⟨b2, _, none⟩) hb2]; have := hcell2 0 fl[0] (List.getElem?_eq_getElem hf0n) 0 _ rfl; simpa using this
              have q1 : w6.cell? ⟨b2, o2 + 0 * 6 + 1, none⟩ = some (.int .i64 fl[0].length) := by
                rw [hb66.cell (p := ⟨b2, _, none⟩) hb2]; have := hcell2 0 fl[0] (List.getElem?_eq_getElem hf0n) 1 _ rfl; simpa using this
              have q2 : w6.cell? ⟨b2, o2 + 0 * 6 + 2, none⟩ = some (.int .i64 fl[0].draught) := by
                rw [hb66.cell (p := ⟨b2, _, none⟩) hb2]; have := hcell2 0 fl[0] (List.getElem?_eq_getElem hf0n) 2 _ rfl; simpa using this
              have q3 : w6.cell? ⟨b2, o2 + 0 * 6 + 3, none⟩ = some (.int .i64 fl[0].line) := by
                rw [hb66.cell (p := ⟨b2, _, none⟩) hb2]; have := hcell2 0 fl[0] (List.getElem?_eq_getElem hf0n) 3 _ rfl; simpa using this
              have q4 : w6.cell? ⟨b2, o2 + 0 * 6 + 4, none⟩ = some (.int .i64 fl[0].tugs) := by
                rw [hb66.cell (p := ⟨b2, _, none⟩) hb2]; have := hcell2 0 fl[0] (List.getElem?_eq_getElem hf0n) 4 _ rfl; simpa using this
              have q5 : w6.cell? ⟨b2, o2 + 0 * 6 + 5, none⟩ = some (.bool fl[0].slow) := by
                rw [hb66.cell (p := ⟨b2, _, none⟩) hb2]; have := hcell2 0 fl[0] (List.getElem?_eq_getElem hf0n) 5 _ rfl; simpa using this
              have hns := (HFW.out fl[0] (List.getElem_mem hf0n)).2.2.2.2
              obtain ⟨x, hxe⟩ : ∃ x, xs[b] = x := ⟨_, rfl⟩
              obtain ⟨y, hye⟩ : ∃ y, fl[0] = y := ⟨_, rfl⟩
              rw [hxe] at e0 e1 e2 hfit
              rw [hye] at q0 q1 q2 q3 q4 q5 hfit hns
              have HFI := hide hfit; have HNS := hide hns
              clear HFF hfk HFK hcell1 hcell2 h1 h2 ee1 ee2 hxe hye hfit hns hb66
              obtain ⟨x0, x1, x2⟩ := x
              obtain ⟨y0, y1, y2, y3, y4, y5⟩ := y
              simp only at e0 e1 e2 q0 q1 q2 q3 q4 q5 HFI HNS
              simp only [Nat.zero_mul, Nat.add_zero] at q0 q1 q2 q3 q4 q5
              have hneg' : ((b : Int) < 0) = False := eq_false hneg
              refine wp_region_below (Below.refl w6.heap.size w6) (by kernel_rfl) (by kernel_rfl) ?_
              repeat (first
                | go_big_quiet_skip
                | (go_big_quiet_want
                   first
                    | (refine quiet_value ?_; apply Exists.intro
                       refine ⟨fun wq hq => ?_, ?_⟩
                       · (obtain ⟨hc, hf⟩ := bcell hq; go_simp; first | done | rfl)
                       go_big_quiet_on
                       simp only [Act.put, List.setIfInBounds_toArray, List.set_cons_zero, List.set_cons_succ])
                    | (refine quiet_call ?_; apply Exists.intro; apply Exists.intro; apply Exists.intro
                       refine ⟨fun wq hq => ?_, fun wq hq => ?_, ?_⟩
                       · (obtain ⟨hc, hf⟩ := bcell hq; go_simp; exact ⟨rfl, rfl⟩)
                       · (first | with_reducible exact (calls_boolQ (impl_FitsBerth_any ⟨x0, x1, x2⟩ ⟨y0, y1, y2, y3, y4, y5⟩ _ HNS.out) HFI.out).mono fun e w'' ⟨he, hw⟩ => ⟨he, hw ▸ hq⟩ | with_reducible exact (calls_boolQ (impl_FitsBerth_any ⟨x0, x1, x2⟩ ⟨y0, y1, y2, y3, y4, y5⟩ _ HNS.out) HFI.out).mono fun e w'' ⟨he, hb'⟩ => ⟨he, bnext hq hb'⟩ |  exact (calls_boolQ (impl_FitsBerth_any ⟨x0, x1, x2⟩ ⟨y0, y1, y2, y3, y4, y5⟩ _ HNS.out) HFI.out).mono fun e w'' ⟨he, hb'⟩ => ⟨he, bnext hq hb'⟩ |  exact (calls_boolQ (impl_FitsBerth_any ⟨x0, x1, x2⟩ ⟨y0, y1, y2, y3, y4, y5⟩ _ HNS.out) HFI.out).mono fun e w'' ⟨he, hw⟩ => ⟨he, hw ▸ hq⟩)
                       go_big_quiet_on
                       simp only [Act.put, List.setIfInBounds_toArray, List.set_cons_zero, List.set_cons_succ])
                    | (go_big_quiet_op; go_big_quiet_on)
                   ))
              refine wpQuiet_nil (fun w7 hb7 => ?_)
              have HB7 := hide (bnext HB6.out hb7 (Nat.le_refl _))
              go_wp2
              go_ret
              exact ⟨by first | rfl | simp [*], HBW.out.trans (HB7.out.mono HBW.out.size)⟩
namespace fnBerths
set_option maxRecDepth 100000 in
theorem lifted (os : Os) (started : os.Started) (H : Type) (enc : TypeId × Value → H) :
    ReturnsInHanded {} Try.checked os 12 .any (Rows.fnBerthsSpec.pre6 enc Try.prog Try.f12 Rows.fnBerthsRow.domain false) (Rows.fnBerthsSpec.post enc Try.prog Try.f12 false true false false) := by
  refine returnsInHanded_of_change (C := Try.checked) own started (by kernel_rfl) Try.func12
    (ChangeSpec.witness6 (enc := enc) (C := Try.checked) false ⟨#[], #[.slice none 0 0], []⟩ 8 (by kernel_rfl) (by kernel_rfl) (by kernel_rfl) (by kernel_rfl)) ?_
  intro W base args ds gs before hval0 hW hcnd _
  have hval : ∀ (j : Nat) t v, Try.f12.params[j]? = some t → args[j]? = some v → Value.okWide Try.prog W .any base t v := hval0
  have hW' := hW
  obtain ⟨p, q, hA0, hV, hbef, hfz, hnd⟩ := hW
  have hA : DataW.TrodAll enc Try.prog W 0 (fun _ => true) true Try.f12.params.toList args.toList ds p := hA0
  rw [Try.params12] at hA hval
  obtain ⟨v0, vs0, d0, ds0, p0, q0, hargs, rfl, hp0, h0, r0⟩ := trodAll_cons hA
  obtain ⟨rfl, rfl, hpn⟩ := trodAll_nil r0
  obtain rfl : args = #[v0] := by cases args; simp_all
  obtain ⟨rfl, rfl⟩ := trodVars_none hV
  obtain ⟨a0, g0, w0⟩ := open_rows8 Try.underlying50 Try.underlying5 (by kernel_rfl) (hval 0 50 v0 rfl rfl) h0
  refine (FnBerths_walk W _ a0 g0 w0).mono fun e W' ⟨he, hg⟩ => ?_
  subst he
  exact ⟨_, rfl, post_law laidOut (by kernel_rfl) rfl Try.underlying4 rfl ⟨rfl, rfl, rfl⟩ hW' hg⟩
theorem proved : Rows.FnBerthsSaid :=
  OpenClaim.holds_of_wide 12 Try.f12 rfl rfl rfl rfl rfl rfl rfl ⟨rfl, rfl, rfl, rfl, rfl⟩ rfl rfl rfl rfl rfl (by kernel_rfl) Try.func12 (by kernel_rfl)
    (of_decide_eq_true (by kernel_rfl)) (by unfold Func.isWrapper; first | (rw [if_pos (by decide +kernel)]; kernel_rfl) | (rw [if_neg (by decide +kernel)]; exact ⟨rfl, rfl⟩))
    (fun os started H enc _ => lifted os started H enc)
end fnBerths
end Go.Proofs.Ytjfppjhlkeopnaa
