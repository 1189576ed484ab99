/- The law FnConflicts: for every row of bytes it returns true and leaves its argument as it was. No condition. -/
import Derived.Test.YtefidlecandnlaaBytes
import Derived.Test.YtefidlecandnlaaConfPL
import Derived.Test.YtefidlecandnlaaMakeT
import Derived.Test.YtefidlecandnlaaScal
import Derived.Test.YtefidlecandnlaaLaw2
import Derived.Deep.DeepCutAuto
namespace Go.Proofs.Ytefidlecandnlaa
open Go.RowKit Go.WideShapes Go.ChangeShapes Go.ChangeAt Go.Joins Go.Deep
set_option linter.unusedVariables false
theorem RdB.sub {α : Type} {w : World} {B sz b o c : Nat} {enc : α → List Value} {xs : List α} (h : RdB w B sz enc (.slice (some ⟨b, o, none⟩) xs.length c) xs) {i m : Nat} (hi : i + m ≤ xs.length) : RdB w B sz enc (.slice (some ⟨b, o + i * sz, none⟩) m (c - i)) ((xs.drop i).take m) := by
  obtain ⟨A, c', e, hc, hm, hcell⟩ := h
  obtain ⟨rfl, rfl⟩ : A = some ⟨b, o, none⟩ ∧ c = c' := by injection e with e1 _ e3; exact ⟨e1.symm, e3⟩
  have hl : ((xs.drop i).take m).length = m := by simp; omega
  refine ⟨_, c - i, by rw [hl], by rw [hl]; omega, by omega, fun h0 => ?_⟩
  obtain ⟨b', o', e', hb, hcell⟩ := hcell (by omega)
  have e1 := Option.some.inj e'
  injection e1 with eb eo
  subst eb; subst eo
  refine ⟨b, o + i * sz, rfl, hb, fun k x hk j u hu => ?_⟩
  rw [List.getElem?_take] at hk
  split at hk
  · rw [List.getElem?_drop] at hk
    have := hcell (i + k) x hk j u hu
    rw [show o + i * sz + k * sz + j = o + (i + k) * sz + j by rw [Nat.add_mul]; omega]
    exact this
  · cases hk
theorem calls_intR {P : Program} {f : FuncId} {args : Array Value} {w : World} {R : World → Prop} {b c : Int} (h : Calls P f args w fun e w' => e = .returned (.int .i64 b) ∧ R w') (hb : b = c) : Calls P f args w fun e w' => e = .returned (.int .i64 c) ∧ R w' := hb ▸ h
theorem calls_boolR {P : Program} {f : FuncId} {args : Array Value} {w : World} {R : World → Prop} {b c : Bool} (h : Calls P f args w fun e w' => e = .returned (.bool b) ∧ R w') (hb : b = c) : Calls P f args w fun e w' => e = .returned (.bool c) ∧ R w' := hb ▸ h
theorem cfName_size {n : Int} (h0 : 0 ≤ n) (h1 : n ≤ 4) : (cfName n).toList.isEmpty = false := by
  have : n = 0 ∨ n = 1 ∨ n = 2 ∨ n = 3 ∨ n = 4 := by omega
  rcases this with rfl | rfl | rfl | rfl | rfl <;> (first | rfl | decide +kernel)
theorem regZ {w w' : World} {T : TypeId} (hb : Below (w.alloc (.cells #[.int .i64 0, .bool false] T)).drew.heap.size (w.alloc (.cells #[.int .i64 0, .bool false] T)).drew w') : w'.cell? ⟨w.heap.size, 0, none⟩ = some (.int .i64 0) ∧ w'.cell? ⟨w.heap.size, 1, none⟩ = some (.bool false) ∧ w'.frozen? ⟨w.heap.size, 0, none⟩ = false ∧ w'.frozen? ⟨w.heap.size, 1, none⟩ = false ∧ w.heap.size < w'.heap.size := by
  have hl : w.heap.size < (w.alloc (.cells #[.int .i64 0, .bool false] T)).drew.heap.size := by simp
  exact ⟨cellKeepL hb (by simp [go_sem]) hl, cellKeepL hb (by simp [go_sem]) hl, (hb.frozen (p := ⟨w.heap.size, 0, none⟩) hl).trans (by simp [go_sem]), (hb.frozen (p := ⟨w.heap.size, 1, none⟩) hl).trans (by simp [go_sem]), Nat.lt_of_lt_of_le hl hb.size⟩
set_option maxRecDepth 100000 in
set_option maxHeartbeats 32000000 in
theorem FnConflicts_walk (w : World) (v : Value) (bs : List Int) (h : RdB w w.heap.size 1 enc8 v bs) (hby : Byt bs) :
    Calls Try.prog 14 #[v] w fun e w' => e = .returned (.bool true) ∧ Below w.heap.size w w' := by
  have HR := hide h; have HBY := hide hby; clear hby
  obtain ⟨A0, c0, rfl, hc0, hm0, -⟩ := h
  unfold maxLen at hm0
  go_enter Try.func14, Try.ntmps14
  by_cases hbig : (1048576 : Int) < (bs.length : Int)
  · go_wp2_with fail
    go_ret
    exact ⟨rfl, (by repeat (first | exact Below.refl _ _ | assumption | refine Below.setCell ?_ (by first | omega | (simp <;> omega)) _ | refine Below.alloc ?_ (by first | omega | (simp <;> omega)) _ | refine below_drewN ?_ _ | refine Below.drew ?_ | refine Below.trans ?_ (Below.mono (by assumption) (by first | omega | (simp <;> omega)))))⟩
  have hbig' : (bs.length : Int) ≤ 1048576 := by omega
  have HN := hide (show bs.length ≤ 1048576 by omega)
  clear hbig
  go_wp2_with fail
  refine (MakeTraffic_any _ bs _ HR.out HBY.out HN.out).mono ?_
  rintro e w1 ⟨vp, vs, c, r0, r1, vl, l, rfl, hci, hr0, hr1, hop, hos, hol, hxs, hl5, hb1⟩
  have hcp := hci.parts
  have HCP := hide hcp; have HXS := hide hxs
  have HRC := hide (show RdChart w1 w1.heap.size vp vs c from ⟨Own.rd PointD.enc_len hop, Own.rd SegmentD.enc_len hos⟩)
  have HRL := hide (Own.rd PassageD.enc_len hol)
  obtain ⟨A1, c1, rfl, -, -, -⟩ := HRC.out.1
  obtain ⟨A2, c2, rfl, -, -, -⟩ := HRC.out.2
  obtain ⟨A3, c3, rfl, hc3, hm3, -⟩ := HRL.out
  unfold maxLen at hm3
  clear hop hos hol hxs hci hcp
  go_wp2_with fail
  obtain ⟨W0, hW0⟩ : ∃ W, (w1.alloc (.cells #[.slice A1 c.points.length c1, .slice A2 c.segs.length c2] 34)).alloc (.cells #[.int .i64 r0, .bool r1] 47) = W := ⟨_, rfl⟩
  have hb0 : Below w1.heap.size w1 W0 := by rw [← hW0]; exact (by repeat (first | exact Below.refl _ _ | assumption | refine Below.setCell ?_ (by first | omega | (simp <;> omega)) _ | refine Below.alloc ?_ (by first | omega | (simp <;> omega)) _ | refine below_drewN ?_ _ | refine Below.drew ?_ | refine Below.trans ?_ (Below.mono (by assumption) (by first | omega | (simp <;> omega)))))
  have hl0 : w1.heap.size + 1 < W0.heap.size := by rw [← hW0]; simp
  have z0 : W0.cell? ⟨w1.heap.size, 0, none⟩ = some (.slice A1 c.points.length c1) := by rw [← hW0]; simp [go_sem]
  have z1 : W0.cell? ⟨w1.heap.size, 1, none⟩ = some (.slice A2 c.segs.length c2) := by rw [← hW0]; simp [go_sem]
  have z2 : W0.cell? ⟨w1.heap.size + 1, 0, none⟩ = some (.int .i64 r0) := by rw [← hW0]; simp [go_sem]
  have z3 : W0.cell? ⟨w1.heap.size + 1, 1, none⟩ = some (.bool r1) := by rw [← hW0]; simp [go_sem]
  rw [hW0]
  clear hW0
  have hbw0 : Below w.heap.size w W0 := hb1.trans (hb0.mono hb1.size)
  have s1 := hb1.size
  have hwW : w.heap.size ≤ W0.heap.size := hbw0.size
  have HR0 := hide (HR.out.keep hbw0 (Nat.le_refl _))
  have Z := hide (show W0.cell? ⟨w1.heap.size, 0, none⟩ = some (.slice A1 c.points.length c1) ∧ W0.cell? ⟨w1.heap.size, 1, none⟩ = some (.slice A2 c.segs.length c2) ∧ W0.cell? ⟨w1.heap.size + 1, 1, none⟩ = some (.bool r1) from ⟨z0, z1, z3⟩)
  have HBW := hide hbw0
  clear z0 z1 z3 hbw0
  obtain ⟨X1, hX1⟩ : ∃ X, w1.heap.size = X := ⟨_, rfl⟩
  have HRC0 := hide (show ∀ w', Below W0.heap.size W0 w' → RdChart w' w'.heap.size (.slice A1 c.points.length c1) (.slice A2 c.segs.length c2) c from fun w' hB => ((HRC.out.keep hb0 (Nat.le_refl _)).keep hB (hb0.size)).mono (by have := hB.size; have := hb0.size; omega))
  have HRL0 := hide (show ∀ w', Below W0.heap.size W0 w' → RdPassage w' (.slice A3 l.length c3) l from fun w' hB => ((RdB.keep HRL.out hb0 (Nat.le_refl _)).keep hB (hb0.size)).mono (by have := hB.size; have := hb0.size; omega))
  have hl3 := HRL.out
  rw [hX1] at z2 hl0 hb0 s1 Z ⊢
  have HX1 := hide hX1
  clear hX1 hl3 HRC
  have hX1l : X1 < W0.heap.size := by omega
  have hn2 : ¬ X1 + 1 = W0.heap.size := by omega
  go_wp2_with fail
  go_cut [6] (fun s6 wx => ∃ (X : Nat) (x : Int), s6 = .pointer (some ⟨X, 0, none⟩) ∧ (r0 ≤ x ∧ x ≤ r0 + 19) ∧ Hid (wx.cell? ⟨X, 0, none⟩ = some (.int .i64 x) ∧ wx.cell? ⟨X, 1, none⟩ = some (.bool true)) ∧ Hid (Below W0.heap.size W0 wx) ∧ X < wx.heap.size)
  case first =>
    have keepS : ∀ w', Below W0.heap.size W0 w' → w'.cell? ⟨X1 + 1, 0, none⟩ = some (.int .i64 r0) ∧ Below W0.heap.size W0 w' := fun w' hB => ⟨cellKeepL hB z2 hl0, hB⟩
    go_region_held3 (fun w' => w'.cell? ⟨X1 + 1, 0, none⟩ = some (.int .i64 r0) ∧ Below W0.heap.size W0 w')
      (first
        | with_reducible exact keepS w20 HB20.out
        | ((with_reducible refine keepS (World.drew W0) ?_); exact Below.drew (Below.refl _ _))
        | ((with_reducible refine keepS (World.drew (World.alloc W0 _)) ?_); exact Below.drew ((Below.refl _ _).alloc (Nat.le_refl _) _))
        | ((with_reducible refine keepS (World.setCell _ _ _) ?_); exact (HB20.out.trans (show Below W0.heap.size w20 _ from (by repeat (first | exact Below.refl _ _ | assumption | refine Below.setCell ?_ (by first | omega | (simp <;> omega)) _ | refine Below.alloc ?_ (by first | omega | (simp <;> omega)) _ | refine below_drewN ?_ _ | refine Below.drew ?_ | refine Below.trans ?_ (Below.mono (by assumption) (by first | omega | (simp <;> omega))))))))
        | ((with_reducible refine keepS (World.alloc w20 _) ?_); exact HB20.out.alloc hs20 _))
      (first
        | (go_at_call 57; obtain ⟨_, qB⟩ := (by with_reducible assumption : _ ∧ _); (refine (MakeNum_any _ bs 90 _ ((HR0.out.keep qB hwW).mono (Nat.le_trans hwW qB.size)) HBY.out HN.out (by omega)).mono ?_); rintro e w20 ⟨xa, rfl, xa0, xa1, hb20⟩; (first | ((with_reducible have hz := regZ hb20); obtain ⟨k0, k1, k2, k3, k4⟩ := hz) | skip); have HB20 := hide (bnext qB hb20 (Nat.le_refl _)); have hs20 := HB20.out.size; clear hb20))
    all_goals
      have t0 := Int.tmod_nonneg 20 xa0
      have t1 := Int.tmod_lt_of_pos xa (show (0 : Int) < 20 by omega)
      have hwr : IntKind.i64.wrap (r0 + xa.tmod 20) = r0 + xa.tmod 20 := IntWalk.i64_in _ (by omega)
      have HWR := hide hwr; clear hwr
      go_wp2_with fail
      go_meet
      refine ⟨_, IntKind.i64.wrap (r0 + xa.tmod 20), rfl, by rw [HWR.out]; omega, hide ?_, hide ?_, ?_⟩
      · exact ⟨by simp [go_sem, *], by simp [go_sem, *]⟩
      · obtain ⟨_, qB⟩ := (by with_reducible assumption : _ ∧ _); exact qB
      · first | (simp; done) | (simp [World.setCell]; omega) | omega
  case rest =>
    obtain ⟨X, x, rfl, ⟨hx0, hx1⟩, HV, HB, hX⟩ := hcut
    have G0 := HCP.out.1
    have hin0 : inB r0 0 60 = true := by simp [inB]; omega
    have hinx : inB x 0 60 = true := by simp [inB]; omega
    have hst : stricter x true r0 r1 = true := by simp [stricter, inB]; omega
    have hfc := fc_cases c r0 r1 l
    have hclr : isClearB c r0 r1 l = decide (fcN c r0 r1 l = 0) := by unfold isClearB; rw [G0, hin0]; rfl
    obtain ⟨N, hN⟩ : ∃ n, fcN c r0 r1 l = n := ⟨_, rfl⟩
    obtain ⟨I, hI⟩ : ∃ n, fcI c r0 r1 l = n := ⟨_, rfl⟩
    obtain ⟨K, hK⟩ : ∃ n, fcK c r0 r1 l = n := ⟨_, rfl⟩
    rw [hN, hI, hK] at hfc
    rw [hN] at hclr
    have HFC := hide hfc; have HNN := hide hN; have HII := hide hI; have HKK := hide hK; have HCLR := hide hclr; have HST := hide hst; have HIN := hide hin0; have HINX := hide hinx
    clear hfc hN hI hK hclr hst hin0 hinx G0
    have y0 := cellKeepL HB.out Z.out.1 hX1l; have y1 := cellKeepL HB.out Z.out.2.1 hX1l; have y2 := cellKeepL HB.out z2 hl0; have y3 := cellKeepL HB.out Z.out.2.2 hl0
    have hXl0 : X1 + 1 < wc.heap.size := Nat.lt_of_lt_of_le hl0 HB.out.size
    go_wp2_with fail
    refine (impl_FirstConflict_any _ _ _ c r0 r1 l _ (HRC0.out _ HB.out) (HRL0.out _ HB.out) HXS.out HCP.out.2.1).mono ?_
    rintro e w5 ⟨rfl, hb5⟩
    rw [HNN.out, HII.out, HKK.out]
    have HB5 := hide (bnext HB.out hb5 (Nat.le_refl _))
    have HK5 := hide (show Below wc.heap.size wc w5 from hb5)
    clear hb5 y0 y1 y2 y3
    have y0 := cellKeepL HB5.out Z.out.1 hX1l; have y1 := cellKeepL HB5.out Z.out.2.1 hX1l; have y2 := cellKeepL HB5.out z2 hl0; have y3 := cellKeepL HB5.out Z.out.2.2 hl0
    have x0 := cellKeepL HK5.out HV.out.1 hX; have x1 := cellKeepL HK5.out HV.out.2 hX
    go_upto_region 6 with fail
    go_cut [70] (fun s70 wx => s70 = .bool false ∧ Hid (Below W0.heap.size W0 wx) ∧ Hid (wx.cell? ⟨X, 0, none⟩ = some (.int .i64 x) ∧ wx.cell? ⟨X, 1, none⟩ = some (.bool true)) ∧ X < wx.heap.size)
    case first =>
      rcases HFC.out with ⟨e1, e2, e3, -⟩ | ⟨i, k, -, -, e1, e2, hN0, hN1, hN4, -⟩
      · have HCL := hide (show isClearB c r0 r1 l = true by rw [HCLR.out, e3]; rfl)
        have HNMS := hide (cfName_size (n := 0) (by omega) (by omega))
        clear HCLR HNN HII HKK HFC
        subst e1; subst e2; subst e3
        go_wp2_with fail
        refine (impl_StricterRegime_any _ _ _ _ _).mono ?_
        rintro e w6 ⟨rfl, hb6⟩
        rw [HST.out]
        clear x0 x1
        have HB6 := hide (bnext HB5.out hb6 (Nat.le_refl _)); have HK6 := hide (bnext HK5.out hb6 (Nat.le_refl _))
        clear hb6 y0 y1 y2 y3
        have y0 := cellKeepL HB6.out Z.out.1 hX1l; have y1 := cellKeepL HB6.out Z.out.2.1 hX1l; have y2 := cellKeepL HB6.out z2 hl0; have y3 := cellKeepL HB6.out Z.out.2.2 hl0
        go_wp2_with fail
        refine (impl_RegimeOk_any _ _ _).mono ?_
        rintro e w7 ⟨rfl, hb7⟩
        rw [HIN.out]
        have HB7 := hide (bnext HB6.out hb7 (Nat.le_refl _)); have HK7 := hide (bnext HK6.out hb7 (Nat.le_refl _))
        clear hb7 y0 y1 y2 y3
        have y0 := cellKeepL HB7.out Z.out.1 hX1l; have y1 := cellKeepL HB7.out Z.out.2.1 hX1l; have y2 := cellKeepL HB7.out z2 hl0; have y3 := cellKeepL HB7.out Z.out.2.2 hl0
        go_wp2_with fail
        refine (impl_IsClear_any _ _ _ c r0 r1 l _ (HRC0.out _ HB7.out) (HRL0.out _ HB7.out) HXS.out HCP.out.2.1).mono ?_
        rintro e w8 ⟨rfl, hb8⟩
        rw [HCL.out]
        have HB8 := hide (bnext HB7.out hb8 (Nat.le_refl _)); have HK8 := hide (bnext HK7.out hb8 (Nat.le_refl _))
        clear hb8 y0 y1 y2 y3
        have y0 := cellKeepL HB8.out Z.out.1 hX1l; have y1 := cellKeepL HB8.out Z.out.2.1 hX1l; have y2 := cellKeepL HB8.out z2 hl0; have y3 := cellKeepL HB8.out Z.out.2.2 hl0
        go_wp2_with fail
        refine (impl_ConflictName_any _ _).mono ?_
        rintro e w9 ⟨rfl, hb9⟩
        have HB9 := hide (bnext HB8.out hb9 (Nat.le_refl _)); have HK9 := hide (bnext HK8.out hb9 (Nat.le_refl _))
        clear hb9 y0 y1 y2 y3
        have y0 := cellKeepL HB9.out Z.out.1 hX1l; have y1 := cellKeepL HB9.out Z.out.2.1 hX1l; have y2 := cellKeepL HB9.out z2 hl0; have y3 := cellKeepL HB9.out Z.out.2.2 hl0
        obtain ⟨nm, hnm⟩ : ∃ s, cfName 0 = s := ⟨_, rfl⟩
        rw [hnm] at HNMS ⊢
        have hnms := HNMS.out
        have hnm2 : ¬ nm.toList = [] := fun e => by rw [e] at hnms; cases hnms
        have hnm3 : (nm.toList == []) = false := by simp [hnm2]
        clear hnm
        go_wp2_with fail
        go_meet
        exact ⟨by first | rfl | simp [hN0], HB9, hide ⟨cellKeepL HK9.out HV.out.1 hX, cellKeepL HK9.out HV.out.2 hX⟩, Nat.lt_of_lt_of_le hX HK9.out.size⟩
      · have HCL := hide (show isClearB c r0 r1 l = false by rw [HCLR.out]; simp [hN0])
        have HNMS := hide (cfName_size (n := N) hN1 hN4)
        clear HCLR HNN HII HKK HFC
        subst e1; subst e2
        go_wp2_with fail
        refine (impl_StricterRegime_any _ _ _ _ _).mono ?_
        rintro e w6 ⟨rfl, hb6⟩
        rw [HST.out]
        clear x0 x1
        have HB6 := hide (bnext HB5.out hb6 (Nat.le_refl _)); have HK6 := hide (bnext HK5.out hb6 (Nat.le_refl _))
        clear hb6 y0 y1 y2 y3
        have y0 := cellKeepL HB6.out Z.out.1 hX1l; have y1 := cellKeepL HB6.out Z.out.2.1 hX1l; have y2 := cellKeepL HB6.out z2 hl0; have y3 := cellKeepL HB6.out Z.out.2.2 hl0
        go_wp2_with fail
        refine (impl_RegimeOk_any _ _ _).mono ?_
        rintro e w7 ⟨rfl, hb7⟩
        rw [HIN.out]
        have HB7 := hide (bnext HB6.out hb7 (Nat.le_refl _)); have HK7 := hide (bnext HK6.out hb7 (Nat.le_refl _))
        clear hb7 y0 y1 y2 y3
        have y0 := cellKeepL HB7.out Z.out.1 hX1l; have y1 := cellKeepL HB7.out Z.out.2.1 hX1l; have y2 := cellKeepL HB7.out z2 hl0; have y3 := cellKeepL HB7.out Z.out.2.2 hl0
        go_wp2_with fail
        refine (impl_IsClear_any _ _ _ c r0 r1 l _ (HRC0.out _ HB7.out) (HRL0.out _ HB7.out) HXS.out HCP.out.2.1).mono ?_
        rintro e w8 ⟨rfl, hb8⟩
        rw [HCL.out]
        have HB8 := hide (bnext HB7.out hb8 (Nat.le_refl _)); have HK8 := hide (bnext HK7.out hb8 (Nat.le_refl _))
        clear hb8 y0 y1 y2 y3
        have y0 := cellKeepL HB8.out Z.out.1 hX1l; have y1 := cellKeepL HB8.out Z.out.2.1 hX1l; have y2 := cellKeepL HB8.out z2 hl0; have y3 := cellKeepL HB8.out Z.out.2.2 hl0
        go_wp2_with fail
        refine (impl_ConflictName_any _ _).mono ?_
        rintro e w9 ⟨rfl, hb9⟩
        have HB9 := hide (bnext HB8.out hb9 (Nat.le_refl _)); have HK9 := hide (bnext HK8.out hb9 (Nat.le_refl _))
        clear hb9 y0 y1 y2 y3
        have y0 := cellKeepL HB9.out Z.out.1 hX1l; have y1 := cellKeepL HB9.out Z.out.2.1 hX1l; have y2 := cellKeepL HB9.out z2 hl0; have y3 := cellKeepL HB9.out Z.out.2.2 hl0
        obtain ⟨nm, hnm⟩ : ∃ s, cfName N = s := ⟨_, rfl⟩
        rw [hnm] at HNMS ⊢
        have hnms := HNMS.out
        have hnm2 : ¬ nm.toList = [] := fun e => by rw [e] at hnms; cases hnms
        have hnm3 : (nm.toList == []) = false := by simp [hnm2]
        clear hnm
        go_wp2_with fail
        go_meet
        exact ⟨by first | rfl | simp [hN0], HB9, hide ⟨cellKeepL HK9.out HV.out.1 hX, cellKeepL HK9.out HV.out.2 hX⟩, Nat.lt_of_lt_of_le hX HK9.out.size⟩
    case rest =>
      clear HV HB HK5 HB5 hX x0 x1 y0 y1 y2 y3
      obtain ⟨rfl, HB9, HV9, hX9⟩ := hcut
      go_wp2_with fail
      go_loopw [73] (fun i wr => ∃ b : Nat, i = .int .i64 b ∧ b ≤ l.length ∧ Hid (Below W0.heap.size W0 wr) ∧ Hid (wr.cell? ⟨X, 0, none⟩ = some (.int .i64 x) ∧ wr.cell? ⟨X, 1, none⟩ = some (.bool true)) ∧ X < wr.heap.size) (fun i _ => l.length - (intOf i).toNat)
      case atStart => exact ⟨0, rfl, Nat.zero_le _, HB9, HV9, hX9⟩
      case round =>
        clear HB9 HV9 hX9
        obtain ⟨b, rfl, hb, HB, HV, hX⟩ := hrel
        obtain ⟨wo, rfl⟩ : ∃ wo : World, wo = wr := ⟨_, rfl⟩
        by_cases hlt : b < l.length
        · have hlt' : (b : Int) < l.length := by omega
          have hbl : b < l.length := hlt
          go_wp2_with fail
          go_loopw [11] (fun s wr => ∃ a : Nat, s = .int .i64 a ∧ a ≤ b ∧ Hid (Below W0.heap.size W0 wr) ∧ Hid (wr.cell? ⟨X, 0, none⟩ = some (.int .i64 x) ∧ wr.cell? ⟨X, 1, none⟩ = some (.bool true)) ∧ X < wr.heap.size) (fun s _ => b - (intOf s).toNat)
          case atStart => exact ⟨0, rfl, Nat.zero_le _, HB, HV, hX⟩
          case round =>
            clear HB HV hX
            obtain ⟨a, rfl, ha, HB, HV, hX⟩ := hrel
            obtain ⟨wi, rfl⟩ : ∃ wi : World, wi = wr := ⟨_, rfl⟩
            have hw1b : IntKind.i64.wrap ((b : Int) + 1) = (b : Int) + 1 := IntWalk.i64_in _ (by omega)
            by_cases hab : a < b
            · have hab' : (a : Int) < b := by omega
              have hal : a < l.length := by omega
              have hal' : (a : Int) < l.length := by omega
              have ha0 : (0 : Int) ≤ (a : Int) := by omega
              have hb0' : (0 : Int) ≤ (b : Int) := by omega
              obtain ⟨A3', c3', ee3, -, -, h3⟩ := HRL0.out _ HB.out
              obtain ⟨b3, o3, e3', hb3, hcell⟩ := h3 (by omega)
              obtain ⟨rfl, -, rfl⟩ : A3 = A3' ∧ l.length = l.length ∧ c3 = c3' := by injection ee3 with e1 e2 e3; exact ⟨e1, rfl, e3⟩
              subst e3'
              obtain ⟨p, hp⟩ : ∃ x, l[a] = x := ⟨_, rfl⟩
              obtain ⟨q, hq⟩ : ∃ x, l[b] = x := ⟨_, rfl⟩
              have e0 : wi.cell? ⟨b3, o3 + a * 5, none⟩ = some (.int .i64 p.ship) := by rw [← hp]; have := hcell a l[a] (List.getElem?_eq_getElem hal) 0 _ rfl; simpa using this
              have e1 : wi.cell? ⟨b3, o3 + a * 5 + 1, none⟩ = some (.int .i64 p.segment) := by rw [← hp]; have := hcell a l[a] (List.getElem?_eq_getElem hal) 1 _ rfl; simpa using this
              have e2 : wi.cell? ⟨b3, o3 + a * 5 + 2, none⟩ = some (.bool p.toward) := by rw [← hp]; have := hcell a l[a] (List.getElem?_eq_getElem hal) 2 _ rfl; simpa using this
              have e3 : wi.cell? ⟨b3, o3 + a * 5 + 3, none⟩ = some (.int .i64 p.start) := by rw [← hp]; have := hcell a l[a] (List.getElem?_eq_getElem hal) 3 _ rfl; simpa using this
              have e4 : wi.cell? ⟨b3, o3 + a * 5 + 4, none⟩ = some (.int .i64 p.fin) := by rw [← hp]; have := hcell a l[a] (List.getElem?_eq_getElem hal) 4 _ rfl; simpa using this
              have f0 : wi.cell? ⟨b3, o3 + b * 5, none⟩ = some (.int .i64 q.ship) := by rw [← hq]; have := hcell b l[b] (List.getElem?_eq_getElem hbl) 0 _ rfl; simpa using this
              have f1 : wi.cell? ⟨b3, o3 + b * 5 + 1, none⟩ = some (.int .i64 q.segment) := by rw [← hq]; have := hcell b l[b] (List.getElem?_eq_getElem hbl) 1 _ rfl; simpa using this
              have f2 : wi.cell? ⟨b3, o3 + b * 5 + 2, none⟩ = some (.bool q.toward) := by rw [← hq]; have := hcell b l[b] (List.getElem?_eq_getElem hbl) 2 _ rfl; simpa using this
              have f3 : wi.cell? ⟨b3, o3 + b * 5 + 3, none⟩ = some (.int .i64 q.start) := by rw [← hq]; have := hcell b l[b] (List.getElem?_eq_getElem hbl) 3 _ rfl; simpa using this
              have f4 : wi.cell? ⟨b3, o3 + b * 5 + 4, none⟩ = some (.int .i64 q.fin) := by rw [← hq]; have := hcell b l[b] (List.getElem?_eq_getElem hbl) 4 _ rfl; simpa using this
              have HPK := hide (show p.ok from by rw [← hp]; exact HXS.out _ (List.getElem_mem hal))
              have HQK := hide (show q.ok from by rw [← hq]; exact HXS.out _ (List.getElem_mem hbl))
              obtain ⟨C, hC⟩ : ∃ n, conflictOf c r0 r1 p q = n := ⟨_, rfl⟩
              have hCs : conflictOf c r0 r1 q p = C := by rw [conflictOf_symm]; exact hC
              obtain ⟨D, hD⟩ : ∃ n, conflictOf c x true p q = n := ⟨_, rfl⟩
              obtain ⟨O, hO⟩ : ∃ n, decide (max p.start q.start < min p.fin q.fin) = n := ⟨_, rfl⟩
              have hOs : decide (max q.start p.start < min q.fin p.fin) = O := by rw [Int.max_comm, Int.min_comm]; exact hO
              have hCD : C ≠ 0 → D ≠ 0 := fun h => by rw [← hD]; rw [← hC] at h; exact conflict_strict hx0 HINX.out h
              have hCN : C ≠ 0 → N ≠ 0 ∧ ¬ (b : Int) < K := fun h => by
                have ga : l.getD a default = p := by rw [getD_at hal]; exact hp
                have gb : l.getD b default = q := by rw [getD_at hbl]; exact hq
                rcases HFC.out with ⟨-, -, -, hz⟩ | ⟨i, k, -, -, -, e2, hN0, -, -, hz⟩
                · exact absurd (by have := hz a b hab hbl; rw [ga, gb, hC] at this; exact this) h
                · refine ⟨hN0, fun hlt => ?_⟩
                  exact h (by have := hz a b hab (by omega); rw [ga, gb, hC] at this; exact this)
              have hCC : C ≠ 0 → clashesB c r0 r1 ((l.drop a).take 1) ((l.drop b).take (l.length - b)) = true := fun h => by
                rw [List.take_of_length_le (i := l.length - b) (by simp)]
                exact clashes_pair hal hbl (by rw [hp, hq, hC]; exact h)
              have HC := hide hC; have HCS := hide hCs; have HD := hide hD; have HO := hide hO; have HOS := hide hOs; have HCD := hide hCD; have HCN := hide hCN; have HCC := hide hCC
              have HRL1 := hide (fun w' hB => HRL0.out w' hB)
              have y0 := cellKeepL HB.out Z.out.1 hX1l; have y1 := cellKeepL HB.out Z.out.2.1 hX1l; have y2 := cellKeepL HB.out z2 hl0; have y3 := cellKeepL HB.out Z.out.2.2 hl0
              have hXl0 : X1 + 1 < wi.heap.size := Nat.lt_of_lt_of_le hl0 HB.out.size
              have hXl1 : X1 < wi.heap.size := by omega
              clear hC hCs hD hO hOs hCD hCN hCC hp hq hcell h3 ee3
              go_wp2_with fail
              refine wp_region_below (Below.refl wi.heap.size wi) (by kernel_rfl) (by kernel_rfl) ?_
              repeat (first
                | go_big_quiet_skip
                | (go_big_quiet_want
                   first
                    | (refine quiet_value ?_; apply Exists.intro
                       refine ⟨fun wq hq => ?_, ?_⟩
                       · (obtain ⟨hc, hf⟩ := bcell hq; go_simp; first | done | rfl)
                       go_big_quiet_on
                       simp only [Act.put, List.setIfInBounds_toArray, List.set_cons_zero, List.set_cons_succ])
                    | (refine quiet_call ?_; apply Exists.intro; apply Exists.intro; apply Exists.intro
                       refine ⟨fun wq hq => ?_, fun wq hq => ?_, ?_⟩
                       · (obtain ⟨hc, hf⟩ := bcell hq; go_simp; exact ⟨rfl, rfl⟩)
                       · (first | with_reducible exact (calls_intR (impl_ConflictOf_any _ _ c r0 r1 p q _ (HRC0.out _ (bnext HB.out hq (Nat.le_refl _))) HPK.out HQK.out HCP.out.2.1) HC.out).mono fun e w'' ⟨he, hw⟩ => ⟨he, hw ▸ hq⟩ | with_reducible exact (calls_intR (impl_ConflictOf_any _ _ c r0 r1 p q _ (HRC0.out _ (bnext HB.out hq (Nat.le_refl _))) HPK.out HQK.out HCP.out.2.1) HC.out).mono fun e w'' ⟨he, hb'⟩ => ⟨he, bnext hq hb'⟩ |  exact (calls_intR (impl_ConflictOf_any _ _ c r0 r1 p q _ (HRC0.out _ (bnext HB.out hq (Nat.le_refl _))) HPK.out HQK.out HCP.out.2.1) HC.out).mono fun e w'' ⟨he, hb'⟩ => ⟨he, bnext hq hb'⟩ |  exact (calls_intR (impl_ConflictOf_any _ _ c r0 r1 p q _ (HRC0.out _ (bnext HB.out hq (Nat.le_refl _))) HPK.out HQK.out HCP.out.2.1) HC.out).mono fun e w'' ⟨he, hw⟩ => ⟨he, hw ▸ hq⟩)
                       go_big_quiet_on
                       simp only [Act.put, List.setIfInBounds_toArray, List.set_cons_zero, List.set_cons_succ])
                    | (go_big_quiet_op; go_big_quiet_on)
                   ))
              refine wpQuiet_nil (fun w14 hb14 => ?_)
              have HB14 := hide (bnext HB.out hb14 (Nat.le_refl _))
              have HBI := hide (show Below wi.heap.size wi w14 from hb14)
              have s14 := hb14.size
              clear hb14 y0 y1 y2 y3
              have y0 := cellKeepL HB14.out Z.out.1 hX1l; have y1 := cellKeepL HB14.out Z.out.2.1 hX1l; have y2 := cellKeepL HB14.out z2 hl0; have y3 := cellKeepL HB14.out Z.out.2.2 hl0
              have x0 := cellKeepL HBI.out HV.out.1 hX; have x1 := cellKeepL HBI.out HV.out.2 hX
              replace e0 := cellKeepL HBI.out e0 hb3
              replace e1 := cellKeepL HBI.out e1 hb3
              replace e2 := cellKeepL HBI.out e2 hb3
              replace e3 := cellKeepL HBI.out e3 hb3
              replace e4 := cellKeepL HBI.out e4 hb3
              replace f0 := cellKeepL HBI.out f0 hb3
              replace f1 := cellKeepL HBI.out f1 hb3
              replace f2 := cellKeepL HBI.out f2 hb3
              replace f3 := cellKeepL HBI.out f3 hb3
              replace f4 := cellKeepL HBI.out f4 hb3
              have hb3' : b3 < w14.heap.size := by omega
              have hXl0' : X1 + 1 < w14.heap.size := by omega
              have hXl1' : X1 < w14.heap.size := by omega
              have hX' : X < w14.heap.size := by omega
              clear hb3 hXl0 hXl1
              have hbool1 : (C != C) = false := by simp
              have hOO : (O != O) = false := by simp
              rcases Classical.em (C = 0) with h0 | h0
              · have hC0 : (C != 0) = false := by simp [h0]
                go_wp2_with fail
                refine wp_region_below (Below.refl w14.heap.size w14) (by kernel_rfl) (by kernel_rfl) ?_
                repeat (first
                  | go_big_quiet_skip
                  | (go_big_quiet_want
                     first
                      | (refine quiet_value ?_; apply Exists.intro
                         refine ⟨fun wq hq => ?_, ?_⟩
                         · (obtain ⟨hc, hf⟩ := bcell hq; go_simp; first | done | rfl)
                         go_big_quiet_on
                         simp only [Act.put, List.setIfInBounds_toArray, List.set_cons_zero, List.set_cons_succ])
                      | (refine quiet_call ?_; apply Exists.intro; apply Exists.intro; apply Exists.intro
                         refine ⟨fun wq hq => ?_, fun wq hq => ?_, ?_⟩
                         · (obtain ⟨hc, hf⟩ := bcell hq; go_simp; exact ⟨rfl, rfl⟩)
                         · (first | with_reducible exact (calls_intR (impl_ConflictOf_any _ _ c r0 r1 q p _ (HRC0.out _ (bnext HB14.out hq (Nat.le_refl _))) HQK.out HPK.out HCP.out.2.1) HCS.out).mono fun e w'' ⟨he, hw⟩ => ⟨he, hw ▸ hq⟩ | with_reducible exact (calls_intR (impl_ConflictOf_any _ _ c r0 r1 q p _ (HRC0.out _ (bnext HB14.out hq (Nat.le_refl _))) HQK.out HPK.out HCP.out.2.1) HCS.out).mono fun e w'' ⟨he, hb'⟩ => ⟨he, bnext hq hb'⟩ | with_reducible exact (calls_intR (impl_ConflictOf_any _ _ c x true p q _ (HRC0.out _ (bnext HB14.out hq (Nat.le_refl _))) HPK.out HQK.out HCP.out.2.1) HD.out).mono fun e w'' ⟨he, hw⟩ => ⟨he, hw ▸ hq⟩ | with_reducible exact (calls_intR (impl_ConflictOf_any _ _ c x true p q _ (HRC0.out _ (bnext HB14.out hq (Nat.le_refl _))) HPK.out HQK.out HCP.out.2.1) HD.out).mono fun e w'' ⟨he, hb'⟩ => ⟨he, bnext hq hb'⟩ | with_reducible exact (calls_boolR (impl_Overlaps_any p.ship p.segment p.toward p.start p.fin q.ship q.segment q.toward q.start q.fin _) HO.out).mono fun e w'' ⟨he, hw⟩ => ⟨he, hw ▸ hq⟩ | with_reducible exact (calls_boolR (impl_Overlaps_any p.ship p.segment p.toward p.start p.fin q.ship q.segment q.toward q.start q.fin _) HO.out).mono fun e w'' ⟨he, hb'⟩ => ⟨he, bnext hq hb'⟩ | with_reducible exact (calls_boolR (impl_Overlaps_any q.ship q.segment q.toward q.start q.fin p.ship p.segment p.toward p.start p.fin _) HOS.out).mono fun e w'' ⟨he, hw⟩ => ⟨he, hw ▸ hq⟩ | with_reducible exact (calls_boolR (impl_Overlaps_any q.ship q.segment q.toward q.start q.fin p.ship p.segment p.toward p.start p.fin _) HOS.out).mono fun e w'' ⟨he, hb'⟩ => ⟨he, bnext hq hb'⟩ |  exact (calls_intR (impl_ConflictOf_any _ _ c r0 r1 q p _ (HRC0.out _ (bnext HB14.out hq (Nat.le_refl _))) HQK.out HPK.out HCP.out.2.1) HCS.out).mono fun e w'' ⟨he, hb'⟩ => ⟨he, bnext hq hb'⟩ |  exact (calls_intR (impl_ConflictOf_any _ _ c r0 r1 q p _ (HRC0.out _ (bnext HB14.out hq (Nat.le_refl _))) HQK.out HPK.out HCP.out.2.1) HCS.out).mono fun e w'' ⟨he, hw⟩ => ⟨he, hw ▸ hq⟩ |  exact (calls_intR (impl_ConflictOf_any _ _ c x true p q _ (HRC0.out _ (bnext HB14.out hq (Nat.le_refl _))) HPK.out HQK.out HCP.out.2.1) HD.out).mono fun e w'' ⟨he, hb'⟩ => ⟨he, bnext hq hb'⟩ |  exact (calls_intR (impl_ConflictOf_any _ _ c x true p q _ (HRC0.out _ (bnext HB14.out hq (Nat.le_refl _))) HPK.out HQK.out HCP.out.2.1) HD.out).mono fun e w'' ⟨he, hw⟩ => ⟨he, hw ▸ hq⟩ |  exact (calls_boolR (impl_Overlaps_any p.ship p.segment p.toward p.start p.fin q.ship q.segment q.toward q.start q.fin _) HO.out).mono fun e w'' ⟨he, hb'⟩ => ⟨he, bnext hq hb'⟩ |  exact (calls_boolR (impl_Overlaps_any p.ship p.segment p.toward p.start p.fin q.ship q.segment q.toward q.start q.fin _) HO.out).mono fun e w'' ⟨he, hw⟩ => ⟨he, hw ▸ hq⟩ |  exact (calls_boolR (impl_Overlaps_any q.ship q.segment q.toward q.start q.fin p.ship p.segment p.toward p.start p.fin _) HOS.out).mono fun e w'' ⟨he, hb'⟩ => ⟨he, bnext hq hb'⟩ |  exact (calls_boolR (impl_Overlaps_any q.ship q.segment q.toward q.start q.fin p.ship p.segment p.toward p.start p.fin _) HOS.out).mono fun e w'' ⟨he, hw⟩ => ⟨he, hw ▸ hq⟩)
                         go_big_quiet_on
                         simp only [Act.put, List.setIfInBounds_toArray, List.set_cons_zero, List.set_cons_succ])
                      | (go_big_quiet_op; go_big_quiet_on)
                     ))
                refine wpQuiet_nil (fun w15 hb15 => ?_)
                have HB15 := hide (bnext HB14.out hb15 (Nat.le_refl _)); have HK15 := hide (bnext HBI.out hb15 (Nat.le_refl _))
                clear hb15 y0 y1 y2 y3 x0 x1 e0 e1 e2 e3 e4 f0 f1 f2 f3 f4
                go_wp2_with fail
                refine wp_region_below (Below.refl w15.heap.size w15) (by kernel_rfl) (by kernel_rfl) ?_
                repeat (first
                  | go_big_quiet_skip
                  | (go_big_quiet_want
                     first
                      | (refine quiet_value ?_; apply Exists.intro
                         refine ⟨fun wq hq => ?_, ?_⟩
                         · (obtain ⟨hc, hf⟩ := bcell hq; go_simp; first | done | rfl)
                         go_big_quiet_on
                         simp only [Act.put, List.setIfInBounds_toArray, List.set_cons_zero, List.set_cons_succ])
                      | (go_big_quiet_op; go_big_quiet_on)
                     ))
                refine wpQuiet_nil (fun w16 hb16 => ?_)
                have HB16 := hide (bnext HB15.out hb16 (Nat.le_refl _)); have HK16 := hide (bnext HK15.out hb16 (Nat.le_refl _))
                clear hb16
                go_wp2
                go_roundw
                case rel => exact ⟨a + 1, by first | rfl | go_num, by omega, HB16, hide ⟨cellKeepL HK16.out HV.out.1 hX, cellKeepL HK16.out HV.out.2 hX⟩, Nat.lt_of_lt_of_le hX HK16.out.size⟩
                case measure => simp [intOf] <;> omega
              · have hC0 : (C != 0) = true := by simp [h0]
                have hD0 : (D == 0) = false := by have := HCD.out h0; simp [this]
                have hNK := HCN.out h0
                have hN0 : (N == 0) = false := by simp [hNK.1]
                have hbK : ¬ (b : Int) < K := by omega
                clear hNK
                have haw : IntKind.i64.wrap ((a : Int) + 1) = (a : Int) + 1 := IntWalk.i64_in _ (by omega)
                go_wp2_with fail
                refine wp_region_below (Below.refl w14.heap.size w14) (by kernel_rfl) (by kernel_rfl) ?_
                repeat (first
                  | go_big_quiet_skip
                  | (go_big_quiet_want
                     first
                      | (refine quiet_value ?_; apply Exists.intro
                         refine ⟨fun wq hq => ?_, ?_⟩
                         · (obtain ⟨hc, hf⟩ := bcell hq; go_simp; first | done | rfl)
                         go_big_quiet_on
                         simp only [Act.put, List.setIfInBounds_toArray, List.set_cons_zero, List.set_cons_succ])
                      | (refine quiet_call ?_; apply Exists.intro; apply Exists.intro; apply Exists.intro
                         refine ⟨fun wq hq => ?_, fun wq hq => ?_, ?_⟩
                         · (obtain ⟨hc, hf⟩ := bcell hq; go_simp; exact ⟨rfl, rfl⟩)
                         · (first | with_reducible exact (calls_intR (impl_ConflictOf_any _ _ c r0 r1 q p _ (HRC0.out _ (bnext HB14.out hq (Nat.le_refl _))) HQK.out HPK.out HCP.out.2.1) HCS.out).mono fun e w'' ⟨he, hw⟩ => ⟨he, hw ▸ hq⟩ | with_reducible exact (calls_intR (impl_ConflictOf_any _ _ c r0 r1 q p _ (HRC0.out _ (bnext HB14.out hq (Nat.le_refl _))) HQK.out HPK.out HCP.out.2.1) HCS.out).mono fun e w'' ⟨he, hb'⟩ => ⟨he, bnext hq hb'⟩ | with_reducible exact (calls_intR (impl_ConflictOf_any _ _ c x true p q _ (HRC0.out _ (bnext HB14.out hq (Nat.le_refl _))) HPK.out HQK.out HCP.out.2.1) HD.out).mono fun e w'' ⟨he, hw⟩ => ⟨he, hw ▸ hq⟩ | with_reducible exact (calls_intR (impl_ConflictOf_any _ _ c x true p q _ (HRC0.out _ (bnext HB14.out hq (Nat.le_refl _))) HPK.out HQK.out HCP.out.2.1) HD.out).mono fun e w'' ⟨he, hb'⟩ => ⟨he, bnext hq hb'⟩ | with_reducible exact (calls_boolR (impl_Overlaps_any p.ship p.segment p.toward p.start p.fin q.ship q.segment q.toward q.start q.fin _) HO.out).mono fun e w'' ⟨he, hw⟩ => ⟨he, hw ▸ hq⟩ | with_reducible exact (calls_boolR (impl_Overlaps_any p.ship p.segment p.toward p.start p.fin q.ship q.segment q.toward q.start q.fin _) HO.out).mono fun e w'' ⟨he, hb'⟩ => ⟨he, bnext hq hb'⟩ | with_reducible exact (calls_boolR (impl_Overlaps_any q.ship q.segment q.toward q.start q.fin p.ship p.segment p.toward p.start p.fin _) HOS.out).mono fun e w'' ⟨he, hw⟩ => ⟨he, hw ▸ hq⟩ | with_reducible exact (calls_boolR (impl_Overlaps_any q.ship q.segment q.toward q.start q.fin p.ship p.segment p.toward p.start p.fin _) HOS.out).mono fun e w'' ⟨he, hb'⟩ => ⟨he, bnext hq hb'⟩ |  exact (calls_intR (impl_ConflictOf_any _ _ c r0 r1 q p _ (HRC0.out _ (bnext HB14.out hq (Nat.le_refl _))) HQK.out HPK.out HCP.out.2.1) HCS.out).mono fun e w'' ⟨he, hb'⟩ => ⟨he, bnext hq hb'⟩ |  exact (calls_intR (impl_ConflictOf_any _ _ c r0 r1 q p _ (HRC0.out _ (bnext HB14.out hq (Nat.le_refl _))) HQK.out HPK.out HCP.out.2.1) HCS.out).mono fun e w'' ⟨he, hw⟩ => ⟨he, hw ▸ hq⟩ |  exact (calls_intR (impl_ConflictOf_any _ _ c x true p q _ (HRC0.out _ (bnext HB14.out hq (Nat.le_refl _))) HPK.out HQK.out HCP.out.2.1) HD.out).mono fun e w'' ⟨he, hb'⟩ => ⟨he, bnext hq hb'⟩ |  exact (calls_intR (impl_ConflictOf_any _ _ c x true p q _ (HRC0.out _ (bnext HB14.out hq (Nat.le_refl _))) HPK.out HQK.out HCP.out.2.1) HD.out).mono fun e w'' ⟨he, hw⟩ => ⟨he, hw ▸ hq⟩ |  exact (calls_boolR (impl_Overlaps_any p.ship p.segment p.toward p.start p.fin q.ship q.segment q.toward q.start q.fin _) HO.out).mono fun e w'' ⟨he, hb'⟩ => ⟨he, bnext hq hb'⟩ |  exact (calls_boolR (impl_Overlaps_any p.ship p.segment p.toward p.start p.fin q.ship q.segment q.toward q.start q.fin _) HO.out).mono fun e w'' ⟨he, hw⟩ => ⟨he, hw ▸ hq⟩ |  exact (calls_boolR (impl_Overlaps_any q.ship q.segment q.toward q.start q.fin p.ship p.segment p.toward p.start p.fin _) HOS.out).mono fun e w'' ⟨he, hb'⟩ => ⟨he, bnext hq hb'⟩ |  exact (calls_boolR (impl_Overlaps_any q.ship q.segment q.toward q.start q.fin p.ship p.segment p.toward p.start p.fin _) HOS.out).mono fun e w'' ⟨he, hw⟩ => ⟨he, hw ▸ hq⟩)
                         go_big_quiet_on
                         simp only [Act.put, List.setIfInBounds_toArray, List.set_cons_zero, List.set_cons_succ])
                      | (go_big_quiet_op; go_big_quiet_on)
                     ))
                refine wpQuiet_nil (fun w15 hb15 => ?_)
                have HB15 := hide (bnext HB14.out hb15 (Nat.le_refl _)); have HK15 := hide (bnext HBI.out hb15 (Nat.le_refl _))
                have s15 := hb15.size
                clear hb15 y0 y1 y2 y3 x0 x1 e0 e1 e2 e3 e4 f0 f1 f2 f3 f4
                have y0 := cellKeepL HB15.out Z.out.1 hX1l; have y1 := cellKeepL HB15.out Z.out.2.1 hX1l; have y2 := cellKeepL HB15.out z2 hl0; have y3 := cellKeepL HB15.out Z.out.2.2 hl0
                have hXl2 : X1 + 1 < w15.heap.size := by omega
                have hXl3 : X1 < w15.heap.size := by omega
                have hac : (a : Int) + 1 ≤ (c3 : Int) := by omega
                have hac2 : (a : Int) ≤ (a : Int) + 1 := by omega
                have hca : ¬ c3 = a := by omega
                have hcb : ¬ c3 = b := by omega
                have hbc : (b : Int) ≤ (l.length : Int) := by omega
                have hlc : (l.length : Int) ≤ (c3 : Int) := by omega
                go_wp2_with fail
                have hbK2 : ¬ (b : Int) < K := by omega
                refine wp_region_below (Below.refl w15.heap.size w15) (by kernel_rfl) (by kernel_rfl) ?_
                repeat (first
                  | go_big_quiet_skip
                  | (go_big_quiet_want
                     first
                      | (refine quiet_value ?_; apply Exists.intro
                         refine ⟨fun wq hq => ?_, ?_⟩
                         · (obtain ⟨hc, hf⟩ := bcell hq; go_simp; first | done | rfl)
                         go_big_quiet_on
                         simp only [Act.put, List.setIfInBounds_toArray, List.set_cons_zero, List.set_cons_succ])
                      | (refine quiet_call ?_; apply Exists.intro; apply Exists.intro; apply Exists.intro
                         refine ⟨fun wq hq => ?_, fun wq hq => ?_, ?_⟩
                         · (obtain ⟨hc, hf⟩ := bcell hq; go_simp; exact ⟨rfl, rfl⟩)
                         · (first | with_reducible exact (calls_boolR (impl_Clashes_any _ _ _ _ c r0 r1 _ _ _ (HRC0.out _ (bnext HB15.out hq (Nat.le_refl _))) (RdB.sub (HRL0.out _ (bnext HB15.out hq (Nat.le_refl _))) (i := a) (m := 1) (by omega)) (RdB.sub (HRL0.out _ (bnext HB15.out hq (Nat.le_refl _))) (i := b) (m := l.length - b) (by omega)) (fun x hx => HXS.out x (List.mem_of_mem_drop (List.mem_of_mem_take hx))) (fun x hx => HXS.out x (List.mem_of_mem_drop (List.mem_of_mem_take hx))) HCP.out.2.1) (HCC.out h0)).mono fun e w'' ⟨he, hw⟩ => ⟨he, hw ▸ hq⟩ | with_reducible exact (calls_boolR (impl_Clashes_any _ _ _ _ c r0 r1 _ _ _ (HRC0.out _ (bnext HB15.out hq (Nat.le_refl _))) (RdB.sub (HRL0.out _ (bnext HB15.out hq (Nat.le_refl _))) (i := a) (m := 1) (by omega)) (RdB.sub (HRL0.out _ (bnext HB15.out hq (Nat.le_refl _))) (i := b) (m := l.length - b) (by omega)) (fun x hx => HXS.out x (List.mem_of_mem_drop (List.mem_of_mem_take hx))) (fun x hx => HXS.out x (List.mem_of_mem_drop (List.mem_of_mem_take hx))) HCP.out.2.1) (HCC.out h0)).mono fun e w'' ⟨he, hb'⟩ => ⟨he, bnext hq hb'⟩ |  exact (calls_boolR (impl_Clashes_any _ _ _ _ c r0 r1 _ _ _ (HRC0.out _ (bnext HB15.out hq (Nat.le_refl _))) (RdB.sub (HRL0.out _ (bnext HB15.out hq (Nat.le_refl _))) (i := a) (m := 1) (by omega)) (RdB.sub (HRL0.out _ (bnext HB15.out hq (Nat.le_refl _))) (i := b) (m := l.length - b) (by omega)) (fun x hx => HXS.out x (List.mem_of_mem_drop (List.mem_of_mem_take hx))) (fun x hx => HXS.out x (List.mem_of_mem_drop (List.mem_of_mem_take hx))) HCP.out.2.1) (HCC.out h0)).mono fun e w'' ⟨he, hb'⟩ => ⟨he, bnext hq hb'⟩ |  exact (calls_boolR (impl_Clashes_any _ _ _ _ c r0 r1 _ _ _ (HRC0.out _ (bnext HB15.out hq (Nat.le_refl _))) (RdB.sub (HRL0.out _ (bnext HB15.out hq (Nat.le_refl _))) (i := a) (m := 1) (by omega)) (RdB.sub (HRL0.out _ (bnext HB15.out hq (Nat.le_refl _))) (i := b) (m := l.length - b) (by omega)) (fun x hx => HXS.out x (List.mem_of_mem_drop (List.mem_of_mem_take hx))) (fun x hx => HXS.out x (List.mem_of_mem_drop (List.mem_of_mem_take hx))) HCP.out.2.1) (HCC.out h0)).mono fun e w'' ⟨he, hw⟩ => ⟨he, hw ▸ hq⟩)
                         go_big_quiet_on
                         simp only [Act.put, List.setIfInBounds_toArray, List.set_cons_zero, List.set_cons_succ])
                      | (go_big_quiet_op; go_big_quiet_on)
                     ))
                refine wpQuiet_nil (fun w16 hb16 => ?_)
                have HB16 := hide (bnext HB15.out hb16 (Nat.le_refl _)); have HK16 := hide (bnext HK15.out hb16 (Nat.le_refl _))
                clear hb16
                go_wp2
                go_roundw
                case rel => exact ⟨a + 1, by first | rfl | go_num, by omega, HB16, hide ⟨cellKeepL HK16.out HV.out.1 hX, cellKeepL HK16.out HV.out.2 hX⟩, Nat.lt_of_lt_of_le hX HK16.out.size⟩
                case measure => simp [intOf] <;> omega
            · have hab' : ¬ (a : Int) < b := by omega
              have hae : a = b := by omega
              go_wp2
              go_roundw
              case rel => exact ⟨b + 1, by first | rfl | go_num, by omega, HB, HV, hX⟩
              case measure => simp [intOf] <;> omega
        · have hlt' : ¬ (b : Int) < l.length := by omega
          go_wp2
          go_ret
          exact ⟨rfl, HBW.out.trans (HB.out.mono hwW)⟩
namespace fnConflicts
set_option maxRecDepth 100000 in
theorem lifted (os : Os) (started : os.Started) (H : Type) (enc : TypeId × Value → H) :
    ReturnsInHanded {} Try.checked os 14 .any (Rows.fnConflictsSpec.pre6 enc Try.prog Try.f14 Rows.fnConflictsRow.domain false) (Rows.fnConflictsSpec.post enc Try.prog Try.f14 false true false false) := by
  refine returnsInHanded_of_change (C := Try.checked) own started (by kernel_rfl) Try.func14
    (ChangeSpec.witness6 (enc := enc) (C := Try.checked) false ⟨#[], #[.slice none 0 0], []⟩ 8 (by kernel_rfl) (by kernel_rfl) (by kernel_rfl) (by kernel_rfl)) ?_
  intro W base args ds gs before hval0 hW hcnd _
  have hval : ∀ (j : Nat) t v, Try.f14.params[j]? = some t → args[j]? = some v → Value.okWide Try.prog W .any base t v := hval0
  have hW' := hW
  obtain ⟨p, q, hA0, hV, hbef, hfz, hnd⟩ := hW
  have hA : DataW.TrodAll enc Try.prog W 0 (fun _ => true) true Try.f14.params.toList args.toList ds p := hA0
  rw [Try.params14] at hA hval
  obtain ⟨v0, vs0, d0, ds0, p0, q0, hargs, rfl, hp0, h0, r0⟩ := trodAll_cons hA
  obtain ⟨rfl, rfl, hpn⟩ := trodAll_nil r0
  obtain rfl : args = #[v0] := by cases args; simp_all
  obtain ⟨rfl, rfl⟩ := trodVars_none hV
  obtain ⟨a0, g0, w0⟩ := open_rows8 Try.underlying82 Try.underlying5 (by kernel_rfl) (hval 0 82 v0 rfl rfl) h0
  refine (FnConflicts_walk W _ a0 g0 w0).mono fun e W' ⟨he, hg⟩ => ?_
  subst he
  exact ⟨_, rfl, post_law laidOut (by kernel_rfl) rfl Try.underlying4 rfl ⟨rfl, rfl, rfl⟩ hW' hg⟩
theorem proved : Rows.FnConflictsSaid :=
  OpenClaim.holds_of_wide 14 Try.f14 rfl rfl rfl rfl rfl rfl rfl ⟨rfl, rfl, rfl, rfl, rfl⟩ rfl rfl rfl rfl rfl (by kernel_rfl) Try.func14 (by kernel_rfl)
    (of_decide_eq_true (by kernel_rfl)) (by unfold Func.isWrapper; first | (rw [if_pos (by decide +kernel)]; kernel_rfl) | (rw [if_neg (by decide +kernel)]; exact ⟨rfl, rfl⟩))
    (fun os started H enc _ => lifted os started H enc)
end fnConflicts
end Go.Proofs.Ytefidlecandnlaa
