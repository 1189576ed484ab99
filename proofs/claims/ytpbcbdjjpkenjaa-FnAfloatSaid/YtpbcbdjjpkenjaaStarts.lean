/- The minutes at which a ship can start: both texts. No condition. -/
import Derived.Test.YtpbcbdjjpkenjaaDraught
import Derived.Test.YtpbcbdjjpkenjaaWin1
import Derived.Test.YtpbcbdjjpkenjaaWin2
import Derived.Test.YtpbcbdjjpkenjaaWin3
import Derived.Deep.RegionHeld3
namespace Go.Proofs.Ytpbcbdjjpkenjaa
open Go.RowKit
set_option linter.unusedVariables false
def levF (hi : Bool) (f : ForeD) (m : Int) : Int := if hi = true then highF f m else lowF f m
def accL (hi : Bool) (f : ForeD) (lv : Int) (m : Nat) : Bool := decide (lv ≤ levF hi f m)
def startsOf (hi : Bool) (f : ForeD) (c : ChartD) (k : Int) (s : ShipD) : List WindowD := if (foreOk f && onSeg c k s) = true then shrinkL (minutesOn c k s) (winsTo (accL hi f (levelFor c k s)) 2881) else []
theorem startsOf_len (hi : Bool) (f : ForeD) (c : ChartD) (k : Int) (s : ShipD) : (startsOf hi f c k s).length ≤ 2881 := by
  unfold startsOf
  split
  · exact Nat.le_trans (shrinkL_len _ _) (winsTo_len _ _)
  · simp
theorem wins_ok (acc : Nat → Bool) : WinOk (winsTo acc 2881) 2881 := winsTo_ok acc 2881
set_option maxRecDepth 100000 in
set_option maxHeartbeats 16000000 in
theorem l04Levels_any (v1 v2 : Value) (f : ForeD) (lv : Int) (hi : Bool) (w : World) (h : RdFore w w.heap.size v1 v2 f) (hok : foreOk f = true) :
    Calls Try.prog 123 #[.agg #[.int .i64 f.m0, v1, v2], .int .i64 lv, .bool hi] w fun e w' => ∃ v, e = .returned v ∧ Own w' w.heap.size 94 2 WindowD.enc v (winsTo (accL hi f lv) 2881) ∧ Below w.heap.size w w' := by
  have HFR := hide h
  obtain ⟨m0, ps, ss⟩ := f
  obtain ⟨h1, h2⟩ := h
  simp only at h1 h2 HFR ⊢
  have HR1 := hide h1
  obtain ⟨A1, c1, rfl, hc1, hm1, h1⟩ := h1
  obtain ⟨A2, c2, rfl, hc2, hm2, h2⟩ := h2
  unfold maxLen at hm1 hm2
  clear h1 h2
  have HSR := hide (fun m : Int => surgeAt_range (m := m) hok)
  have HLB := hide (fun m : Int => level_bd (m := m) hok)
  have HT := hide (foreOk_of hok).1
  have HOK := hide hok; clear hok
  obtain ⟨j0, hj, hy0, hy1, hy2⟩ := info_parts bool_info
  go_enter Try.func123, Try.ntmps123
  go_wp2
  have hou0 := own_built0 (enc := encB) (w.alloc (.cells #[.int .i64 m0, .slice A1 ps.length c1, .slice A2 ss.length c2] 28)) 4 1
  simp only [World.size_alloc] at hou0
  have hbA : Below w.heap.size w ((w.alloc (.cells #[.int .i64 m0, .slice A1 ps.length c1, .slice A2 ss.length c2] 28)).alloc (.cells #[] 4)) := (by repeat (first | exact Below.refl _ _ | assumption | refine Below.setCell ?_ (by first | omega | (simp <;> omega)) _ | refine Below.alloc ?_ (by first | omega | (simp <;> omega)) _ | refine below_drewN ?_ _ | refine Below.drew ?_ | refine Below.trans ?_ (Below.mono (by assumption) (by first | omega | (simp <;> omega)))))
  have z0 : ((w.alloc (.cells #[.int .i64 m0, .slice A1 ps.length c1, .slice A2 ss.length c2] 28)).alloc (.cells #[] 4)).cell? ⟨w.heap.size, 0, none⟩ = some (.int .i64 m0) := by simp [go_sem]
  have z1 : ((w.alloc (.cells #[.int .i64 m0, .slice A1 ps.length c1, .slice A2 ss.length c2] 28)).alloc (.cells #[] 4)).cell? ⟨w.heap.size, 1, none⟩ = some (.slice A1 ps.length c1) := by simp [go_sem]
  have z2 : ((w.alloc (.cells #[.int .i64 m0, .slice A1 ps.length c1, .slice A2 ss.length c2] 28)).alloc (.cells #[] 4)).cell? ⟨w.heap.size, 2, none⟩ = some (.slice A2 ss.length c2) := by simp [go_sem]
  have hsA : w.heap.size + 1 < ((w.alloc (.cells #[.int .i64 m0, .slice A1 ps.length c1, .slice A2 ss.length c2] 28)).alloc (.cells #[] 4)).heap.size := by simp
  obtain ⟨gB, hgB⟩ : ∃ g, w.heap.size + 1 = g := ⟨_, rfl⟩
  rw [hgB] at hou0 hsA ⊢
  have k1 : w.heap.size < gB := by omega
  generalize ((w.alloc (.cells #[.int .i64 m0, .slice A1 ps.length c1, .slice A2 ss.length c2] 28)).alloc (.cells #[] 4)) = W0 at hou0 hbA z0 z1 z2 hsA ⊢
  have Z := hide (show BoxF W0 w.heap.size m0 (.slice A1 ps.length c1) (.slice A2 ss.length c2) from ⟨z0, z1, z2⟩)
  clear hgB z0 z1 z2
  go_loopw [7, 8] (fun o s wr => ∃ k : Nat, k ≤ 2881 ∧ s = .int .i64 k ∧ Hid (Own wr gB 4 1 encB o (boolRow k (accL hi ⟨m0, ps, ss⟩ lv))) ∧ Hid (BoxF wr w.heap.size m0 (.slice A1 ps.length c1) (.slice A2 ss.length c2)) ∧ gB < wr.heap.size ∧ Below w.heap.size w wr) (fun _ s _ => 2881 - (intOf s).toNat)
  case atStart => exact ⟨0, Nat.zero_le _, rfl, hide hou0, Z, hsA, hbA⟩
  case round =>
    clear hou0 hbA hsA Z
    obtain ⟨k, hk, rfl, HO, HZ, hgl, hbk⟩ := hrel
    obtain ⟨wo, rfl⟩ : ∃ wo : World, wo = wr := ⟨_, rfl⟩
    have hbs := hbk.size
    by_cases hlt : k ≤ 2880
    · have hlt' : (k : Int) ≤ 2880 := by omega
      have hk0 : (0 : Int) ≤ k := by omega
      have hrg := HSR.out (k : Int)
      have hlb := HLB.out (k : Int)
      obtain ⟨z0, z1, z2⟩ := HZ.out
      have hzl : w.heap.size < wo.heap.size := by omega
      have HVAL := hide (show accL hi ⟨m0, ps, ss⟩ lv k = decide (lv ≤ level m0 ps k + (if hi = true then (surgeAt ⟨m0, ps, ss⟩ k).high else (surgeAt ⟨m0, ps, ss⟩ k).low)) by unfold accL levF; cases hi <;> rfl)
      obtain ⟨bs, hbs'⟩ : ∃ bs, boolRow k (accL hi ⟨m0, ps, ss⟩ lv) = bs := ⟨_, rfl⟩
      have hbl : bs.length = k := by rw [← hbs']; exact boolRow_len _ _
      have HSUC := hide (show boolRow (k + 1) (accL hi ⟨m0, ps, ss⟩ lv) = bs ++ [accL hi ⟨m0, ps, ss⟩ lv k] by rw [← hbs']; exact boolRow_succ _ _)
      rw [hbs'] at HO
      clear hbs'
      obtain ⟨A3, c3, rfl, hc3, hm3, -⟩ := Own.rd encB_len HO.out
      unfold maxLen at hm3
      simp only [hbl] at HO hc3 ⊢
      have HBL := hide hbl; clear hbl
      obtain ⟨y, hy⟩ : ∃ y, surgeAt ⟨m0, ps, ss⟩ (k : Int) = y := ⟨_, rfl⟩
      obtain ⟨l, hl⟩ : ∃ l, level m0 ps (k : Int) = l := ⟨_, rfl⟩
      rw [hy] at hrg HVAL
      rw [hl] at hlb HVAL
      have HY := hide hy; have HL := hide hl
      clear hy hl
      obtain ⟨y0, y1, y2⟩ := y
      simp only at hrg HVAL
      cases hi
      all_goals
        simp only [Bool.false_eq_true, if_false, if_true] at HVAL
        go_wp2_with (first
          | (go_at_call 133; with_reducible refine (l03Surge_any _ _ ⟨m0, ps, ss⟩ _ _ ((HFR.out.keep (B' := w.heap.size) hbk (Nat.le_refl _)).mono hbs) HOK.out).mono ?_; rintro e w1 ⟨rfl, hb1⟩; rw [HY.out]; have hs1 := hb1.size; have y0' := cellKeep hb1 z0 hzl; have y1' := cellKeep hb1 z1 hzl; have y2' := cellKeep hb1 z2 hzl; have hzl1 : w.heap.size < w1.heap.size := by omega)
          | (go_at_call 112; with_reducible refine (l02Level_any m0 _ _ ps _ ((RdB.keep HR1.out (B' := w.heap.size) ((hbk.trans (hb1.mono hbs)).alloc (by omega) _) (Nat.le_refl _)).mono (by simp <;> omega)) HT.out hk0 hlt').mono ?_; rintro e w2 ⟨rfl, hb2⟩; rw [HL.out]; have hbw : Below wo.heap.size wo w2 := (hb1.alloc (by omega) _).trans (hb2.mono (by simp <;> omega)); clear hb2; have hs2 := hbw.size; have HO5 := hide (HO.out.below hbw))
          | (at_builtin; refine wpList_append_rd _ encB_len encB_one (by rfl) _ _ 160 (by rfl) gB 4 j0 (.bool false) 1 Try.underlying160 hj hy0 hy1 hy2 rfl (by decide) _ _ (by rfl) (HO5.out.below ((Below.refl _ _).alloc (Nat.le_refl _) _)) _ _ [_] (by rfl) (rd_new (enc := encB) _ _ _) (by have := HBL.out; unfold maxLen; simp <;> omega) (by have := HBL.out; simp <;> omega) (by simp <;> omega) ?_; intro r9 w9 hown9 hgrow9 hblk9))
        have hbg : Below gB wo w9 := ((hbw.mono (by omega)).alloc (by omega) _).trans (Own.belowGrown (B := gB) (HO5.out.below ((Below.refl _ _).alloc (Nat.le_refl _) _)) hgrow9 (Nat.le_refl _) (by simp <;> omega))
        go_roundw
        case rel => exact ⟨k + 1, by omega, by go_num, hide (by rw [HSUC.out, HVAL.out]; exact hown9), hide (HZ.out.keep hbg k1), Nat.lt_of_lt_of_le hgl hbg.size, hbk.trans (hbg.mono (by omega))⟩
        case measure => simp [intOf]; omega
    · obtain rfl : k = 2881 := by omega
      obtain ⟨bs, hbs'⟩ : ∃ bs, boolRow 2881 (accL hi ⟨m0, ps, ss⟩ lv) = bs := ⟨_, rfl⟩
      have HBS := hide hbs'
      rw [hbs'] at HO
      have hbl : bs.length = 2881 := by rw [← hbs']; exact boolRow_len _ _
      clear hbs'
      have HR9 := hide (Own.rd encB_len HO.out)
      obtain ⟨A3, c3, rfl, hc3, hm3, -⟩ := HR9.out
      unfold maxLen at hm3
      have HBL := hide hbl; clear hbl
      go_wp2_with (go_at_call 139; with_reducible refine (l04Of_any _ (accL hi ⟨m0, ps, ss⟩ lv) 2881 (Nat.le_refl _) _ (by rw [HBS.out]; exact HR9.out)).mono ?_; rintro e w2 ⟨v9, rfl, ho9, hb2⟩; have HO9 := hide ho9; clear ho9)
      go_ret
      exact ⟨_, rfl, HO9.out.mono hbs, bnext hbk hb2 (Nat.le_refl _)⟩
end Go.Proofs.Ytpbcbdjjpkenjaa
