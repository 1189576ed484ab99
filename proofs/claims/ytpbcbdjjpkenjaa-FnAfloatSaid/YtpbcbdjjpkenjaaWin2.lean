/- Windows of the minutes that a closure accepts: the program. No condition. -/
import Derived.Test.YtpbcbdjjpkenjaaWinL
namespace Go.Proofs.Ytpbcbdjjpkenjaa
open Go.RowKit
set_option linter.unusedVariables false
theorem Own.slot {α : Type} {w : World} {base sz N : Nat} {T : TypeId} {enc : α → List Value} {v : Value} {xs : List α} (h : Own w base T sz enc v xs) (hl : xs.length = N) (h0 : 0 < N) : ∃ g cap, v = .slice (some ⟨g, 0, none⟩) N cap ∧ base ≤ g ∧ g < w.heap.size ∧ N ≤ cap ∧ cap ≤ 9223372036854775807 := by
  rcases Own.cases h with ⟨_, rfl⟩ | ⟨g, cap, rfl, h1, h2, h3, h4⟩
  · simp at hl; omega
  · unfold maxLen at h4
    exact ⟨g, cap, by rw [hl], h1, h2, by omega, by omega⟩
theorem ownW_fin {w : World} {base g cap N l : Nat} {T : TypeId} {xs : List WindowD} (h : Own w base T 2 WindowD.enc (.slice (some ⟨g, 0, none⟩) N cap) xs) (hl : xs.length = N) (hi : l < N) : w.cell? ⟨g, l * 2 + 1, none⟩ = some (.int .i64 (xs.getD l default).fin) ∧ w.frozen? ⟨g, l * 2 + 1, none⟩ = false := by
  subst hl
  rw [getD_at hi]
  exact Own.cells (i := l) (j := 1) WindowD.enc_len h hi rfl
theorem ownW_set {w : World} {base g cap N l : Nat} {T : TypeId} {xs : List WindowD} (h : Own w base T 2 WindowD.enc (.slice (some ⟨g, 0, none⟩) N cap) xs) (hl : xs.length = N) (hi : l + 1 = N) (m : Int) : Own (w.setCell ⟨g, l * 2 + 1, none⟩ (.int .i64 m)) base T 2 WindowD.enc (.slice (some ⟨g, 0, none⟩) N cap) (setLast xs m) := by
  subst hl
  rw [setLast_eq hi]
  exact ownSetFin h (by omega) m
set_option maxRecDepth 100000 in
set_option maxHeartbeats 4000000 in
theorem cloLow_any (v1 v2 : Value) (f : ForeD) (m lv : Int) (gF gL : Nat) (w : World) (h : RdFore w w.heap.size v1 v2 f) (hok : foreOk f = true) (q0 : 0 ≤ m) (q1 : m ≤ 2880) (b0 : w.cell? ⟨gF, 0, none⟩ = some (.int .i64 f.m0)) (b1 : w.cell? ⟨gF, 1, none⟩ = some v1) (b2 : w.cell? ⟨gF, 2, none⟩ = some v2) (b3 : w.cell? ⟨gL, 0, none⟩ = some (.int .i64 lv)) (hF : gF < w.heap.size) (hL : gL < w.heap.size) :
    Calls Try.prog 101 #[.int .i64 m, .pointer (some ⟨gF, 0, none⟩), .pointer (some ⟨gL, 0, none⟩)] w fun e w' => e = .returned (.bool (decide (lv ≤ lowF f m))) ∧ Below w.heap.size w w' := by
  have HFR := hide h
  obtain ⟨m0, ps, ss⟩ := f
  obtain ⟨h1, h2⟩ := h
  simp only at h1 h2 b0 HFR ⊢
  obtain ⟨A1, c1, rfl, hc1, hm1, h1⟩ := h1
  obtain ⟨A2, c2, rfl, hc2, hm2, h2⟩ := h2
  clear h1 h2
  obtain ⟨l, hl⟩ : ∃ l, lowF ⟨m0, ps, ss⟩ m = l := ⟨_, rfl⟩
  have HL := hide hl
  rw [hl]
  clear hl
  have HOK := hide hok; clear hok
  go_enter Try.func101, Try.ntmps101
  go_wp2
  refine wp_region_below (Below.refl w.heap.size w) (by kernel_rfl) (by kernel_rfl) ?_
  repeat (first
    | go_big_quiet_skip
    | (go_big_quiet_want
       first
        | (refine quiet_value ?_; apply Exists.intro
           refine ⟨fun wq hq => ?_, ?_⟩
           · (obtain ⟨hc, hf⟩ := bcell hq; go_simp; first | done | rfl)
           go_big_quiet_on
           simp only [Act.put, List.setIfInBounds_toArray, List.set_cons_zero, List.set_cons_succ])
        | (refine quiet_call ?_; apply Exists.intro; apply Exists.intro; apply Exists.intro
           refine ⟨fun wq hq => ?_, fun wq hq => ?_, ?_⟩
           · (obtain ⟨hc, hf⟩ := bcell hq; go_simp; exact ⟨rfl, rfl⟩)
           · (first | with_reducible exact (calls_int (flow_any _ _ ⟨m0, ps, ss⟩ m _ ((HFR.out.keep hq (Nat.le_refl _)).mono hq.size) HOK.out q0 q1) HL.out).mono fun e w'' ⟨he, hw⟩ => ⟨he, hw ▸ hq⟩ | with_reducible exact (calls_int (flow_any _ _ ⟨m0, ps, ss⟩ m _ ((HFR.out.keep hq (Nat.le_refl _)).mono hq.size) HOK.out q0 q1) HL.out).mono fun e w'' ⟨he, hb'⟩ => ⟨he, bnext hq hb'⟩ |  exact (calls_int (flow_any _ _ ⟨m0, ps, ss⟩ m _ ((HFR.out.keep hq (Nat.le_refl _)).mono hq.size) HOK.out q0 q1) HL.out).mono fun e w'' ⟨he, hb'⟩ => ⟨he, bnext hq hb'⟩ |  exact (calls_int (flow_any _ _ ⟨m0, ps, ss⟩ m _ ((HFR.out.keep hq (Nat.le_refl _)).mono hq.size) HOK.out q0 q1) HL.out).mono fun e w'' ⟨he, hw⟩ => ⟨he, hw ▸ hq⟩)
           go_big_quiet_on
           simp only [Act.put, List.setIfInBounds_toArray, List.set_cons_zero, List.set_cons_succ])
        | (go_big_quiet_op; go_big_quiet_on)
       ))
  refine wpQuiet_nil (fun w5 hb5 => ?_)
  go_wp2
  go_ret
  exact ⟨rfl, hb5⟩
set_option maxRecDepth 100000 in
set_option maxHeartbeats 8000000 in
theorem winsLow_any (P1 P2 : Value) (acc : Nat → Bool) (w : World) (hacc : ∀ (m : Nat) (w1 : World), m ≤ 2880 → Below w.heap.size w w1 → Calls Try.prog 101 #[.int .i64 m, P1, P2] w1 fun e w' => e = .returned (.bool (acc m)) ∧ Below w1.heap.size w1 w') :
    Calls Try.prog 100 #[.func (.func 101) #[] #[P1, P2]] w fun e w' => ∃ v, e = .returned v ∧ Own w' w.heap.size 94 2 WindowD.enc v (winsTo acc 2881) ∧ Below w.heap.size w w' := by
  obtain ⟨i0, hi, hz0, hz1, hz2⟩ := info_parts window_info
  have HACC := hide hacc; clear hacc
  go_enter Try.func100, Try.ntmps100
  go_wp2
  have hou0 := own_built0 (enc := WindowD.enc) w 94 2
  have hb0 : Below w.heap.size w (w.alloc (.cells #[] 94)) := (Below.refl _ _).alloc (Nat.le_refl _) _
  go_loopw [3, 4, 5] (fun o s4 s wr => ∃ k : Nat, k ≤ 2881 ∧ s = .int .i64 k ∧ s4 = .bool (openAt acc k) ∧ Hid (Own wr w.heap.size 94 2 WindowD.enc o (winsTo acc k)) ∧ Below w.heap.size w wr) (fun _ _ s _ => 2881 - (intOf s).toNat)
  case atStart => exact ⟨0, Nat.zero_le _, rfl, rfl, hide hou0, hb0⟩
  case round =>
    clear hou0 hb0
    obtain ⟨k, hk, rfl, rfl, HO, hbk⟩ := hrel
    obtain ⟨wo, rfl⟩ : ∃ wo : World, wo = wr := ⟨_, rfl⟩
    have hbs := hbk.size
    by_cases hlt : k ≤ 2880
    · have hlt' : (k : Int) ≤ 2880 := by omega
      have hlen := winsTo_len acc k
      have HCL := hide (HACC.out k wo hlt hbk)
      rcases ch1 (acc k) with ga | ga
      · rw [ga] at HCL
        have HOP := hide (show openAt acc (k + 1) = true from ga)
        rcases ch1 (openAt acc k) with gl | gl
        · have HT := hide (winsTo_ext ga (by rw [open_last]; exact gl))
          obtain ⟨l, hl1, hl2⟩ := lastAt_iff.1 (show lastAt (winsTo acc k) ((k : Int) - 1) = true by rw [open_last]; exact gl)
          obtain ⟨xs, hxs⟩ : ∃ xs, winsTo acc k = xs := ⟨_, rfl⟩
          simp only [hxs] at HO hlen hl1 HT
          clear hl2 hxs ga
          obtain ⟨N, hN⟩ : ∃ N, xs.length = N := ⟨_, rfl⟩
          have hN0' : 0 < N := by omega
          have HN := hide hN
          obtain ⟨g, cap, rfl, hg0, hg1, hcp, hcm⟩ := Own.slot HO.out hN hN0'
          have hlN1 : l + 1 = N := by omega
          have HLN := hide hlN1
          have hlN : (l : Int) < N := by omega
          have hlN2 : l < N := by omega
          have hN0 : (0 : Int) < N := by omega
          have hN0n : 0 < N := by omega
          have hNk : N ≤ 2881 := by omega
          have hl1w : IntKind.i64.wrap ((N : Int) - 1) = (l : Int) := by rw [IntWalk.i64_in _ (by omega)]; omega
          have hlw2 : IntKind.i64.wrap (l : Int) = (l : Int) := IntWalk.i64_in _ (by omega)
          have hl1e : (N : Int) - 1 = l := by omega
          clear hl1 hN hlN1 hlen
          rw [gl]
          clear gl
          go_wp2_with (go_at_call 101; with_reducible refine HCL.out.mono ?_; rintro e5 w5 ⟨rfl, hb5⟩; have hgl5 : g < w5.heap.size := Nat.lt_of_lt_of_le hg1 hb5.size; have hof := ownW_fin (HO.out.below hb5) HN.out hlN2; have r1 := hof.1; have r2 := hof.2; clear hof)
          have HO2 := hide (ownW_set (HO.out.below hb5) HN.out HLN.out (k : Int))
          rw [← HT.out] at HO2
          have hbe : Below w.heap.size w (w5.setCell ⟨g, l * 2 + 1, none⟩ (.int .i64 k)) := (bnext hbk hb5 (Nat.le_refl _)).setCell (p := ⟨g, l * 2 + 1, none⟩) hg0 _
          go_roundw
          case rel => exact ⟨k + 1, by omega, by go_num, by rw [HOP.out], HO2, hbe⟩
          case measure => simp [intOf]; omega
        · have HT := hide (winsTo_new ga (by rw [open_last]; exact gl))
          obtain ⟨xs, hxs⟩ : ∃ xs, winsTo acc k = xs := ⟨_, rfl⟩
          simp only [hxs] at HO hlen HT
          clear hxs ga
          obtain ⟨A3, c3, hov, hc3, hm3, -⟩ := Own.rd WindowD.enc_len HO.out
          subst hov
          unfold maxLen at hm3
          obtain ⟨l, hl⟩ : ∃ l, xs.length = l := ⟨_, rfl⟩
          simp only [hl] at HO hlen hc3 ⊢
          obtain ⟨N, hN⟩ : ∃ N, l + 1 = N := ⟨_, rfl⟩
          have HNN := hide (show (xs ++ [(⟨k, 0⟩ : WindowD)]).length = N by simp; omega)
          have HLN := hide hN
          have hN0' : 0 < N := by omega
          have hlN : (l : Int) < N := by omega
          have hlN2 : l < N := by omega
          have hN0 : (0 : Int) < N := by omega
          have hN0n : 0 < N := by omega
          have hNk : N ≤ 2881 := by omega
          have hl1w : IntKind.i64.wrap ((N : Int) - 1) = (l : Int) := by rw [IntWalk.i64_in _ (by omega)]; omega
          have hlw2 : IntKind.i64.wrap (l : Int) = (l : Int) := IntWalk.i64_in _ (by omega)
          have hl1e : (N : Int) - 1 = l := by omega
          have HXL := hide hl
          clear hl hN
          rw [gl]
          clear gl
          go_wp2_with (first
            | (go_at_call 101; with_reducible refine HCL.out.mono ?_; rintro e5 w5 ⟨rfl, hb5⟩; have HO5 := hide (HO.out.below hb5); have hbk5 := bnext hbk hb5 (Nat.le_refl _); have hbs5 := hbk5.size)
            | (at_builtin; refine wpList_append_rd _ WindowD.enc_len WindowD.one (by rfl) _ _ 46 (by rfl) w.heap.size 94 i0 (.agg #[.int .i64 0, .int .i64 0]) 16 Try.underlying46 hi hz0 hz1 hz2 rfl (by decide) _ _ (by rfl) (HO5.out.below ((Below.refl _ _).alloc (Nat.le_refl _) _)) _ _ [(⟨k, 0⟩ : WindowD)] (by rfl) (rd_new (enc := WindowD.enc) _ ⟨k, 0⟩ _) (by have := HXL.out; unfold maxLen; simp; omega) (by have := HXL.out; simp; omega) (by simp; omega) ?_; intro r9 w9 hown9 hgrow9 hblk9; have hb9 := (hbk5.trans (((Below.refl _ _).alloc (Nat.le_refl _) _).mono hbs5)).trans (Own.belowGrown (B := w.heap.size) (HO5.out.below ((Below.refl _ _).alloc (Nat.le_refl _) _)) hgrow9 (Nat.le_refl _) (by simp; omega)); clear hgrow9 hblk9; obtain ⟨g9, cap9, rfl, hg90, hg91, hcp9, hcm9⟩ := Own.slot hown9 HNN.out hN0'; have hof := ownW_fin hown9 HNN.out hlN2; have r1 := hof.1; have r2 := hof.2; clear hof; have HO9 := hide hown9; clear hown9))
          have HO2 := hide (ownW_set HO9.out HNN.out HLN.out (k : Int))
          rw [setLast_new, ← HT.out] at HO2
          have hbe : Below w.heap.size w (w9.setCell ⟨g9, l * 2 + 1, none⟩ (.int .i64 k)) := hb9.setCell (p := ⟨g9, l * 2 + 1, none⟩) hg90 _
          go_roundw
          case rel => exact ⟨k + 1, by omega, by go_num, by rw [HOP.out], HO2, hbe⟩
          case measure => simp [intOf]; omega
      · rw [ga] at HCL
        have HT := hide (winsTo_skip ga)
        have HOP := hide (show openAt acc (k + 1) = false from ga)
        clear ga
        go_wp2_with (go_at_call 101; with_reducible refine HCL.out.mono ?_; rintro e5 w5 ⟨rfl, hb5⟩)
        go_roundw
        case rel => exact ⟨k + 1, by omega, by go_num, by rw [HOP.out], hide (by rw [HT.out]; exact HO.out.below hb5), bnext hbk hb5 (Nat.le_refl _)⟩
        case measure => simp [intOf]; omega
    · obtain rfl : k = 2881 := by omega
      go_wp2
      go_ret
      exact ⟨_, rfl, HO.out, hbk⟩
set_option maxRecDepth 100000 in
set_option maxHeartbeats 8000000 in
theorem impl_LowWindows_any (v1 v2 : Value) (f : ForeD) (lv : Int) (w : World) (h : RdFore w w.heap.size v1 v2 f) (hok : foreOk f = true) :
    Calls Try.prog 60 #[.agg #[.int .i64 f.m0, v1, v2], .int .i64 lv] w fun e w' => ∃ v, e = .returned v ∧ Own w' w.heap.size 94 2 WindowD.enc v (winsTo (fun m => decide (lv ≤ lowF f m)) 2881) ∧ Below w.heap.size w w' := by
  have HFR := hide h
  obtain ⟨m0, ps, ss⟩ := f
  obtain ⟨h1, h2⟩ := h
  simp only at h1 h2 HFR ⊢
  obtain ⟨A1, c1, rfl, hc1, hm1, h1⟩ := h1
  obtain ⟨A2, c2, rfl, hc2, hm2, h2⟩ := h2
  clear h1 h2
  have HOK := hide hok
  go_enter Try.func60, Try.ntmps60
  go_wp2_with (go_at_call 54; with_reducible refine (impl_ForecastOk_any _ _ ⟨m0, ps, ss⟩ _ ((HFR.out.keep (B' := w.heap.size) (by repeat (first | exact Below.refl _ _ | assumption | refine Below.setCell ?_ (by first | omega | (simp <;> omega)) _ | refine Below.alloc ?_ (by first | omega | (simp <;> omega)) _ | refine below_drewN ?_ _ | refine Below.drew ?_ | refine Below.trans ?_ (Below.mono (by assumption) (by first | omega | (simp <;> omega))))) (Nat.le_refl _)).mono (by first | omega | (simp <;> omega)))).mono ?_; rintro e w1 ⟨rfl, hb'⟩; (first | have hb := bnext hb hb' | have hb := bnextA hb hb' | have hb := hb'); clear hb'; obtain ⟨hc, hf⟩ := bcell hb; have hz := hb.size; (try simp at hz))
  have z0 : w1.cell? ⟨w.heap.size, 0, none⟩ = some (.int .i64 m0) := by rw [hc _ _ (by simp <;> omega)]; simp [go_sem]
  have z1 : w1.cell? ⟨w.heap.size, 1, none⟩ = some (.slice A1 ps.length c1) := by rw [hc _ _ (by simp <;> omega)]; simp [go_sem]
  have z2 : w1.cell? ⟨w.heap.size, 2, none⟩ = some (.slice A2 ss.length c2) := by rw [hc _ _ (by simp <;> omega)]; simp [go_sem]
  have z3 : w1.cell? ⟨w.heap.size + 1, 0, none⟩ = some (.int .i64 lv) := by rw [hc _ _ (by simp <;> omega)]; simp [go_sem]
  have hbw : Below w.heap.size w w1 := (by repeat (first | exact Below.refl _ _ | assumption | refine Below.setCell ?_ (by first | omega | (simp <;> omega)) _ | refine Below.alloc ?_ (by first | omega | (simp <;> omega)) _ | refine below_drewN ?_ _ | refine Below.drew ?_ | refine Below.trans ?_ (Below.mono (by assumption) (by first | omega | (simp <;> omega)))))
  have hs1 := hb.size
  simp only [World.size_alloc] at hs1
  have k1 : w.heap.size < w1.heap.size := by omega
  have k2 : w.heap.size + 1 < w1.heap.size := by omega
  refine (winsLow_any _ _ (fun m => decide (lv ≤ lowF ⟨m0, ps, ss⟩ m)) _ ?_).mono ?_
  · intro m w2 hm hb2
    have hs2 := hb2.size
    exact cloLow_any _ _ ⟨m0, ps, ss⟩ m lv w.heap.size (w.heap.size + 1) w2 ((HFR.out.keep (bnext hbw hb2 (Nat.le_refl _)) (Nat.le_refl _)).mono (by omega)) HOK.out (by omega) (by omega) (cellKeep hb2 z0 k1) (cellKeep hb2 z1 k1) (cellKeep hb2 z2 k1) (cellKeep hb2 z3 k2) (by omega) (by omega)
  · rintro e w2 ⟨v, rfl, ho, hb2⟩
    have HO := hide (ho.mono (base' := w.heap.size) (by omega)); clear ho
    go_wp2
    go_ret
    exact ⟨_, rfl, HO.out, bnext hbw hb2 (Nat.le_refl _)⟩
set_option maxRecDepth 100000 in
set_option maxHeartbeats 4000000 in
theorem cloHigh_any (v1 v2 : Value) (f : ForeD) (m lv : Int) (gF gL : Nat) (w : World) (h : RdFore w w.heap.size v1 v2 f) (hok : foreOk f = true) (q0 : 0 ≤ m) (q1 : m ≤ 2880) (b0 : w.cell? ⟨gF, 0, none⟩ = some (.int .i64 f.m0)) (b1 : w.cell? ⟨gF, 1, none⟩ = some v1) (b2 : w.cell? ⟨gF, 2, none⟩ = some v2) (b3 : w.cell? ⟨gL, 0, none⟩ = some (.int .i64 lv)) (hF : gF < w.heap.size) (hL : gL < w.heap.size) :
    Calls Try.prog 102 #[.int .i64 m, .pointer (some ⟨gF, 0, none⟩), .pointer (some ⟨gL, 0, none⟩)] w fun e w' => e = .returned (.bool (decide (lv ≤ highF f m))) ∧ Below w.heap.size w w' := by
  have HFR := hide h
  obtain ⟨m0, ps, ss⟩ := f
  obtain ⟨h1, h2⟩ := h
  simp only at h1 h2 b0 HFR ⊢
  obtain ⟨A1, c1, rfl, hc1, hm1, h1⟩ := h1
  obtain ⟨A2, c2, rfl, hc2, hm2, h2⟩ := h2
  clear h1 h2
  obtain ⟨l, hl⟩ : ∃ l, highF ⟨m0, ps, ss⟩ m = l := ⟨_, rfl⟩
  have HL := hide hl
  rw [hl]
  clear hl
  have HOK := hide hok; clear hok
  go_enter Try.func102, Try.ntmps102
  go_wp2
  refine wp_region_below (Below.refl w.heap.size w) (by kernel_rfl) (by kernel_rfl) ?_
  repeat (first
    | go_big_quiet_skip
    | (go_big_quiet_want
       first
        | (refine quiet_value ?_; apply Exists.intro
           refine ⟨fun wq hq => ?_, ?_⟩
           · (obtain ⟨hc, hf⟩ := bcell hq; go_simp; first | done | rfl)
           go_big_quiet_on
           simp only [Act.put, List.setIfInBounds_toArray, List.set_cons_zero, List.set_cons_succ])
        | (refine quiet_call ?_; apply Exists.intro; apply Exists.intro; apply Exists.intro
           refine ⟨fun wq hq => ?_, fun wq hq => ?_, ?_⟩
           · (obtain ⟨hc, hf⟩ := bcell hq; go_simp; exact ⟨rfl, rfl⟩)
           · (first | with_reducible exact (calls_int (fhigh_any _ _ ⟨m0, ps, ss⟩ m _ ((HFR.out.keep hq (Nat.le_refl _)).mono hq.size) HOK.out q0 q1) HL.out).mono fun e w'' ⟨he, hw⟩ => ⟨he, hw ▸ hq⟩ | with_reducible exact (calls_int (fhigh_any _ _ ⟨m0, ps, ss⟩ m _ ((HFR.out.keep hq (Nat.le_refl _)).mono hq.size) HOK.out q0 q1) HL.out).mono fun e w'' ⟨he, hb'⟩ => ⟨he, bnext hq hb'⟩ |  exact (calls_int (fhigh_any _ _ ⟨m0, ps, ss⟩ m _ ((HFR.out.keep hq (Nat.le_refl _)).mono hq.size) HOK.out q0 q1) HL.out).mono fun e w'' ⟨he, hb'⟩ => ⟨he, bnext hq hb'⟩ |  exact (calls_int (fhigh_any _ _ ⟨m0, ps, ss⟩ m _ ((HFR.out.keep hq (Nat.le_refl _)).mono hq.size) HOK.out q0 q1) HL.out).mono fun e w'' ⟨he, hw⟩ => ⟨he, hw ▸ hq⟩)
           go_big_quiet_on
           simp only [Act.put, List.setIfInBounds_toArray, List.set_cons_zero, List.set_cons_succ])
        | (go_big_quiet_op; go_big_quiet_on)
       ))
  refine wpQuiet_nil (fun w5 hb5 => ?_)
  go_wp2
  go_ret
  exact ⟨rfl, hb5⟩
set_option maxRecDepth 100000 in
set_option maxHeartbeats 8000000 in
theorem winsHigh_any (P1 P2 : Value) (acc : Nat → Bool) (w : World) (hacc : ∀ (m : Nat) (w1 : World), m ≤ 2880 → Below w.heap.size w w1 → Calls Try.prog 102 #[.int .i64 m, P1, P2] w1 fun e w' => e = .returned (.bool (acc m)) ∧ Below w1.heap.size w1 w') :
    Calls Try.prog 100 #[.func (.func 102) #[] #[P1, P2]] w fun e w' => ∃ v, e = .returned v ∧ Own w' w.heap.size 94 2 WindowD.enc v (winsTo acc 2881) ∧ Below w.heap.size w w' := by
  obtain ⟨i0, hi, hz0, hz1, hz2⟩ := info_parts window_info
  have HACC := hide hacc; clear hacc
  go_enter Try.func100, Try.ntmps100
  go_wp2
  have hou0 := own_built0 (enc := WindowD.enc) w 94 2
  have hb0 : Below w.heap.size w (w.alloc (.cells #[] 94)) := (Below.refl _ _).alloc (Nat.le_refl _) _
  go_loopw [3, 4, 5] (fun o s4 s wr => ∃ k : Nat, k ≤ 2881 ∧ s = .int .i64 k ∧ s4 = .bool (openAt acc k) ∧ Hid (Own wr w.heap.size 94 2 WindowD.enc o (winsTo acc k)) ∧ Below w.heap.size w wr) (fun _ _ s _ => 2881 - (intOf s).toNat)
  case atStart => exact ⟨0, Nat.zero_le _, rfl, rfl, hide hou0, hb0⟩
  case round =>
    clear hou0 hb0
    obtain ⟨k, hk, rfl, rfl, HO, hbk⟩ := hrel
    obtain ⟨wo, rfl⟩ : ∃ wo : World, wo = wr := ⟨_, rfl⟩
    have hbs := hbk.size
    by_cases hlt : k ≤ 2880
    · have hlt' : (k : Int) ≤ 2880 := by omega
      have hlen := winsTo_len acc k
      have HCL := hide (HACC.out k wo hlt hbk)
      rcases ch1 (acc k) with ga | ga
      · rw [ga] at HCL
        have HOP := hide (show openAt acc (k + 1) = true from ga)
        rcases ch1 (openAt acc k) with gl | gl
        · have HT := hide (winsTo_ext ga (by rw [open_last]; exact gl))
          obtain ⟨l, hl1, hl2⟩ := lastAt_iff.1 (show lastAt (winsTo acc k) ((k : Int) - 1) = true by rw [open_last]; exact gl)
          obtain ⟨xs, hxs⟩ : ∃ xs, winsTo acc k = xs := ⟨_, rfl⟩
          simp only [hxs] at HO hlen hl1 HT
          clear hl2 hxs ga
          obtain ⟨N, hN⟩ : ∃ N, xs.length = N := ⟨_, rfl⟩
          have hN0' : 0 < N := by omega
          have HN := hide hN
          obtain ⟨g, cap, rfl, hg0, hg1, hcp, hcm⟩ := Own.slot HO.out hN hN0'
          have hlN1 : l + 1 = N := by omega
          have HLN := hide hlN1
          have hlN : (l : Int) < N := by omega
          have hlN2 : l < N := by omega
          have hN0 : (0 : Int) < N := by omega
          have hN0n : 0 < N := by omega
          have hNk : N ≤ 2881 := by omega
          have hl1w : IntKind.i64.wrap ((N : Int) - 1) = (l : Int) := by rw [IntWalk.i64_in _ (by omega)]; omega
          have hlw2 : IntKind.i64.wrap (l : Int) = (l : Int) := IntWalk.i64_in _ (by omega)
          have hl1e : (N : Int) - 1 = l := by omega
          clear hl1 hN hlN1 hlen
          rw [gl]
          clear gl
          go_wp2_with (go_at_call 102; with_reducible refine HCL.out.mono ?_; rintro e5 w5 ⟨rfl, hb5⟩; have hgl5 : g < w5.heap.size := Nat.lt_of_lt_of_le hg1 hb5.size; have hof := ownW_fin (HO.out.below hb5) HN.out hlN2; have r1 := hof.1; have r2 := hof.2; clear hof)
          have HO2 := hide (ownW_set (HO.out.below hb5) HN.out HLN.out (k : Int))
          rw [← HT.out] at HO2
          have hbe : Below w.heap.size w (w5.setCell ⟨g, l * 2 + 1, none⟩ (.int .i64 k)) := (bnext hbk hb5 (Nat.le_refl _)).setCell (p := ⟨g, l * 2 + 1, none⟩) hg0 _
          go_roundw
          case rel => exact ⟨k + 1, by omega, by go_num, by rw [HOP.out], HO2, hbe⟩
          case measure => simp [intOf]; omega
        · have HT := hide (winsTo_new ga (by rw [open_last]; exact gl))
          obtain ⟨xs, hxs⟩ : ∃ xs, winsTo acc k = xs := ⟨_, rfl⟩
          simp only [hxs] at HO hlen HT
          clear hxs ga
          obtain ⟨A3, c3, hov, hc3, hm3, -⟩ := Own.rd WindowD.enc_len HO.out
          subst hov
          unfold maxLen at hm3
          obtain ⟨l, hl⟩ : ∃ l, xs.length = l := ⟨_, rfl⟩
          simp only [hl] at HO hlen hc3 ⊢
          obtain ⟨N, hN⟩ : ∃ N, l + 1 = N := ⟨_, rfl⟩
          have HNN := hide (show (xs ++ [(⟨k, 0⟩ : WindowD)]).length = N by simp; omega)
          have HLN := hide hN
          have hN0' : 0 < N := by omega
          have hlN : (l : Int) < N := by omega
          have hlN2 : l < N := by omega
          have hN0 : (0 : Int) < N := by omega
          have hN0n : 0 < N := by omega
          have hNk : N ≤ 2881 := by omega
          have hl1w : IntKind.i64.wrap ((N : Int) - 1) = (l : Int) := by rw [IntWalk.i64_in _ (by omega)]; omega
          have hlw2 : IntKind.i64.wrap (l : Int) = (l : Int) := IntWalk.i64_in _ (by omega)
          have hl1e : (N : Int) - 1 = l := by omega
          have HXL := hide hl
          clear hl hN
          rw [gl]
          clear gl
          go_wp2_with (first
            | (go_at_call 102; with_reducible refine HCL.out.mono ?_; rintro e5 w5 ⟨rfl, hb5⟩; have HO5 := hide (HO.out.below hb5); have hbk5 := bnext hbk hb5 (Nat.le_refl _); have hbs5 := hbk5.size)
            | (at_builtin; refine wpList_append_rd _ WindowD.enc_len WindowD.one (by rfl) _ _ 46 (by rfl) w.heap.size 94 i0 (.agg #[.int .i64 0, .int .i64 0]) 16 Try.underlying46 hi hz0 hz1 hz2 rfl (by decide) _ _ (by rfl) (HO5.out.below ((Below.refl _ _).alloc (Nat.le_refl _) _)) _ _ [(⟨k, 0⟩ : WindowD)] (by rfl) (rd_new (enc := WindowD.enc) _ ⟨k, 0⟩ _) (by have := HXL.out; unfold maxLen; simp; omega) (by have := HXL.out; simp; omega) (by simp; omega) ?_; intro r9 w9 hown9 hgrow9 hblk9; have hb9 := (hbk5.trans (((Below.refl _ _).alloc (Nat.le_refl _) _).mono hbs5)).trans (Own.belowGrown (B := w.heap.size) (HO5.out.below ((Below.refl _ _).alloc (Nat.le_refl _) _)) hgrow9 (Nat.le_refl _) (by simp; omega)); clear hgrow9 hblk9; obtain ⟨g9, cap9, rfl, hg90, hg91, hcp9, hcm9⟩ := Own.slot hown9 HNN.out hN0'; have hof := ownW_fin hown9 HNN.out hlN2; have r1 := hof.1; have r2 := hof.2; clear hof; have HO9 := hide hown9; clear hown9))
          have HO2 := hide (ownW_set HO9.out HNN.out HLN.out (k : Int))
          rw [setLast_new, ← HT.out] at HO2
          have hbe : Below w.heap.size w (w9.setCell ⟨g9, l * 2 + 1, none⟩ (.int .i64 k)) := hb9.setCell (p := ⟨g9, l * 2 + 1, none⟩) hg90 _
          go_roundw
          case rel => exact ⟨k + 1, by omega, by go_num, by rw [HOP.out], HO2, hbe⟩
          case measure => simp [intOf]; omega
      · rw [ga] at HCL
        have HT := hide (winsTo_skip ga)
        have HOP := hide (show openAt acc (k + 1) = false from ga)
        clear ga
        go_wp2_with (go_at_call 102; with_reducible refine HCL.out.mono ?_; rintro e5 w5 ⟨rfl, hb5⟩)
        go_roundw
        case rel => exact ⟨k + 1, by omega, by go_num, by rw [HOP.out], hide (by rw [HT.out]; exact HO.out.below hb5), bnext hbk hb5 (Nat.le_refl _)⟩
        case measure => simp [intOf]; omega
    · obtain rfl : k = 2881 := by omega
      go_wp2
      go_ret
      exact ⟨_, rfl, HO.out, hbk⟩
set_option maxRecDepth 100000 in
set_option maxHeartbeats 8000000 in
theorem impl_HighWindows_any (v1 v2 : Value) (f : ForeD) (lv : Int) (w : World) (h : RdFore w w.heap.size v1 v2 f) (hok : foreOk f = true) :
    Calls Try.prog 61 #[.agg #[.int .i64 f.m0, v1, v2], .int .i64 lv] w fun e w' => ∃ v, e = .returned v ∧ Own w' w.heap.size 94 2 WindowD.enc v (winsTo (fun m => decide (lv ≤ highF f m)) 2881) ∧ Below w.heap.size w w' := by
  have HFR := hide h
  obtain ⟨m0, ps, ss⟩ := f
  obtain ⟨h1, h2⟩ := h
  simp only at h1 h2 HFR ⊢
  obtain ⟨A1, c1, rfl, hc1, hm1, h1⟩ := h1
  obtain ⟨A2, c2, rfl, hc2, hm2, h2⟩ := h2
  clear h1 h2
  have HOK := hide hok
  go_enter Try.func61, Try.ntmps61
  go_wp2_with (go_at_call 54; with_reducible refine (impl_ForecastOk_any _ _ ⟨m0, ps, ss⟩ _ ((HFR.out.keep (B' := w.heap.size) (by repeat (first | exact Below.refl _ _ | assumption | refine Below.setCell ?_ (by first | omega | (simp <;> omega)) _ | refine Below.alloc ?_ (by first | omega | (simp <;> omega)) _ | refine below_drewN ?_ _ | refine Below.drew ?_ | refine Below.trans ?_ (Below.mono (by assumption) (by first | omega | (simp <;> omega))))) (Nat.le_refl _)).mono (by first | omega | (simp <;> omega)))).mono ?_; rintro e w1 ⟨rfl, hb'⟩; (first | have hb := bnext hb hb' | have hb := bnextA hb hb' | have hb := hb'); clear hb'; obtain ⟨hc, hf⟩ := bcell hb; have hz := hb.size; (try simp at hz))
  have z0 : w1.cell? ⟨w.heap.size, 0, none⟩ = some (.int .i64 m0) := by rw [hc _ _ (by simp <;> omega)]; simp [go_sem]
  have z1 : w1.cell? ⟨w.heap.size, 1, none⟩ = some (.slice A1 ps.length c1) := by rw [hc _ _ (by simp <;> omega)]; simp [go_sem]
  have z2 : w1.cell? ⟨w.heap.size, 2, none⟩ = some (.slice A2 ss.length c2) := by rw [hc _ _ (by simp <;> omega)]; simp [go_sem]
  have z3 : w1.cell? ⟨w.heap.size + 1, 0, none⟩ = some (.int .i64 lv) := by rw [hc _ _ (by simp <;> omega)]; simp [go_sem]
  have hbw : Below w.heap.size w w1 := (by repeat (first | exact Below.refl _ _ | assumption | refine Below.setCell ?_ (by first | omega | (simp <;> omega)) _ | refine Below.alloc ?_ (by first | omega | (simp <;> omega)) _ | refine below_drewN ?_ _ | refine Below.drew ?_ | refine Below.trans ?_ (Below.mono (by assumption) (by first | omega | (simp <;> omega)))))
  have hs1 := hb.size
  simp only [World.size_alloc] at hs1
  have k1 : w.heap.size < w1.heap.size := by omega
  have k2 : w.heap.size + 1 < w1.heap.size := by omega
  refine (winsHigh_any _ _ (fun m => decide (lv ≤ highF ⟨m0, ps, ss⟩ m)) _ ?_).mono ?_
  · intro m w2 hm hb2
    have hs2 := hb2.size
    exact cloHigh_any _ _ ⟨m0, ps, ss⟩ m lv w.heap.size (w.heap.size + 1) w2 ((HFR.out.keep (bnext hbw hb2 (Nat.le_refl _)) (Nat.le_refl _)).mono (by omega)) HOK.out (by omega) (by omega) (cellKeep hb2 z0 k1) (cellKeep hb2 z1 k1) (cellKeep hb2 z2 k1) (cellKeep hb2 z3 k2) (by omega) (by omega)
  · rintro e w2 ⟨v, rfl, ho, hb2⟩
    have HO := hide (ho.mono (base' := w.heap.size) (by omega)); clear ho
    go_wp2
    go_ret
    exact ⟨_, rfl, HO.out, bnext hbw hb2 (Nat.le_refl _)⟩
end Go.Proofs.Ytpbcbdjjpkenjaa
