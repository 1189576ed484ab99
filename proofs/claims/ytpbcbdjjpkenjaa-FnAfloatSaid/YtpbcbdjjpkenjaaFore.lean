/- Surges and forecasts: both texts. No condition. -/
import Derived.Test.YtpbcbdjjpkenjaaTide3
namespace Go.Proofs.Ytpbcbdjjpkenjaa
open Go.RowKit
set_option linter.unusedVariables false
theorem calls_bool {P : Program} {f : FuncId} {args : Array Value} {w : World} {R : World → Prop} {b c : Bool} (h : Calls P f args w fun e w' => e = .returned (.bool b) ∧ R w') (hb : b = c) : Calls P f args w fun e w' => e = .returned (.bool c) ∧ R w' := hb ▸ h
structure ForeD where
  m0 : Int
  parts : List PartD
  surges : List SurgeD
def surgeOk (s : SurgeD) : Bool := inB s.start 0 2880 && decide (-500 ≤ s.low) && decide (s.low ≤ s.high) && decide (s.high ≤ 500)
def surgeRow (ss : List SurgeD) (i : Nat) : Bool := surgeOk (ss.getD i default) && (decide (i = 0) || decide ((ss.getD (i - 1) default).start < (ss.getD i default).start))
def foreOk (f : ForeD) : Bool := tideOk f.m0 f.parts && inB (f.surges.length : Int) 1 6 && decide ((f.surges.getD 0 default).start = 0) && allUpTo (surgeRow f.surges) f.surges.length
def RdFore (w : World) (B : Nat) (v1 v2 : Value) (f : ForeD) : Prop := RdB w B 3 PartD.enc v1 f.parts ∧ RdB w B 3 SurgeD.enc v2 f.surges
theorem RdFore.keep {w w' : World} {B B' : Nat} {v1 v2 : Value} {f : ForeD} (h : RdFore w B v1 v2 f) (hb : Below B' w w') (hB : B ≤ B') : RdFore w' B v1 v2 f := ⟨h.1.keep hb hB, h.2.keep hb hB⟩
theorem RdFore.mono {w : World} {B B' : Nat} {v1 v2 : Value} {f : ForeD} (h : RdFore w B v1 v2 f) (hB : B ≤ B') : RdFore w B' v1 v2 f := ⟨h.1.mono hB, h.2.mono hB⟩
/-- the surge at a minute, among the first k -/
def surgeIdx (ss : List SurgeD) (m : Int) : Nat → Nat
  | 0 => 0
  | k + 1 => if (ss.getD k default).start ≤ m then k else surgeIdx ss m k
theorem surgeIdx_lt (ss : List SurgeD) (m : Int) : ∀ k, 0 < k → surgeIdx ss m k < k
  | 0, h => by omega
  | k + 1, _ => by
    rw [surgeIdx]; split
    · omega
    · rcases Nat.eq_zero_or_pos k with h | h
      · subst h; simp [surgeIdx]
      · have := surgeIdx_lt ss m k h; omega
def surgeAt (f : ForeD) (m : Int) : SurgeD := f.surges.getD (surgeIdx f.surges m f.surges.length) default
def lowF (f : ForeD) (m : Int) : Int := level f.m0 f.parts m + (surgeAt f m).low
def highF (f : ForeD) (m : Int) : Int := level f.m0 f.parts m + (surgeAt f m).high
def lowAt (f : ForeD) (m : Int) : Int := if (foreOk f && inB m 0 2880) = true then lowF f m else 0
theorem foreOk_of {f : ForeD} (h : foreOk f = true) : tideOk f.m0 f.parts = true ∧ 1 ≤ f.surges.length ∧ f.surges.length ≤ 6 ∧ ∀ k (hk : k < f.surges.length), surgeOk f.surges[k] = true := by
  simp only [foreOk, Bool.and_eq_true] at h
  obtain ⟨⟨⟨h1, h2⟩, h3⟩, h4⟩ := h
  simp [inB] at h2
  refine ⟨h1, by omega, by omega, fun k hk => ?_⟩
  have := allUpTo_iff.1 h4 k hk
  unfold surgeRow at this
  rw [getD_at hk] at this
  simp only [Bool.and_eq_true] at this
  exact this.1
theorem surgeOk_of {s : SurgeD} (h : surgeOk s = true) : 0 ≤ s.start ∧ s.start ≤ 2880 ∧ -500 ≤ s.low ∧ s.low ≤ s.high ∧ s.high ≤ 500 := by
  simp [surgeOk, inB] at h; omega
theorem surgeAt_range {f : ForeD} {m : Int} (h : foreOk f = true) : -500 ≤ (surgeAt f m).low ∧ (surgeAt f m).low ≤ 500 ∧ -500 ≤ (surgeAt f m).high ∧ (surgeAt f m).high ≤ 500 := by
  obtain ⟨_, h1, _, h2⟩ := foreOk_of h
  have hlt := surgeIdx_lt f.surges m f.surges.length h1
  have := surgeOk_of (h2 _ hlt)
  unfold surgeAt
  rw [getD_at hlt]
  omega
theorem level_bd {f : ForeD} {m : Int} (h : foreOk f = true) : -5000 ≤ level f.m0 f.parts m ∧ level f.m0 f.parts m ≤ 5000 := by
  obtain ⟨h1, _⟩ := foreOk_of h
  obtain ⟨t0, t1, t2, t3⟩ := tideOk_of h1
  have := level_range (m0 := f.m0) (m := m) t3
  omega
theorem low_range {f : ForeD} {m : Int} (h : foreOk f = true) : -6000 ≤ lowF f m ∧ lowF f m ≤ 6000 := by
  have a := surgeAt_range (m := m) h; have b := level_bd (m := m) h; unfold lowF; omega
theorem high_range {f : ForeD} {m : Int} (h : foreOk f = true) : -6000 ≤ highF f m ∧ highF f m ≤ 6000 := by
  have a := surgeAt_range (m := m) h; have b := level_bd (m := m) h; unfold highF; omega
set_option maxHeartbeats 4000000 in
theorem spec_SurgeOk_any (x0 x1 x2 : Int) (w : World) :
    Calls Try.prog 107 #[.agg #[.int .i64 x0, .int .i64 x1, .int .i64 x2]] w fun e w' => e = .returned (.bool (surgeOk ⟨x0, x1, x2⟩)) ∧ Below w.heap.size w w' := by
  have HV := hide (show surgeOk ⟨x0, x1, x2⟩ = (inB x0 0 2880 && decide (-500 ≤ x1) && decide (x1 ≤ x2) && decide (x2 ≤ 500)) from rfl)
  go_enter Try.func107, Try.ntmps107
  go_wp2_with (go_at_call 68; with_reducible refine (l01In_any _ _ _ _).mono ?_; rintro e w1 ⟨rfl, hw⟩; obtain rfl := hw.symm)
  all_goals go_ret
  all_goals exact ⟨by rw [HV.out]; simp only [inB] at *; simp_all <;> omega, (by repeat (first | exact Below.refl _ _ | assumption | refine Below.setCell ?_ (by first | omega | (simp <;> omega)) _ | refine Below.alloc ?_ (by first | omega | (simp <;> omega)) _ | refine below_drewN ?_ _ | refine Below.drew ?_ | refine Below.trans ?_ (Below.mono (by assumption) (by first | omega | (simp <;> omega)))))⟩
set_option maxHeartbeats 4000000 in
theorem impl_SurgeOk_any (x0 x1 x2 : Int) (w : World) :
    Calls Try.prog 97 #[.agg #[.int .i64 x0, .int .i64 x1, .int .i64 x2]] w fun e w' => e = .returned (.bool (surgeOk ⟨x0, x1, x2⟩)) ∧ Below w.heap.size w w' := by
  have HV := hide (show surgeOk ⟨x0, x1, x2⟩ = (inB x0 0 2880 && decide (-500 ≤ x1) && decide (x1 ≤ x2) && decide (x2 ≤ 500)) from rfl)
  go_enter Try.func97, Try.ntmps97
  go_wp2_with (go_at_call 55; with_reducible refine (isMinute_any _ _).mono ?_; rintro e w1 ⟨rfl, hw⟩; obtain rfl := hw.symm)
  all_goals go_ret
  all_goals exact ⟨by rw [HV.out]; simp only [inB] at *; simp_all <;> omega, (by repeat (first | exact Below.refl _ _ | assumption | refine Below.setCell ?_ (by first | omega | (simp <;> omega)) _ | refine Below.alloc ?_ (by first | omega | (simp <;> omega)) _ | refine below_drewN ?_ _ | refine Below.drew ?_ | refine Below.trans ?_ (Below.mono (by assumption) (by first | omega | (simp <;> omega)))))⟩
set_option maxRecDepth 100000 in
set_option maxHeartbeats 16000000 in
theorem spec_ForecastOk_any (v1 v2 : Value) (f : ForeD) (w : World) (h : RdFore w w.heap.size v1 v2 f) :
    Calls Try.prog 66 #[.agg #[.int .i64 f.m0, v1, v2]] w fun e w' => e = .returned (.bool (foreOk f)) ∧ Below w.heap.size w w' := by
  obtain ⟨m0, ps, ss⟩ := f
  obtain ⟨h1, h2⟩ := h
  simp only at h1 h2 ⊢
  have HR1 := hide h1
  obtain ⟨A1, c1, rfl, hc1, hm1, h1⟩ := h1
  obtain ⟨A2, c2, rfl, hc2, hm2, h2⟩ := h2
  unfold maxLen at hm1 hm2
  clear h1
  have H2 := hide h2; clear h2
  have HV := hide (show foreOk ⟨m0, ps, ss⟩ = (tideOk m0 ps && inB (ss.length : Int) 1 6 && decide ((ss.getD 0 default).start = 0) && allUpTo (surgeRow ss) ss.length) from rfl)
  rcases ch3 (tideOk m0 ps) (inB (ss.length : Int) 1 6) (decide ((ss.getD 0 default).start = 0)) with ⟨g1, g2, g3⟩ | g1 | ⟨g1, g2⟩ | ⟨g1, g2, g3⟩
  · have hl : 1 ≤ (ss.length : Int) ∧ (ss.length : Int) ≤ 6 := by simp [inB] at g2; omega
    have hV := HV.out
    rw [g1, g2, g3] at hV
    simp only [Bool.true_and] at hV
    replace HV := hide hV; clear hV
    have h0 : 0 < ss.length := by omega
    obtain ⟨b2, o2, rfl, hb2, hcell2⟩ := H2.out h0
    have z0 : w.cell? ⟨b2, o2, none⟩ = some (.int .i64 ss[0].start) := by have := hcell2 0 ss[0] (List.getElem?_eq_getElem h0) 0 _ rfl; simpa using this
    have hs0 : ss[0].start = 0 := by rw [getD_at h0] at g3; simpa using g3
    rw [hs0] at z0
    have HC2 := hide hcell2
    clear hcell2 hs0 g3
    go_enter Try.func66, Try.ntmps66
    go_wp2_with (first
      | (go_at_call 106; with_reducible refine (spec_TideOk_any _ _ ps _ ((RdB.keep HR1.out (B' := w.heap.size) (by repeat (first | exact Below.refl _ _ | assumption | refine Below.setCell ?_ (by first | omega | (simp <;> omega)) _ | refine Below.alloc ?_ (by first | omega | (simp <;> omega)) _ | refine below_drewN ?_ _ | refine Below.drew ?_ | refine Below.trans ?_ (Below.mono (by assumption) (by first | omega | (simp <;> omega))))) (Nat.le_refl _)).mono (by first | omega | (simp <;> omega)))).mono ?_; rintro e w1 ⟨rfl, hb'⟩; (first | have hb := bnext hb hb' | have hb := bnextA hb hb' | have hb := hb'); clear hb'; obtain ⟨hc, hf⟩ := bcell hb; have hz := hb.size; (try simp at hz))
      | (go_at_call 68; with_reducible refine (l01In_any _ _ _ _).mono ?_; rintro e w1 ⟨rfl, hw⟩; obtain rfl := hw.symm))
    clear g1 g2
    have Z2 := hide (show w1.cell? ⟨w.heap.size, 2, none⟩ = some (.slice (some ⟨b2, o2, none⟩) ss.length c2) by rw [hc _ _ (by simp)]; simp [go_sem])
    have hs1 := hb.size
    simp only [World.size_alloc] at hs1
    have hl1 : w.heap.size < w1.heap.size := by omega
    have hbw : Below w.heap.size w w1 := (by repeat (first | exact Below.refl _ _ | assumption | refine Below.setCell ?_ (by first | omega | (simp <;> omega)) _ | refine Below.alloc ?_ (by first | omega | (simp <;> omega)) _ | refine below_drewN ?_ _ | refine Below.drew ?_ | refine Below.trans ?_ (Below.mono (by assumption) (by first | omega | (simp <;> omega)))))
    clear hc hf hz hb
    go_loopw [27] (fun i wr => ∃ k : Nat, k ≤ ss.length ∧ i = .int .i64 k ∧ Hid (allUpTo (surgeRow ss) k = true) ∧ Below w1.heap.size w1 wr) (fun i _ => ss.length - (intOf i).toNat)
    case atStart => exact ⟨0, Nat.zero_le _, rfl, hide rfl, Below.refl _ _⟩
    case round =>
      obtain ⟨k, hk, rfl, HN, hbk⟩ := hrel
      obtain ⟨wo, rfl⟩ : ∃ wo : World, wo = wr := ⟨_, rfl⟩
      have hbs := hbk.size
      have hb0 := bnext hbw hbk (Nat.le_refl _)
      by_cases hlt : k < ss.length
      · have hcell2 := HC2.out
        have e0 : wo.cell? ⟨b2, o2 + k * 3, none⟩ = some (.int .i64 ss[k].start) := by
          rw [hb0.cell (p := ⟨b2, _, none⟩) hb2]; have := hcell2 k ss[k] (List.getElem?_eq_getElem hlt) 0 _ rfl; simpa using this
        have e1 : wo.cell? ⟨b2, o2 + k * 3 + 1, none⟩ = some (.int .i64 ss[k].low) := by
          rw [hb0.cell (p := ⟨b2, _, none⟩) hb2]; have := hcell2 k ss[k] (List.getElem?_eq_getElem hlt) 1 _ rfl; simpa using this
        have e2 : wo.cell? ⟨b2, o2 + k * 3 + 2, none⟩ = some (.int .i64 ss[k].high) := by
          rw [hb0.cell (p := ⟨b2, _, none⟩) hb2]; have := hcell2 k ss[k] (List.getElem?_eq_getElem hlt) 2 _ rfl; simpa using this
        have y2 := cellKeep hbk Z2.out hl1
        have HX := hide (getD_at hlt)
        have HRW := hide (show surgeRow ss k = (surgeOk ss[k] && (decide (k = 0) || decide ((ss.getD (k - 1) default).start < ss[k].start))) by unfold surgeRow; rw [HX.out])
        obtain ⟨x, hx⟩ : ∃ x, ss[k] = x := ⟨_, rfl⟩
        rw [hx] at e0 e1 e2 HRW
        clear hcell2 hx HX
        go_wp2_with fail
        generalize hW0 : (wo.alloc (.cells #[.int .i64 x.start, .int .i64 x.low, .int .i64 x.high] 119)) = W0
        have hB0 : Below wo.heap.size wo W0 := by rw [← hW0]; exact (by repeat (first | exact Below.refl _ _ | assumption | refine Below.setCell ?_ (by first | omega | (simp <;> omega)) _ | refine Below.alloc ?_ (by first | omega | (simp <;> omega)) _ | refine below_drewN ?_ _ | refine Below.drew ?_ | refine Below.trans ?_ (Below.mono (by assumption) (by first | omega | (simp <;> omega)))))
        have hl0 : wo.heap.size < W0.heap.size := by rw [← hW0]; simp
        have hx0 : W0.cell? ⟨wo.heap.size, 0, none⟩ = some (.int .i64 x.start) := by rw [← hW0]; simp [go_sem]
        have hx1 : W0.cell? ⟨wo.heap.size, 1, none⟩ = some (.int .i64 x.low) := by rw [← hW0]; simp [go_sem]
        have hx2 : W0.cell? ⟨wo.heap.size, 2, none⟩ = some (.int .i64 x.high) := by rw [← hW0]; simp [go_sem]
        clear hW0
        have hbw0 := bnext hb0 hB0 (Nat.le_refl _)
        have y2' := cellKeep hB0 y2 (by omega)
        have hl5 : w.heap.size < W0.heap.size := by omega
        have hbe0 := bnext hbk hB0 (Nat.le_refl _)
        rcases ch1 (surgeOk ⟨x.start, x.low, x.high⟩) with gs | gs
        · rcases Nat.eq_zero_or_pos k with hk0 | hk0
          · have hkz : ¬ (0 : Int) < k := by omega
            have hkd : decide ((0 : Int) < k) = false := by simp; omega
            have hkd2 : decide (0 < k) = false := by simp; omega
            have HG := hide (show surgeRow ss k = true by rw [HRW.out, show x = ⟨x.start, x.low, x.high⟩ from rfl, gs]; simp [hk0])
            clear hk0
            refine wp_region_below (Below.refl W0.heap.size _) (by kernel_rfl) (by kernel_rfl) ?_
            repeat (first
              | go_big_quiet_skip
              | (go_big_quiet_want
                 first
                  | (refine quiet_value ?_; apply Exists.intro
                     refine ⟨fun wq hq => ?_, ?_⟩
                     · (obtain ⟨hc, hf⟩ := bcell hq; go_simp; first | done | rfl)
                     go_big_quiet_on
                     simp only [Act.put, List.setIfInBounds_toArray, List.set_cons_zero, List.set_cons_succ])
                  | (refine quiet_call ?_; apply Exists.intro; apply Exists.intro; apply Exists.intro
                     refine ⟨fun wq hq => ?_, fun wq hq => ?_, ?_⟩
                     · (obtain ⟨hc, hf⟩ := bcell hq; go_simp; exact ⟨rfl, rfl⟩)
                     · (first | with_reducible exact (calls_bool (spec_SurgeOk_any x.start x.low x.high _) gs).mono fun e w'' ⟨he, hw⟩ => ⟨he, hw ▸ hq⟩ | with_reducible exact (calls_bool (spec_SurgeOk_any x.start x.low x.high _) gs).mono fun e w'' ⟨he, hb'⟩ => ⟨he, bnext hq hb'⟩ |  exact (calls_bool (spec_SurgeOk_any x.start x.low x.high _) gs).mono fun e w'' ⟨he, hb'⟩ => ⟨he, bnext hq hb'⟩ |  exact (calls_bool (spec_SurgeOk_any x.start x.low x.high _) gs).mono fun e w'' ⟨he, hw⟩ => ⟨he, hw ▸ hq⟩)
                     go_big_quiet_on
                     simp only [Act.put, List.setIfInBounds_toArray, List.set_cons_zero, List.set_cons_succ])
                  | (go_big_quiet_op; go_big_quiet_on)
                 ))
            refine wpQuiet_nil (fun w5 hb5 => ?_)
            go_wp2
            go_roundw
            case rel => exact ⟨k + 1, by omega, by go_num, hide (allUpTo_succ HN.out HG.out), bnext hbe0 hb5 (Nat.le_refl _)⟩
            case measure => simp [intOf]; omega
          · obtain ⟨j, hj⟩ : ∃ j, k = j + 1 := ⟨k - 1, by omega⟩
            have hkz : (0 : Int) < k := by omega
            have hkd : decide ((0 : Int) < k) = true := by simp; omega
            have hkd2 : decide (0 < k) = true := by simp; omega
            have hkp : 0 < k := hk0
            have hkj : (k : Int) - 1 = j := by omega
            have hwj : IntKind.i64.wrap ((k : Int) - 1) = j := by rw [IntWalk.i64_in _ (by omega)]; omega
            have hwj2 : IntKind.i64.wrap (j : Int) = j := IntWalk.i64_in _ (by omega)
            have hjl : j < ss.length := by omega
            have hjl' : (j : Int) < ss.length := by omega
            have hj0 : (0 : Int) ≤ j := by omega
            have p0 : W0.cell? ⟨b2, o2 + j * 3, none⟩ = some (.int .i64 ss[j].start) := by rw [hbw0.cell (p := ⟨b2, _, none⟩) hb2]; have := HC2.out j ss[j] (List.getElem?_eq_getElem hjl) 0 _ rfl; simpa using this
            have hb25 : b2 < W0.heap.size := by omega
            have HRW2 := hide (show surgeRow ss k = decide (ss[j].start < x.start) by rw [HRW.out, show x = ⟨x.start, x.low, x.high⟩ from rfl, gs, show k - 1 = j by omega, getD_at hjl]; simp; omega)
            obtain ⟨y, hy⟩ : ∃ y, ss[j].start = y := ⟨_, rfl⟩
            rw [hy] at p0 HRW2
            clear hy hj hk0
            by_cases hyx : y < x.start
            · have HG := hide (show surgeRow ss k = true by rw [HRW2.out]; simpa using hyx)
              have hd1 : decide (x.start ≤ y) = false := by simp; omega
              clear hyx
              refine wp_region_below (Below.refl W0.heap.size _) (by kernel_rfl) (by kernel_rfl) ?_
              repeat (first
                | go_big_quiet_skip
                | (go_big_quiet_want
                   first
                    | (refine quiet_value ?_; apply Exists.intro
                       refine ⟨fun wq hq => ?_, ?_⟩
                       · (obtain ⟨hc, hf⟩ := bcell hq; go_simp; first | done | rfl)
                       go_big_quiet_on
                       simp only [Act.put, List.setIfInBounds_toArray, List.set_cons_zero, List.set_cons_succ])
                    | (refine quiet_call ?_; apply Exists.intro; apply Exists.intro; apply Exists.intro
                       refine ⟨fun wq hq => ?_, fun wq hq => ?_, ?_⟩
                       · (obtain ⟨hc, hf⟩ := bcell hq; go_simp; exact ⟨rfl, rfl⟩)
                       · (first | with_reducible exact (calls_bool (spec_SurgeOk_any x.start x.low x.high _) gs).mono fun e w'' ⟨he, hw⟩ => ⟨he, hw ▸ hq⟩ | with_reducible exact (calls_bool (spec_SurgeOk_any x.start x.low x.high _) gs).mono fun e w'' ⟨he, hb'⟩ => ⟨he, bnext hq hb'⟩ |  exact (calls_bool (spec_SurgeOk_any x.start x.low x.high _) gs).mono fun e w'' ⟨he, hb'⟩ => ⟨he, bnext hq hb'⟩ |  exact (calls_bool (spec_SurgeOk_any x.start x.low x.high _) gs).mono fun e w'' ⟨he, hw⟩ => ⟨he, hw ▸ hq⟩)
                       go_big_quiet_on
                       simp only [Act.put, List.setIfInBounds_toArray, List.set_cons_zero, List.set_cons_succ])
                    | (go_big_quiet_op; go_big_quiet_on)
                   ))
              refine wpQuiet_nil (fun w5 hb5 => ?_)
              go_wp2
              go_roundw
              case rel => exact ⟨k + 1, by omega, by go_num, hide (allUpTo_succ HN.out HG.out), bnext hbe0 hb5 (Nat.le_refl _)⟩
              case measure => simp [intOf]; omega
            · have HF := hide (show foreOk ⟨m0, ps, ss⟩ = false by rw [HV.out]; exact allUpTo_bad hlt (by rw [HRW2.out]; simpa using hyx))
              have hd1 : decide (x.start ≤ y) = true := by simp; omega
              clear hyx
              refine wp_region_below (Below.refl W0.heap.size _) (by kernel_rfl) (by kernel_rfl) ?_
              repeat (first
                | go_big_quiet_skip
                | (go_big_quiet_want
                   first
                    | (refine quiet_value ?_; apply Exists.intro
                       refine ⟨fun wq hq => ?_, ?_⟩
                       · (obtain ⟨hc, hf⟩ := bcell hq; go_simp; first | done | rfl)
                       go_big_quiet_on
                       simp only [Act.put, List.setIfInBounds_toArray, List.set_cons_zero, List.set_cons_succ])
                    | (refine quiet_call ?_; apply Exists.intro; apply Exists.intro; apply Exists.intro
                       refine ⟨fun wq hq => ?_, fun wq hq => ?_, ?_⟩
                       · (obtain ⟨hc, hf⟩ := bcell hq; go_simp; exact ⟨rfl, rfl⟩)
                       · (first | with_reducible exact (calls_bool (spec_SurgeOk_any x.start x.low x.high _) gs).mono fun e w'' ⟨he, hw⟩ => ⟨he, hw ▸ hq⟩ | with_reducible exact (calls_bool (spec_SurgeOk_any x.start x.low x.high _) gs).mono fun e w'' ⟨he, hb'⟩ => ⟨he, bnext hq hb'⟩ |  exact (calls_bool (spec_SurgeOk_any x.start x.low x.high _) gs).mono fun e w'' ⟨he, hb'⟩ => ⟨he, bnext hq hb'⟩ |  exact (calls_bool (spec_SurgeOk_any x.start x.low x.high _) gs).mono fun e w'' ⟨he, hw⟩ => ⟨he, hw ▸ hq⟩)
                       go_big_quiet_on
                       simp only [Act.put, List.setIfInBounds_toArray, List.set_cons_zero, List.set_cons_succ])
                    | (go_big_quiet_op; go_big_quiet_on)
                   ))
              refine wpQuiet_nil (fun w5 hb5 => ?_)
              go_wp2
              go_ret
              exact ⟨by rw [HF.out]; first | done | rfl, bnext hbw (bnext hbe0 hb5 (Nat.le_refl _)) (Nat.le_refl _)⟩
        · have HF := hide (show foreOk ⟨m0, ps, ss⟩ = false by rw [HV.out]; exact allUpTo_bad hlt (by rw [HRW.out, show x = ⟨x.start, x.low, x.high⟩ from rfl, gs]; rfl))
          refine wp_region_below (Below.refl W0.heap.size _) (by kernel_rfl) (by kernel_rfl) ?_
          repeat (first
            | go_big_quiet_skip
            | (go_big_quiet_want
               first
                | (refine quiet_value ?_; apply Exists.intro
                   refine ⟨fun wq hq => ?_, ?_⟩
                   · (obtain ⟨hc, hf⟩ := bcell hq; go_simp; first | done | rfl)
                   go_big_quiet_on
                   simp only [Act.put, List.setIfInBounds_toArray, List.set_cons_zero, List.set_cons_succ])
                | (refine quiet_call ?_; apply Exists.intro; apply Exists.intro; apply Exists.intro
                   refine ⟨fun wq hq => ?_, fun wq hq => ?_, ?_⟩
                   · (obtain ⟨hc, hf⟩ := bcell hq; go_simp; exact ⟨rfl, rfl⟩)
                   · (first | with_reducible exact (calls_bool (spec_SurgeOk_any x.start x.low x.high _) gs).mono fun e w'' ⟨he, hw⟩ => ⟨he, hw ▸ hq⟩ | with_reducible exact (calls_bool (spec_SurgeOk_any x.start x.low x.high _) gs).mono fun e w'' ⟨he, hb'⟩ => ⟨he, bnext hq hb'⟩ |  exact (calls_bool (spec_SurgeOk_any x.start x.low x.high _) gs).mono fun e w'' ⟨he, hb'⟩ => ⟨he, bnext hq hb'⟩ |  exact (calls_bool (spec_SurgeOk_any x.start x.low x.high _) gs).mono fun e w'' ⟨he, hw⟩ => ⟨he, hw ▸ hq⟩)
                   go_big_quiet_on
                   simp only [Act.put, List.setIfInBounds_toArray, List.set_cons_zero, List.set_cons_succ])
                | (go_big_quiet_op; go_big_quiet_on)
               ))
          refine wpQuiet_nil (fun w5 hb5 => ?_)
          go_wp2
          go_ret
          exact ⟨by rw [HF.out]; first | done | rfl, bnext hbw (bnext hbe0 hb5 (Nat.le_refl _)) (Nat.le_refl _)⟩
      · obtain rfl : k = ss.length := by omega
        go_wp2
        go_ret
        exact ⟨by rw [HV.out, HN.out]; first | done | rfl, hb0⟩
  all_goals
    have HF := hide (show foreOk ⟨m0, ps, ss⟩ = false by rw [HV.out]; first | (rw [g1, g2, g3]; rfl) | (rw [g1, g2]; rfl) | (rw [g1]; rfl))
    try (have hlz : 0 < ss.length := by (simp [inB] at g2; omega))
    try (obtain ⟨b2, o2, rfl, hb2, hcell2⟩ := H2.out hlz
         have z0 : w.cell? ⟨b2, o2, none⟩ = some (.int .i64 ss[0].start) := by have := hcell2 0 ss[0] (List.getElem?_eq_getElem hlz) 0 _ rfl; simpa using this
         have hs0 : (ss[0].start != 0) = true := by rw [getD_at hlz] at g3; simpa using g3
         have hl0 : (0 : Int) < ss.length := by omega
         clear hcell2)
    go_enter Try.func66, Try.ntmps66
    go_wp2_with (first
      | (go_at_call 106; with_reducible refine (spec_TideOk_any _ _ ps _ ((RdB.keep HR1.out (B' := w.heap.size) (by repeat (first | exact Below.refl _ _ | assumption | refine Below.setCell ?_ (by first | omega | (simp <;> omega)) _ | refine Below.alloc ?_ (by first | omega | (simp <;> omega)) _ | refine below_drewN ?_ _ | refine Below.drew ?_ | refine Below.trans ?_ (Below.mono (by assumption) (by first | omega | (simp <;> omega))))) (Nat.le_refl _)).mono (by first | omega | (simp <;> omega)))).mono ?_; rintro e w1 ⟨rfl, hb'⟩; (first | have hb := bnext hb hb' | have hb := bnextA hb hb' | have hb := hb'); clear hb'; obtain ⟨hc, hf⟩ := bcell hb; have hz := hb.size; (try simp at hz))
      | (go_at_call 68; with_reducible refine (l01In_any _ _ _ _).mono ?_; rintro e w1 ⟨rfl, hw⟩; obtain rfl := hw.symm))
    go_ret
    exact ⟨by rw [HF.out]; first | done | rfl, (by repeat (first | exact Below.refl _ _ | assumption | refine Below.setCell ?_ (by first | omega | (simp <;> omega)) _ | refine Below.alloc ?_ (by first | omega | (simp <;> omega)) _ | refine below_drewN ?_ _ | refine Below.drew ?_ | refine Below.trans ?_ (Below.mono (by assumption) (by first | omega | (simp <;> omega)))))⟩
set_option maxRecDepth 100000 in
set_option maxHeartbeats 16000000 in
theorem impl_ForecastOk_any (v1 v2 : Value) (f : ForeD) (w : World) (h : RdFore w w.heap.size v1 v2 f) :
    Calls Try.prog 54 #[.agg #[.int .i64 f.m0, v1, v2]] w fun e w' => e = .returned (.bool (foreOk f)) ∧ Below w.heap.size w w' := by
  obtain ⟨m0, ps, ss⟩ := f
  obtain ⟨h1, h2⟩ := h
  simp only at h1 h2 ⊢
  have HR1 := hide h1
  obtain ⟨A1, c1, rfl, hc1, hm1, h1⟩ := h1
  obtain ⟨A2, c2, rfl, hc2, hm2, h2⟩ := h2
  unfold maxLen at hm1 hm2
  clear h1
  have H2 := hide h2; clear h2
  have HV := hide (show foreOk ⟨m0, ps, ss⟩ = (tideOk m0 ps && inB (ss.length : Int) 1 6 && decide ((ss.getD 0 default).start = 0) && allUpTo (surgeRow ss) ss.length) from rfl)
  rcases ch3 (tideOk m0 ps) (inB (ss.length : Int) 1 6) (decide ((ss.getD 0 default).start = 0)) with ⟨g1, g2, g3⟩ | g1 | ⟨g1, g2⟩ | ⟨g1, g2, g3⟩
  · have hl : 1 ≤ (ss.length : Int) ∧ (ss.length : Int) ≤ 6 := by simp [inB] at g2; omega
    have hV := HV.out
    rw [g1, g2, g3] at hV
    simp only [Bool.true_and] at hV
    replace HV := hide hV; clear hV
    have h0 : 0 < ss.length := by omega
    obtain ⟨b2, o2, rfl, hb2, hcell2⟩ := H2.out h0
    have z0 : w.cell? ⟨b2, o2, none⟩ = some (.int .i64 ss[0].start) := by have := hcell2 0 ss[0] (List.getElem?_eq_getElem h0) 0 _ rfl; simpa using this
    have hs0 : ss[0].start = 0 := by rw [getD_at h0] at g3; simpa using g3
    rw [hs0] at z0
    have HC2 := hide hcell2
    clear hcell2 hs0 g3
    go_enter Try.func54, Try.ntmps54
    go_wp2_with (first
      | (go_at_call 96; with_reducible refine (impl_TideOk_any _ _ ps _ ((RdB.keep HR1.out (B' := w.heap.size) (by repeat (first | exact Below.refl _ _ | assumption | refine Below.setCell ?_ (by first | omega | (simp <;> omega)) _ | refine Below.alloc ?_ (by first | omega | (simp <;> omega)) _ | refine below_drewN ?_ _ | refine Below.drew ?_ | refine Below.trans ?_ (Below.mono (by assumption) (by first | omega | (simp <;> omega))))) (Nat.le_refl _)).mono (by first | omega | (simp <;> omega)))).mono ?_; rintro e w1 ⟨rfl, hb'⟩; (first | have hb := bnext hb hb' | have hb := bnextA hb hb' | have hb := hb'); clear hb'; obtain ⟨hc, hf⟩ := bcell hb; have hz := hb.size; (try simp at hz))
      | (go_at_call 94; with_reducible refine (within_any _ _ _ _).mono ?_; rintro e w1 ⟨rfl, hw⟩; obtain rfl := hw.symm))
    clear g1 g2
    have Z2 := hide (show w1.cell? ⟨w.heap.size, 2, none⟩ = some (.slice (some ⟨b2, o2, none⟩) ss.length c2) by rw [hc _ _ (by simp)]; simp [go_sem])
    have hs1 := hb.size
    simp only [World.size_alloc] at hs1
    have hl1 : w.heap.size < w1.heap.size := by omega
    have hbw : Below w.heap.size w w1 := (by repeat (first | exact Below.refl _ _ | assumption | refine Below.setCell ?_ (by first | omega | (simp <;> omega)) _ | refine Below.alloc ?_ (by first | omega | (simp <;> omega)) _ | refine below_drewN ?_ _ | refine Below.drew ?_ | refine Below.trans ?_ (Below.mono (by assumption) (by first | omega | (simp <;> omega)))))
    clear hc hf hz hb
    go_loopw [27] (fun i wr => ∃ k : Nat, k ≤ ss.length ∧ i = .int .i64 k ∧ Hid (allUpTo (surgeRow ss) k = true) ∧ Below w1.heap.size w1 wr) (fun i _ => ss.length - (intOf i).toNat)
    case atStart => exact ⟨0, Nat.zero_le _, rfl, hide rfl, Below.refl _ _⟩
    case round =>
      obtain ⟨k, hk, rfl, HN, hbk⟩ := hrel
      obtain ⟨wo, rfl⟩ : ∃ wo : World, wo = wr := ⟨_, rfl⟩
      have hbs := hbk.size
      have hb0 := bnext hbw hbk (Nat.le_refl _)
      by_cases hlt : k < ss.length
      · have hcell2 := HC2.out
        have e0 : wo.cell? ⟨b2, o2 + k * 3, none⟩ = some (.int .i64 ss[k].start) := by
          rw [hb0.cell (p := ⟨b2, _, none⟩) hb2]; have := hcell2 k ss[k] (List.getElem?_eq_getElem hlt) 0 _ rfl; simpa using this
        have e1 : wo.cell? ⟨b2, o2 + k * 3 + 1, none⟩ = some (.int .i64 ss[k].low) := by
          rw [hb0.cell (p := ⟨b2, _, none⟩) hb2]; have := hcell2 k ss[k] (List.getElem?_eq_getElem hlt) 1 _ rfl; simpa using this
        have e2 : wo.cell? ⟨b2, o2 + k * 3 + 2, none⟩ = some (.int .i64 ss[k].high) := by
          rw [hb0.cell (p := ⟨b2, _, none⟩) hb2]; have := hcell2 k ss[k] (List.getElem?_eq_getElem hlt) 2 _ rfl; simpa using this
        have y2 := cellKeep hbk Z2.out hl1
        have HX := hide (getD_at hlt)
        have HRW := hide (show surgeRow ss k = (surgeOk ss[k] && (decide (k = 0) || decide ((ss.getD (k - 1) default).start < ss[k].start))) by unfold surgeRow; rw [HX.out])
        obtain ⟨x, hx⟩ : ∃ x, ss[k] = x := ⟨_, rfl⟩
        rw [hx] at e0 e1 e2 HRW
        clear hcell2 hx HX
        go_wp2_with fail
        generalize hW0 : (wo.alloc (.cells #[.int .i64 x.start, .int .i64 x.low, .int .i64 x.high] 119)) = W0
        have hB0 : Below wo.heap.size wo W0 := by rw [← hW0]; exact (by repeat (first | exact Below.refl _ _ | assumption | refine Below.setCell ?_ (by first | omega | (simp <;> omega)) _ | refine Below.alloc ?_ (by first | omega | (simp <;> omega)) _ | refine below_drewN ?_ _ | refine Below.drew ?_ | refine Below.trans ?_ (Below.mono (by assumption) (by first | omega | (simp <;> omega)))))
        have hl0 : wo.heap.size < W0.heap.size := by rw [← hW0]; simp
        have hx0 : W0.cell? ⟨wo.heap.size, 0, none⟩ = some (.int .i64 x.start) := by rw [← hW0]; simp [go_sem]
        have hx1 : W0.cell? ⟨wo.heap.size, 1, none⟩ = some (.int .i64 x.low) := by rw [← hW0]; simp [go_sem]
        have hx2 : W0.cell? ⟨wo.heap.size, 2, none⟩ = some (.int .i64 x.high) := by rw [← hW0]; simp [go_sem]
        clear hW0
        have hbw0 := bnext hb0 hB0 (Nat.le_refl _)
        have y2' := cellKeep hB0 y2 (by omega)
        have hl5 : w.heap.size < W0.heap.size := by omega
        have hbe0 := bnext hbk hB0 (Nat.le_refl _)
        rcases ch1 (surgeOk ⟨x.start, x.low, x.high⟩) with gs | gs
        · rcases Nat.eq_zero_or_pos k with hk0 | hk0
          · have hkz : ¬ (0 : Int) < k := by omega
            have hkd : decide ((0 : Int) < k) = false := by simp; omega
            have hkd2 : decide (0 < k) = false := by simp; omega
            have HG := hide (show surgeRow ss k = true by rw [HRW.out, show x = ⟨x.start, x.low, x.high⟩ from rfl, gs]; simp [hk0])
            clear hk0
            refine wp_region_below (Below.refl W0.heap.size _) (by kernel_rfl) (by kernel_rfl) ?_
            repeat (first
              | go_big_quiet_skip
              | (go_big_quiet_want
                 first
                  | (refine quiet_value ?_; apply Exists.intro
                     refine ⟨fun wq hq => ?_, ?_⟩
                     · (obtain ⟨hc, hf⟩ := bcell hq; go_simp; first | done | rfl)
                     go_big_quiet_on
                     simp only [Act.put, List.setIfInBounds_toArray, List.set_cons_zero, List.set_cons_succ])
                  | (refine quiet_call ?_; apply Exists.intro; apply Exists.intro; apply Exists.intro
                     refine ⟨fun wq hq => ?_, fun wq hq => ?_, ?_⟩
                     · (obtain ⟨hc, hf⟩ := bcell hq; go_simp; exact ⟨rfl, rfl⟩)
                     · (first | with_reducible exact (calls_bool (impl_SurgeOk_any x.start x.low x.high _) gs).mono fun e w'' ⟨he, hw⟩ => ⟨he, hw ▸ hq⟩ | with_reducible exact (calls_bool (impl_SurgeOk_any x.start x.low x.high _) gs).mono fun e w'' ⟨he, hb'⟩ => ⟨he, bnext hq hb'⟩ |  exact (calls_bool (impl_SurgeOk_any x.start x.low x.high _) gs).mono fun e w'' ⟨he, hb'⟩ => ⟨he, bnext hq hb'⟩ |  exact (calls_bool (impl_SurgeOk_any x.start x.low x.high _) gs).mono fun e w'' ⟨he, hw⟩ => ⟨he, hw ▸ hq⟩)
                     go_big_quiet_on
                     simp only [Act.put, List.setIfInBounds_toArray, List.set_cons_zero, List.set_cons_succ])
                  | (go_big_quiet_op; go_big_quiet_on)
                 ))
            refine wpQuiet_nil (fun w5 hb5 => ?_)
            go_wp2
            go_roundw
            case rel => exact ⟨k + 1, by omega, by go_num, hide (allUpTo_succ HN.out HG.out), bnext hbe0 hb5 (Nat.le_refl _)⟩
            case measure => simp [intOf]; omega
          · obtain ⟨j, hj⟩ : ∃ j, k = j + 1 := ⟨k - 1, by omega⟩
            have hkz : (0 : Int) < k := by omega
            have hkd : decide ((0 : Int) < k) = true := by simp; omega
            have hkd2 : decide (0 < k) = true := by simp; omega
            have hkp : 0 < k := hk0
            have hkj : (k : Int) - 1 = j := by omega
            have hwj : IntKind.i64.wrap ((k : Int) - 1) = j := by rw [IntWalk.i64_in _ (by omega)]; omega
            have hwj2 : IntKind.i64.wrap (j : Int) = j := IntWalk.i64_in _ (by omega)
            have hjl : j < ss.length := by omega
            have hjl' : (j : Int) < ss.length := by omega
            have hj0 : (0 : Int) ≤ j := by omega
            have p0 : W0.cell? ⟨b2, o2 + j * 3, none⟩ = some (.int .i64 ss[j].start) := by rw [hbw0.cell (p := ⟨b2, _, none⟩) hb2]; have := HC2.out j ss[j] (List.getElem?_eq_getElem hjl) 0 _ rfl; simpa using this
            have hb25 : b2 < W0.heap.size := by omega
            have HRW2 := hide (show surgeRow ss k = decide (ss[j].start < x.start) by rw [HRW.out, show x = ⟨x.start, x.low, x.high⟩ from rfl, gs, show k - 1 = j by omega, getD_at hjl]; simp; omega)
            obtain ⟨y, hy⟩ : ∃ y, ss[j].start = y := ⟨_, rfl⟩
            rw [hy] at p0 HRW2
            clear hy hj hk0
            by_cases hyx : y < x.start
            · have HG := hide (show surgeRow ss k = true by rw [HRW2.out]; simpa using hyx)
              have hd1 : decide (x.start ≤ y) = false := by simp; omega
              clear hyx
              refine wp_region_below (Below.refl W0.heap.size _) (by kernel_rfl) (by kernel_rfl) ?_
              repeat (first
                | go_big_quiet_skip
                | (go_big_quiet_want
                   first
                    | (refine quiet_value ?_; apply Exists.intro
                       refine ⟨fun wq hq => ?_, ?_⟩
                       · (obtain ⟨hc, hf⟩ := bcell hq; go_simp; first | done | rfl)
                       go_big_quiet_on
                       simp only [Act.put, List.setIfInBounds_toArray, List.set_cons_zero, List.set_cons_succ])
                    | (refine quiet_call ?_; apply Exists.intro; apply Exists.intro; apply Exists.intro
                       refine ⟨fun wq hq => ?_, fun wq hq => ?_, ?_⟩
                       · (obtain ⟨hc, hf⟩ := bcell hq; go_simp; exact ⟨rfl, rfl⟩)
                       · (first | with_reducible exact (calls_bool (impl_SurgeOk_any x.start x.low x.high _) gs).mono fun e w'' ⟨he, hw⟩ => ⟨he, hw ▸ hq⟩ | with_reducible exact (calls_bool (impl_SurgeOk_any x.start x.low x.high _) gs).mono fun e w'' ⟨he, hb'⟩ => ⟨he, bnext hq hb'⟩ |  exact (calls_bool (impl_SurgeOk_any x.start x.low x.high _) gs).mono fun e w'' ⟨he, hb'⟩ => ⟨he, bnext hq hb'⟩ |  exact (calls_bool (impl_SurgeOk_any x.start x.low x.high _) gs).mono fun e w'' ⟨he, hw⟩ => ⟨he, hw ▸ hq⟩)
                       go_big_quiet_on
                       simp only [Act.put, List.setIfInBounds_toArray, List.set_cons_zero, List.set_cons_succ])
                    | (go_big_quiet_op; go_big_quiet_on)
                   ))
              refine wpQuiet_nil (fun w5 hb5 => ?_)
              go_wp2
              go_roundw
              case rel => exact ⟨k + 1, by omega, by go_num, hide (allUpTo_succ HN.out HG.out), bnext hbe0 hb5 (Nat.le_refl _)⟩
              case measure => simp [intOf]; omega
            · have HF := hide (show foreOk ⟨m0, ps, ss⟩ = false by rw [HV.out]; exact allUpTo_bad hlt (by rw [HRW2.out]; simpa using hyx))
              have hd1 : decide (x.start ≤ y) = true := by simp; omega
              clear hyx
              refine wp_region_below (Below.refl W0.heap.size _) (by kernel_rfl) (by kernel_rfl) ?_
              repeat (first
                | go_big_quiet_skip
                | (go_big_quiet_want
                   first
                    | (refine quiet_value ?_; apply Exists.intro
                       refine ⟨fun wq hq => ?_, ?_⟩
                       · (obtain ⟨hc, hf⟩ := bcell hq; go_simp; first | done | rfl)
                       go_big_quiet_on
                       simp only [Act.put, List.setIfInBounds_toArray, List.set_cons_zero, List.set_cons_succ])
                    | (refine quiet_call ?_; apply Exists.intro; apply Exists.intro; apply Exists.intro
                       refine ⟨fun wq hq => ?_, fun wq hq => ?_, ?_⟩
                       · (obtain ⟨hc, hf⟩ := bcell hq; go_simp; exact ⟨rfl, rfl⟩)
                       · (first | with_reducible exact (calls_bool (impl_SurgeOk_any x.start x.low x.high _) gs).mono fun e w'' ⟨he, hw⟩ => ⟨he, hw ▸ hq⟩ | with_reducible exact (calls_bool (impl_SurgeOk_any x.start x.low x.high _) gs).mono fun e w'' ⟨he, hb'⟩ => ⟨he, bnext hq hb'⟩ |  exact (calls_bool (impl_SurgeOk_any x.start x.low x.high _) gs).mono fun e w'' ⟨he, hb'⟩ => ⟨he, bnext hq hb'⟩ |  exact (calls_bool (impl_SurgeOk_any x.start x.low x.high _) gs).mono fun e w'' ⟨he, hw⟩ => ⟨he, hw ▸ hq⟩)
                       go_big_quiet_on
                       simp only [Act.put, List.setIfInBounds_toArray, List.set_cons_zero, List.set_cons_succ])
                    | (go_big_quiet_op; go_big_quiet_on)
                   ))
              refine wpQuiet_nil (fun w5 hb5 => ?_)
              go_wp2
              go_ret
              exact ⟨by rw [HF.out]; first | done | rfl, bnext hbw (bnext hbe0 hb5 (Nat.le_refl _)) (Nat.le_refl _)⟩
        · have HF := hide (show foreOk ⟨m0, ps, ss⟩ = false by rw [HV.out]; exact allUpTo_bad hlt (by rw [HRW.out, show x = ⟨x.start, x.low, x.high⟩ from rfl, gs]; rfl))
          refine wp_region_below (Below.refl W0.heap.size _) (by kernel_rfl) (by kernel_rfl) ?_
          repeat (first
            | go_big_quiet_skip
            | (go_big_quiet_want
               first
                | (refine quiet_value ?_; apply Exists.intro
                   refine ⟨fun wq hq => ?_, ?_⟩
                   · (obtain ⟨hc, hf⟩ := bcell hq; go_simp; first | done | rfl)
                   go_big_quiet_on
                   simp only [Act.put, List.setIfInBounds_toArray, List.set_cons_zero, List.set_cons_succ])
                | (refine quiet_call ?_; apply Exists.intro; apply Exists.intro; apply Exists.intro
                   refine ⟨fun wq hq => ?_, fun wq hq => ?_, ?_⟩
                   · (obtain ⟨hc, hf⟩ := bcell hq; go_simp; exact ⟨rfl, rfl⟩)
                   · (first | with_reducible exact (calls_bool (impl_SurgeOk_any x.start x.low x.high _) gs).mono fun e w'' ⟨he, hw⟩ => ⟨he, hw ▸ hq⟩ | with_reducible exact (calls_bool (impl_SurgeOk_any x.start x.low x.high _) gs).mono fun e w'' ⟨he, hb'⟩ => ⟨he, bnext hq hb'⟩ |  exact (calls_bool (impl_SurgeOk_any x.start x.low x.high _) gs).mono fun e w'' ⟨he, hb'⟩ => ⟨he, bnext hq hb'⟩ |  exact (calls_bool (impl_SurgeOk_any x.start x.low x.high _) gs).mono fun e w'' ⟨he, hw⟩ => ⟨he, hw ▸ hq⟩)
                   go_big_quiet_on
                   simp only [Act.put, List.setIfInBounds_toArray, List.set_cons_zero, List.set_cons_succ])
                | (go_big_quiet_op; go_big_quiet_on)
               ))
          refine wpQuiet_nil (fun w5 hb5 => ?_)
          go_wp2
          go_ret
          exact ⟨by rw [HF.out]; first | done | rfl, bnext hbw (bnext hbe0 hb5 (Nat.le_refl _)) (Nat.le_refl _)⟩
      · obtain rfl : k = ss.length := by omega
        go_wp2
        go_ret
        exact ⟨by rw [HV.out, HN.out]; first | done | rfl, hb0⟩
  all_goals
    have HF := hide (show foreOk ⟨m0, ps, ss⟩ = false by rw [HV.out]; first | (rw [g1, g2, g3]; rfl) | (rw [g1, g2]; rfl) | (rw [g1]; rfl))
    try (have hlz : 0 < ss.length := by (simp [inB] at g2; omega))
    try (obtain ⟨b2, o2, rfl, hb2, hcell2⟩ := H2.out hlz
         have z0 : w.cell? ⟨b2, o2, none⟩ = some (.int .i64 ss[0].start) := by have := hcell2 0 ss[0] (List.getElem?_eq_getElem hlz) 0 _ rfl; simpa using this
         have hs0 : (ss[0].start != 0) = true := by rw [getD_at hlz] at g3; simpa using g3
         have hl0 : (0 : Int) < ss.length := by omega
         clear hcell2)
    go_enter Try.func54, Try.ntmps54
    go_wp2_with (first
      | (go_at_call 96; with_reducible refine (impl_TideOk_any _ _ ps _ ((RdB.keep HR1.out (B' := w.heap.size) (by repeat (first | exact Below.refl _ _ | assumption | refine Below.setCell ?_ (by first | omega | (simp <;> omega)) _ | refine Below.alloc ?_ (by first | omega | (simp <;> omega)) _ | refine below_drewN ?_ _ | refine Below.drew ?_ | refine Below.trans ?_ (Below.mono (by assumption) (by first | omega | (simp <;> omega))))) (Nat.le_refl _)).mono (by first | omega | (simp <;> omega)))).mono ?_; rintro e w1 ⟨rfl, hb'⟩; (first | have hb := bnext hb hb' | have hb := bnextA hb hb' | have hb := hb'); clear hb'; obtain ⟨hc, hf⟩ := bcell hb; have hz := hb.size; (try simp at hz))
      | (go_at_call 94; with_reducible refine (within_any _ _ _ _).mono ?_; rintro e w1 ⟨rfl, hw⟩; obtain rfl := hw.symm))
    go_ret
    exact ⟨by rw [HF.out]; first | done | rfl, (by repeat (first | exact Below.refl _ _ | assumption | refine Below.setCell ?_ (by first | omega | (simp <;> omega)) _ | refine Below.alloc ?_ (by first | omega | (simp <;> omega)) _ | refine below_drewN ?_ _ | refine Below.drew ?_ | refine Below.trans ?_ (Below.mono (by assumption) (by first | omega | (simp <;> omega)))))⟩
end Go.Proofs.Ytpbcbdjjpkenjaa
