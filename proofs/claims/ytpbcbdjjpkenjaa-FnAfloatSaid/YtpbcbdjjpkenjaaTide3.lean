/- Tides: whether they are valid, and their levels: both texts. No condition. -/
import Derived.Test.YtpbcbdjjpkenjaaTide2
namespace Go.Proofs.Ytpbcbdjjpkenjaa
open Go.RowKit
set_option linter.unusedVariables false
set_option maxRecDepth 100000 in
set_option maxHeartbeats 8000000 in
theorem l02Level_any (m0 m : Int) (v : Value) (xs : List PartD) (w : World) (h1 : RdPart w v xs) (ht : tideOk m0 xs = true) (q0 : 0 ≤ m) (q1 : m ≤ 2880) :
    Calls Try.prog 112 #[.agg #[.int .i64 m0, v], .int .i64 m] w fun e w' => e = .returned (.int .i64 (level m0 xs m)) ∧ Below w.heap.size w w' := by
  obtain ⟨A1, c1, rfl, hc1, hm1, h1⟩ := h1
  unfold maxLen at hm1
  obtain ⟨t0, t1, t2, t3⟩ := tideOk_of ht
  have H3 := hide t3; clear t3 ht
  have H1 := hide h1; clear h1
  go_enter Try.func112, Try.ntmps112
  go_wp2
  go_loopw [5, 13] (fun s i wr => ∃ (k : Nat) (sm : Int), k ≤ xs.length ∧ i = .int .i64 k ∧ s = .int .i64 sm ∧ Hid ((xs.drop k).foldl (fun s x => s + partLevel m x) sm = level m0 xs m) ∧ -1000 - 1000 * k ≤ sm ∧ sm ≤ 1000 + 1000 * k ∧ Below w.heap.size w wr) (fun _ i _ => xs.length - (intOf i).toNat)
  case atStart => exact ⟨0, m0, Nat.zero_le _, rfl, rfl, hide rfl, by omega, by omega, (by repeat (first | exact Below.refl _ _ | assumption | refine Below.setCell ?_ (by first | omega | (simp <;> omega)) _ | refine Below.alloc ?_ (by first | omega | (simp <;> omega)) _ | refine below_drewN ?_ _ | refine Below.drew ?_ | refine Below.trans ?_ (Below.mono (by assumption) (by first | omega | (simp <;> omega)))))⟩
  case round =>
    obtain ⟨k, sm, hk, rfl, rfl, HN, s0, s1, hb⟩ := hrel
    obtain ⟨wo, rfl⟩ : ∃ wo : World, wo = wr := ⟨_, rfl⟩
    have hbs := hb.size
    by_cases hlt : k < xs.length
    · obtain ⟨b1, o1, rfl, hb1, hcell1⟩ := H1.out (by omega)
      have e0 : wo.cell? ⟨b1, o1 + k * 3, none⟩ = some (.int .i64 xs[k].amp) := by
        rw [hb.cell (p := ⟨b1, _, none⟩) hb1]; have := hcell1 k xs[k] (List.getElem?_eq_getElem hlt) 0 _ rfl; simpa using this
      have e1 : wo.cell? ⟨b1, o1 + k * 3 + 1, none⟩ = some (.int .i64 xs[k].period) := by
        rw [hb.cell (p := ⟨b1, _, none⟩) hb1]; have := hcell1 k xs[k] (List.getElem?_eq_getElem hlt) 1 _ rfl; simpa using this
      have e2 : wo.cell? ⟨b1, o1 + k * 3 + 2, none⟩ = some (.int .i64 xs[k].phase) := by
        rw [hb.cell (p := ⟨b1, _, none⟩) hb1]; have := hcell1 k xs[k] (List.getElem?_eq_getElem hlt) 2 _ rfl; simpa using this
      have hpk := H3.out xs[k] (List.getElem_mem hlt)
      have HST := hide (foldl_step (f := fun s x => s + partLevel m x) HN.out hlt)
      obtain ⟨x, hx⟩ : ∃ x, xs[k] = x := ⟨_, rfl⟩
      rw [hx] at e0 e1 e2 hpk HST
      clear hcell1 hx
      have hper := partOk_per hpk
      have hr := wave_range (n := m + x.phase) hper
      have hl := partLevel_range (m := m) hpk
      obtain ⟨p0, p1, p2, p3, p4, p5⟩ := partOk_of hpk
      have hab := amp_bounds p0 p1 hr.1 hr.2
      have hlv := hide (show (x.amp * wave (m + x.phase) x.period).tdiv 10000 = partLevel m x from rfl)
      obtain ⟨wv, hwv⟩ : ∃ wv, wave (m + x.phase) x.period = wv := ⟨_, rfl⟩
      have HWV := hide hwv
      rw [hwv] at hab hlv
      obtain ⟨z, hz⟩ : ∃ z, x.amp * wv = z := ⟨_, rfl⟩
      have hzw : IntKind.i64.wrap (x.amp * wv) = z := by rw [hz]; exact IntWalk.i64_in _ (by omega)
      rw [hz] at hab hlv
      obtain ⟨pl, hpl⟩ : ∃ pl, partLevel m x = pl := ⟨_, rfl⟩
      rw [hpl] at hl hlv HST
      have hzd : IntKind.i64.wrap (z.tdiv 10000) = pl := by rw [hlv.out]; exact IntWalk.i64_in _ (by omega)
      have hsm : IntKind.i64.wrap (m + x.phase) = m + x.phase := IntWalk.i64_in _ (by omega)
      have hsl : IntKind.i64.wrap (sm + pl) = sm + pl := IntWalk.i64_in _ (by omega)
      clear hwv hz hpl hpk hr
      go_wp2_with fail
      generalize hW0 : (wo.alloc (.cells #[.int .i64 x.amp, .int .i64 x.period, .int .i64 x.phase] 151)) = W0
      have hB0 : Below wo.heap.size wo W0 := by rw [← hW0]; exact (by repeat (first | exact Below.refl _ _ | assumption | refine Below.setCell ?_ (by first | omega | (simp <;> omega)) _ | refine Below.alloc ?_ (by first | omega | (simp <;> omega)) _ | refine below_drewN ?_ _ | refine Below.drew ?_ | refine Below.trans ?_ (Below.mono (by assumption) (by first | omega | (simp <;> omega)))))
      have hl0 : wo.heap.size < W0.heap.size := by rw [← hW0]; simp
      have hx0 : W0.cell? ⟨wo.heap.size, 0, none⟩ = some (.int .i64 x.amp) := by rw [← hW0]; simp [go_sem]
      have hx1 : W0.cell? ⟨wo.heap.size, 1, none⟩ = some (.int .i64 x.period) := by rw [← hW0]; simp [go_sem]
      have hx2 : W0.cell? ⟨wo.heap.size, 2, none⟩ = some (.int .i64 x.phase) := by rw [← hW0]; simp [go_sem]
      clear hW0 e0 e1 e2
      refine wp_region_below (Below.refl W0.heap.size _) (by kernel_rfl) (by kernel_rfl) ?_
      repeat (first
        | go_big_quiet_skip
        | (go_big_quiet_want
           first
            | (refine quiet_value ?_; apply Exists.intro
               refine ⟨fun wq hq => ?_, ?_⟩
               · (obtain ⟨hc, hf⟩ := bcell hq; go_simp; first | done | rfl)
               go_big_quiet_on
               simp only [Act.put, List.setIfInBounds_toArray, List.set_cons_zero, List.set_cons_succ])
            | (refine quiet_call ?_; apply Exists.intro; apply Exists.intro; apply Exists.intro
               refine ⟨fun wq hq => ?_, fun wq hq => ?_, ?_⟩
               · (obtain ⟨hc, hf⟩ := bcell hq; go_simp; exact ⟨rfl, rfl⟩)
               · (first | with_reducible exact (calls_int (spec_Wave_any (m + x.phase) x.period _ (by omega) (by omega) hper) HWV.out).mono fun e w'' ⟨he, hw⟩ => ⟨he, hw ▸ hq⟩ | with_reducible exact (calls_int (spec_Wave_any (m + x.phase) x.period _ (by omega) (by omega) hper) HWV.out).mono fun e w'' ⟨he, hb'⟩ => ⟨he, bnext hq hb'⟩ |  exact (calls_int (spec_Wave_any (m + x.phase) x.period _ (by omega) (by omega) hper) HWV.out).mono fun e w'' ⟨he, hb'⟩ => ⟨he, bnext hq hb'⟩ |  exact (calls_int (spec_Wave_any (m + x.phase) x.period _ (by omega) (by omega) hper) HWV.out).mono fun e w'' ⟨he, hw⟩ => ⟨he, hw ▸ hq⟩)
               go_big_quiet_on
               simp only [Act.put, List.setIfInBounds_toArray, List.set_cons_zero, List.set_cons_succ])
            | (go_big_quiet_op; go_big_quiet_on)
           ))
      refine wpQuiet_nil (fun w2 hb2 => ?_)
      have hbe := bnext (bnext hb hB0 (Nat.le_refl _)) hb2 (Nat.le_refl _)
      go_wp2
      go_roundw
      case rel => exact ⟨k + 1, sm + pl, by omega, by go_num, rfl, HST, by omega, by omega, hbe⟩
      case measure => simp [intOf]; omega
    · obtain rfl : k = xs.length := by omega
      go_wp2
      go_ret
      exact ⟨ret_int (foldl_end HN.out), hb⟩
set_option maxRecDepth 100000 in
set_option maxHeartbeats 8000000 in
theorem tlevel_any (m0 m : Int) (v : Value) (xs : List PartD) (w : World) (h1 : RdPart w v xs) (ht : tideOk m0 xs = true) (q0 : 0 ≤ m) (q1 : m ≤ 2880) :
    Calls Try.prog 98 #[.agg #[.int .i64 m0, v], .int .i64 m] w fun e w' => e = .returned (.int .i64 (level m0 xs m)) ∧ Below w.heap.size w w' := by
  obtain ⟨A1, c1, rfl, hc1, hm1, h1⟩ := h1
  unfold maxLen at hm1
  obtain ⟨t0, t1, t2, t3⟩ := tideOk_of ht
  have H3 := hide t3; clear t3 ht
  have H1 := hide h1; clear h1
  go_enter Try.func98, Try.ntmps98
  go_wp2
  go_loopw [5, 13] (fun s i wr => ∃ (k : Nat) (sm : Int), k ≤ xs.length ∧ i = .int .i64 k ∧ s = .int .i64 sm ∧ Hid ((xs.drop k).foldl (fun s x => s + partLevel m x) sm = level m0 xs m) ∧ -1000 - 1000 * k ≤ sm ∧ sm ≤ 1000 + 1000 * k ∧ Below w.heap.size w wr) (fun _ i _ => xs.length - (intOf i).toNat)
  case atStart => exact ⟨0, m0, Nat.zero_le _, rfl, rfl, hide rfl, by omega, by omega, (by repeat (first | exact Below.refl _ _ | assumption | refine Below.setCell ?_ (by first | omega | (simp <;> omega)) _ | refine Below.alloc ?_ (by first | omega | (simp <;> omega)) _ | refine below_drewN ?_ _ | refine Below.drew ?_ | refine Below.trans ?_ (Below.mono (by assumption) (by first | omega | (simp <;> omega)))))⟩
  case round =>
    obtain ⟨k, sm, hk, rfl, rfl, HN, s0, s1, hb⟩ := hrel
    obtain ⟨wo, rfl⟩ : ∃ wo : World, wo = wr := ⟨_, rfl⟩
    have hbs := hb.size
    by_cases hlt : k < xs.length
    · obtain ⟨b1, o1, rfl, hb1, hcell1⟩ := H1.out (by omega)
      have e0 : wo.cell? ⟨b1, o1 + k * 3, none⟩ = some (.int .i64 xs[k].amp) := by
        rw [hb.cell (p := ⟨b1, _, none⟩) hb1]; have := hcell1 k xs[k] (List.getElem?_eq_getElem hlt) 0 _ rfl; simpa using this
      have e1 : wo.cell? ⟨b1, o1 + k * 3 + 1, none⟩ = some (.int .i64 xs[k].period) := by
        rw [hb.cell (p := ⟨b1, _, none⟩) hb1]; have := hcell1 k xs[k] (List.getElem?_eq_getElem hlt) 1 _ rfl; simpa using this
      have e2 : wo.cell? ⟨b1, o1 + k * 3 + 2, none⟩ = some (.int .i64 xs[k].phase) := by
        rw [hb.cell (p := ⟨b1, _, none⟩) hb1]; have := hcell1 k xs[k] (List.getElem?_eq_getElem hlt) 2 _ rfl; simpa using this
      have hpk := H3.out xs[k] (List.getElem_mem hlt)
      have HST := hide (foldl_step (f := fun s x => s + partLevel m x) HN.out hlt)
      obtain ⟨x, hx⟩ : ∃ x, xs[k] = x := ⟨_, rfl⟩
      rw [hx] at e0 e1 e2 hpk HST
      clear hcell1 hx
      have hper := partOk_per hpk
      have hr := wave_range (n := m + x.phase) hper
      have hl := partLevel_range (m := m) hpk
      obtain ⟨p0, p1, p2, p3, p4, p5⟩ := partOk_of hpk
      have hab := amp_bounds p0 p1 hr.1 hr.2
      have hlv := hide (show (x.amp * wave (m + x.phase) x.period).tdiv 10000 = partLevel m x from rfl)
      obtain ⟨wv, hwv⟩ : ∃ wv, wave (m + x.phase) x.period = wv := ⟨_, rfl⟩
      have HWV := hide hwv
      rw [hwv] at hab hlv
      obtain ⟨z, hz⟩ : ∃ z, x.amp * wv = z := ⟨_, rfl⟩
      have hzw : IntKind.i64.wrap (x.amp * wv) = z := by rw [hz]; exact IntWalk.i64_in _ (by omega)
      rw [hz] at hab hlv
      obtain ⟨pl, hpl⟩ : ∃ pl, partLevel m x = pl := ⟨_, rfl⟩
      rw [hpl] at hl hlv HST
      have hzd : IntKind.i64.wrap (z.tdiv 10000) = pl := by rw [hlv.out]; exact IntWalk.i64_in _ (by omega)
      have hsm : IntKind.i64.wrap (m + x.phase) = m + x.phase := IntWalk.i64_in _ (by omega)
      have hsl : IntKind.i64.wrap (sm + pl) = sm + pl := IntWalk.i64_in _ (by omega)
      clear hwv hz hpl hpk hr
      go_wp2_with fail
      generalize hW0 : (wo.alloc (.cells #[.int .i64 x.amp, .int .i64 x.period, .int .i64 x.phase] 151)) = W0
      have hB0 : Below wo.heap.size wo W0 := by rw [← hW0]; exact (by repeat (first | exact Below.refl _ _ | assumption | refine Below.setCell ?_ (by first | omega | (simp <;> omega)) _ | refine Below.alloc ?_ (by first | omega | (simp <;> omega)) _ | refine below_drewN ?_ _ | refine Below.drew ?_ | refine Below.trans ?_ (Below.mono (by assumption) (by first | omega | (simp <;> omega)))))
      have hl0 : wo.heap.size < W0.heap.size := by rw [← hW0]; simp
      have hx0 : W0.cell? ⟨wo.heap.size, 0, none⟩ = some (.int .i64 x.amp) := by rw [← hW0]; simp [go_sem]
      have hx1 : W0.cell? ⟨wo.heap.size, 1, none⟩ = some (.int .i64 x.period) := by rw [← hW0]; simp [go_sem]
      have hx2 : W0.cell? ⟨wo.heap.size, 2, none⟩ = some (.int .i64 x.phase) := by rw [← hW0]; simp [go_sem]
      clear hW0 e0 e1 e2
      refine wp_region_below (Below.refl W0.heap.size _) (by kernel_rfl) (by kernel_rfl) ?_
      repeat (first
        | go_big_quiet_skip
        | (go_big_quiet_want
           first
            | (refine quiet_value ?_; apply Exists.intro
               refine ⟨fun wq hq => ?_, ?_⟩
               · (obtain ⟨hc, hf⟩ := bcell hq; go_simp; first | done | rfl)
               go_big_quiet_on
               simp only [Act.put, List.setIfInBounds_toArray, List.set_cons_zero, List.set_cons_succ])
            | (refine quiet_call ?_; apply Exists.intro; apply Exists.intro; apply Exists.intro
               refine ⟨fun wq hq => ?_, fun wq hq => ?_, ?_⟩
               · (obtain ⟨hc, hf⟩ := bcell hq; go_simp; exact ⟨rfl, rfl⟩)
               · (first | with_reducible exact (calls_int (impl_Wave_any (m + x.phase) x.period _ (by omega) (by omega) hper) HWV.out).mono fun e w'' ⟨he, hw⟩ => ⟨he, hw ▸ hq⟩ | with_reducible exact (calls_int (impl_Wave_any (m + x.phase) x.period _ (by omega) (by omega) hper) HWV.out).mono fun e w'' ⟨he, hb'⟩ => ⟨he, bnext hq hb'⟩ |  exact (calls_int (impl_Wave_any (m + x.phase) x.period _ (by omega) (by omega) hper) HWV.out).mono fun e w'' ⟨he, hb'⟩ => ⟨he, bnext hq hb'⟩ |  exact (calls_int (impl_Wave_any (m + x.phase) x.period _ (by omega) (by omega) hper) HWV.out).mono fun e w'' ⟨he, hw⟩ => ⟨he, hw ▸ hq⟩)
               go_big_quiet_on
               simp only [Act.put, List.setIfInBounds_toArray, List.set_cons_zero, List.set_cons_succ])
            | (go_big_quiet_op; go_big_quiet_on)
           ))
      refine wpQuiet_nil (fun w2 hb2 => ?_)
      have hbe := bnext (bnext hb hB0 (Nat.le_refl _)) hb2 (Nat.le_refl _)
      go_wp2
      go_roundw
      case rel => exact ⟨k + 1, sm + pl, by omega, by go_num, rfl, HST, by omega, by omega, hbe⟩
      case measure => simp [intOf]; omega
    · obtain rfl : k = xs.length := by omega
      go_wp2
      go_ret
      exact ⟨ret_int (foldl_end HN.out), hb⟩
end Go.Proofs.Ytpbcbdjjpkenjaa
