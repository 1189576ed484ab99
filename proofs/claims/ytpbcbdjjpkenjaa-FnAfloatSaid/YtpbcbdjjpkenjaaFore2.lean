/- The surge at a minute, and the ends of the band: both texts. No condition. -/
import Derived.Test.YtpbcbdjjpkenjaaFore
namespace Go.Proofs.Ytpbcbdjjpkenjaa
open Go.RowKit
set_option linter.unusedVariables false
def Box3 (w : World) (g : Nat) (a b c : Int) : Prop := w.cell? ⟨g, 0, none⟩ = some (.int .i64 a) ∧ w.cell? ⟨g, 1, none⟩ = some (.int .i64 b) ∧ w.cell? ⟨g, 2, none⟩ = some (.int .i64 c) ∧ w.frozen? ⟨g, 0, none⟩ = false ∧ w.frozen? ⟨g, 1, none⟩ = false ∧ w.frozen? ⟨g, 2, none⟩ = false
theorem Box3.keep {B g : Nat} {w w' : World} {a b c : Int} (h : Box3 w g a b c) (hb : Below B w w') (hg : g < B) : Box3 w' g a b c := by
  obtain ⟨h0, h1, h2, f0, f1, f2⟩ := h
  refine ⟨cellKeep hb h0 hg, cellKeep hb h1 hg, cellKeep hb h2 hg, ?_, ?_, ?_⟩
  · rw [hb.frozen (p := ⟨g, 0, none⟩) hg]; exact f0
  · rw [hb.frozen (p := ⟨g, 1, none⟩) hg]; exact f1
  · rw [hb.frozen (p := ⟨g, 2, none⟩) hg]; exact f2
theorem Box3.far {w : World} {g g' i : Nat} {a b c : Int} {v : Value} (h : Box3 w g a b c) (hne : g' ≠ g) : Box3 (w.setCell ⟨g', i, none⟩ v) g a b c := by
  obtain ⟨h0, h1, h2, f0, f1, f2⟩ := h
  exact ⟨(World.cell?_setCell_other _ _ _ _ (fun e => hne (congrArg Addr.block e))).trans h0, (World.cell?_setCell_other _ _ _ _ (fun e => hne (congrArg Addr.block e))).trans h1, (World.cell?_setCell_other _ _ _ _ (fun e => hne (congrArg Addr.block e))).trans h2, by simpa [go_sem] using f0, by simpa [go_sem] using f1, by simpa [go_sem] using f2⟩
theorem Box3.new (w : World) (a b c : Int) (T : TypeId) : Box3 (w.alloc (.cells #[.int .i64 a, .int .i64 b, .int .i64 c] T)) w.heap.size a b c := by
  refine ⟨?_, ?_, ?_, ?_, ?_, ?_⟩ <;> simp [go_sem]
theorem Box3.store {w : World} {g : Nat} {a b c : Int} (h : Box3 w g a b c) (x y z : Int) : Box3 (((w.setCell ⟨g, 0, none⟩ (.int .i64 x)).setCell ⟨g, 1, none⟩ (.int .i64 y)).setCell ⟨g, 2, none⟩ (.int .i64 z)) g x y z := by
  obtain ⟨h0, h1, h2, f0, f1, f2⟩ := h
  have n01 : (⟨g, 0, none⟩ : Addr) ≠ ⟨g, 1, none⟩ := by simp
  have n02 : (⟨g, 0, none⟩ : Addr) ≠ ⟨g, 2, none⟩ := by simp
  have n12 : (⟨g, 1, none⟩ : Addr) ≠ ⟨g, 2, none⟩ := by simp
  refine ⟨?_, ?_, ?_, by simpa [go_sem] using f0, by simpa [go_sem] using f1, by simpa [go_sem] using f2⟩
  · rw [World.cell?_setCell_other _ _ _ _ (fun e => n02 e.symm), World.cell?_setCell_other _ _ _ _ (fun e => n01 e.symm)]; exact World.cell?_setCell_same _ _ _ h0
  · rw [World.cell?_setCell_other _ _ _ _ (fun e => n12 e.symm)]; exact World.cell?_setCell_same _ _ _ ((World.cell?_setCell_other _ _ _ _ n01).trans h1)
  · exact World.cell?_setCell_same _ _ _ ((World.cell?_setCell_other _ _ _ _ n12).trans ((World.cell?_setCell_other _ _ _ _ n02).trans h2))
def saOk (f : ForeD) (m : Int) : Bool := foreOk f && inB m 0 2880
def saLow (f : ForeD) (m : Int) : Int := if saOk f m = true then (surgeAt f m).low else 0
def saHigh (f : ForeD) (m : Int) : Int := if saOk f m = true then (surgeAt f m).high else 0
theorem surgeIdx_succ (ss : List SurgeD) (m : Int) (k : Nat) : surgeIdx ss m (k + 1) = if (ss.getD k default).start ≤ m then k else surgeIdx ss m k := rfl
set_option maxRecDepth 100000 in
set_option maxHeartbeats 8000000 in
theorem surge_any (v1 v2 : Value) (f : ForeD) (m : Int) (w : World) (h : RdFore w w.heap.size v1 v2 f) (hok : foreOk f = true) :
    Calls Try.prog 99 #[.agg #[.int .i64 f.m0, v1, v2], .int .i64 m] w fun e w' => e = .returned (.int .i64 (surgeIdx f.surges m f.surges.length : Nat)) ∧ Below w.heap.size w w' := by
  obtain ⟨m0, ps, ss⟩ := f
  obtain ⟨h1, h2⟩ := h
  simp only at h1 h2 hok ⊢
  have HR1 := hide h1; have HR2 := hide h2
  obtain ⟨A1, c1, rfl, hc1, hm1, h1⟩ := h1
  obtain ⟨A2, c2, rfl, hc2, hm2, h2⟩ := h2
  unfold maxLen at hm1 hm2
  clear h1
  have H2 := hide h2; clear h2
  obtain ⟨ht, hl0, hl6, hso⟩ := foreOk_of hok
  simp only at ht hl0 hl6 hso
  have HT := hide ht; have HSO := hide hso; have HOK := hide hok
  clear ht hso hok
  go_enter Try.func99, Try.ntmps99
  go_wp2
  go_loopw [5, 11] (fun a i wr => ∃ k : Nat, k ≤ ss.length ∧ i = .int .i64 k ∧ a = .int .i64 (surgeIdx ss m k : Nat) ∧ Below w.heap.size w wr) (fun _ i _ => ss.length - (intOf i).toNat)
  case atStart => exact ⟨0, Nat.zero_le _, rfl, rfl, (by repeat (first | exact Below.refl _ _ | assumption | refine Below.setCell ?_ (by first | omega | (simp <;> omega)) _ | refine Below.alloc ?_ (by first | omega | (simp <;> omega)) _ | refine below_drewN ?_ _ | refine Below.drew ?_ | refine Below.trans ?_ (Below.mono (by assumption) (by first | omega | (simp <;> omega)))))⟩
  case round =>
    obtain ⟨k, hk, rfl, rfl, hb0⟩ := hrel
    obtain ⟨wo, rfl⟩ : ∃ wo : World, wo = wr := ⟨_, rfl⟩
    have hbs := hb0.size
    by_cases hlt : k < ss.length
    · obtain ⟨b2, o2, rfl, hb2, hcell2⟩ := H2.out (by omega)
      have e0 : wo.cell? ⟨b2, o2 + k * 3, none⟩ = some (.int .i64 ss[k].start) := by
        rw [hb0.cell (p := ⟨b2, _, none⟩) hb2]; have := hcell2 k ss[k] (List.getElem?_eq_getElem hlt) 0 _ rfl; simpa using this
      have e1 : wo.cell? ⟨b2, o2 + k * 3 + 1, none⟩ = some (.int .i64 ss[k].low) := by
        rw [hb0.cell (p := ⟨b2, _, none⟩) hb2]; have := hcell2 k ss[k] (List.getElem?_eq_getElem hlt) 1 _ rfl; simpa using this
      have e2 : wo.cell? ⟨b2, o2 + k * 3 + 2, none⟩ = some (.int .i64 ss[k].high) := by
        rw [hb0.cell (p := ⟨b2, _, none⟩) hb2]; have := hcell2 k ss[k] (List.getElem?_eq_getElem hlt) 2 _ rfl; simpa using this
      have HX := hide (getD_at hlt)
      obtain ⟨x, hx⟩ : ∃ x, ss[k] = x := ⟨_, rfl⟩
      rw [hx] at e0 e1 e2 HX
      clear hcell2 hx
      have hB0 : Below wo.heap.size wo (wo.alloc (.cells #[.int .i64 x.start, .int .i64 x.low, .int .i64 x.high] 119)) := (Below.refl _ _).alloc (Nat.le_refl _) _
      by_cases hxm : x.start ≤ m
      · have HS := hide (show surgeIdx ss m (k + 1) = k by rw [surgeIdx_succ, HX.out, if_pos hxm])
        go_wp2
        go_roundw
        case rel => exact ⟨k + 1, by omega, by go_num, by rw [HS.out], bnext hb0 hB0 (Nat.le_refl _)⟩
        case measure => simp [intOf]; omega
      · have HS := hide (show surgeIdx ss m (k + 1) = surgeIdx ss m k by rw [surgeIdx_succ, HX.out, if_neg hxm])
        go_wp2
        go_roundw
        case rel => exact ⟨k + 1, by omega, by go_num, by rw [HS.out], bnext hb0 hB0 (Nat.le_refl _)⟩
        case measure => simp [intOf]; omega
    · obtain rfl : k = ss.length := by omega
      go_wp2
      go_ret
      exact ⟨rfl, hb0⟩
set_option maxRecDepth 100000 in
set_option maxHeartbeats 8000000 in
theorem flow_any (v1 v2 : Value) (f : ForeD) (m : Int) (w : World) (h : RdFore w w.heap.size v1 v2 f) (hok : foreOk f = true) (q0 : 0 ≤ m) (q1 : m ≤ 2880) :
    Calls Try.prog 56 #[.agg #[.int .i64 f.m0, v1, v2], .int .i64 m] w fun e w' => e = .returned (.int .i64 (lowF f m)) ∧ Below w.heap.size w w' := by
  have HFR := hide h; have hrg := surgeAt_range (m := m) hok; have hlb := level_bd (m := m) hok
  obtain ⟨m0, ps, ss⟩ := f
  obtain ⟨h1, h2⟩ := h
  simp only at h1 h2 hok ⊢
  have HR1 := hide h1; have HR2 := hide h2
  obtain ⟨A1, c1, rfl, hc1, hm1, h1⟩ := h1
  obtain ⟨A2, c2, rfl, hc2, hm2, h2⟩ := h2
  unfold maxLen at hm1 hm2
  clear h1
  have H2 := hide h2; clear h2
  obtain ⟨ht, hl0, hl6, hso⟩ := foreOk_of hok
  simp only at ht hl0 hl6 hso
  have HT := hide ht; have HSO := hide hso; have HOK := hide hok
  clear ht hso hok
  have HV := hide (show lowF ⟨m0, ps, ss⟩ m = level m0 ps m + (surgeAt ⟨m0, ps, ss⟩ m).low from rfl)
  have hix := surgeIdx_lt ss m ss.length hl0
  have hsa : surgeAt ⟨m0, ps, ss⟩ m = ss.getD (surgeIdx ss m ss.length) default := rfl
  obtain ⟨b2, o2, rfl, hb2, hcell2⟩ := H2.out hl0
  obtain ⟨k, hk⟩ : ∃ k, surgeIdx ss m ss.length = k := ⟨_, rfl⟩
  rw [hk] at hix hsa
  rw [getD_at hix] at hsa
  have HSA := hide hsa; clear hsa
  have HK := hide hk; clear hk
  have e0 : w.cell? ⟨b2, o2 + k * 3 + 1, none⟩ = some (.int .i64 ss[k].low) := by have := hcell2 k ss[k] (List.getElem?_eq_getElem hix) 1 _ rfl; simpa using this
  rw [HSA.out] at hrg HV
  obtain ⟨y, hy⟩ : ∃ y, ss[k].low = y := ⟨_, rfl⟩
  obtain ⟨l, hl⟩ : ∃ l, level m0 ps m = l := ⟨_, rfl⟩
  rw [hy] at e0 hrg HV
  simp only at hlb
  rw [hl] at hlb HV
  have HL := hide hl
  have hkl : (k : Int) < ss.length := by omega
  have hsum : IntKind.i64.wrap (l + y) = l + y := IntWalk.i64_in _ (by omega)
  clear hcell2 hy hl HSA
  go_enter Try.func56, Try.ntmps56
  go_wp2_with fail
  generalize hW0 : (w.alloc (.cells #[.int .i64 m0, .slice A1 ps.length c1, .slice (some ⟨b2, o2, none⟩) ss.length c2] 28)) = W0
  have hB0 : Below w.heap.size w W0 := by rw [← hW0]; exact (by repeat (first | exact Below.refl _ _ | assumption | refine Below.setCell ?_ (by first | omega | (simp <;> omega)) _ | refine Below.alloc ?_ (by first | omega | (simp <;> omega)) _ | refine below_drewN ?_ _ | refine Below.drew ?_ | refine Below.trans ?_ (Below.mono (by assumption) (by first | omega | (simp <;> omega)))))
  have hl0' : w.heap.size < W0.heap.size := by rw [← hW0]; simp
  have hx0 : W0.cell? ⟨w.heap.size, 0, none⟩ = some (.int .i64 m0) := by rw [← hW0]; simp [go_sem]
  have hx1 : W0.cell? ⟨w.heap.size, 1, none⟩ = some (.slice A1 ps.length c1) := by rw [← hW0]; simp [go_sem]
  have hx2 : W0.cell? ⟨w.heap.size, 2, none⟩ = some (.slice (some ⟨b2, o2, none⟩) ss.length c2) := by rw [← hW0]; simp [go_sem]
  clear hW0
  have e1 := cellKeep hB0 e0 hb2
  have hb2' : b2 < W0.heap.size := by have := hB0.size; omega
  have HFW := hide ((HFR.out.keep hB0 (Nat.le_refl _)).mono hB0.size)
  clear e0
  refine wp_region_below (Below.refl W0.heap.size _) (by kernel_rfl) (by kernel_rfl) ?_
  repeat (first
    | go_big_quiet_skip
    | (go_big_quiet_want
       first
        | (refine quiet_value ?_; apply Exists.intro
           refine ⟨fun wq hq => ?_, ?_⟩
           · (obtain ⟨hc, hf⟩ := bcell hq; go_simp; first | done | rfl)
           go_big_quiet_on
           simp only [Act.put, List.setIfInBounds_toArray, List.set_cons_zero, List.set_cons_succ])
        | (refine quiet_call ?_; apply Exists.intro; apply Exists.intro; apply Exists.intro
           refine ⟨fun wq hq => ?_, fun wq hq => ?_, ?_⟩
           · (obtain ⟨hc, hf⟩ := bcell hq; go_simp; exact ⟨rfl, rfl⟩)
           · (first | with_reducible exact (calls_int (tlevel_any m0 m _ ps _ ((RdB.keep HFW.out.1 hq (Nat.le_refl _)).mono hq.size) HT.out q0 q1) HL.out).mono fun e w'' ⟨he, hw⟩ => ⟨he, hw ▸ hq⟩ | with_reducible exact (calls_int (tlevel_any m0 m _ ps _ ((RdB.keep HFW.out.1 hq (Nat.le_refl _)).mono hq.size) HT.out q0 q1) HL.out).mono fun e w'' ⟨he, hb'⟩ => ⟨he, bnext hq hb'⟩ | with_reducible exact (calls_int (surge_any _ _ ⟨m0, ps, ss⟩ m _ ((HFW.out.keep hq (Nat.le_refl _)).mono hq.size) HOK.out) (congrArg Nat.cast HK.out)).mono fun e w'' ⟨he, hw⟩ => ⟨he, hw ▸ hq⟩ | with_reducible exact (calls_int (surge_any _ _ ⟨m0, ps, ss⟩ m _ ((HFW.out.keep hq (Nat.le_refl _)).mono hq.size) HOK.out) (congrArg Nat.cast HK.out)).mono fun e w'' ⟨he, hb'⟩ => ⟨he, bnext hq hb'⟩ |  exact (calls_int (tlevel_any m0 m _ ps _ ((RdB.keep HFW.out.1 hq (Nat.le_refl _)).mono hq.size) HT.out q0 q1) HL.out).mono fun e w'' ⟨he, hb'⟩ => ⟨he, bnext hq hb'⟩ |  exact (calls_int (tlevel_any m0 m _ ps _ ((RdB.keep HFW.out.1 hq (Nat.le_refl _)).mono hq.size) HT.out q0 q1) HL.out).mono fun e w'' ⟨he, hw⟩ => ⟨he, hw ▸ hq⟩ |  exact (calls_int (surge_any _ _ ⟨m0, ps, ss⟩ m _ ((HFW.out.keep hq (Nat.le_refl _)).mono hq.size) HOK.out) (congrArg Nat.cast HK.out)).mono fun e w'' ⟨he, hb'⟩ => ⟨he, bnext hq hb'⟩ |  exact (calls_int (surge_any _ _ ⟨m0, ps, ss⟩ m _ ((HFW.out.keep hq (Nat.le_refl _)).mono hq.size) HOK.out) (congrArg Nat.cast HK.out)).mono fun e w'' ⟨he, hw⟩ => ⟨he, hw ▸ hq⟩)
           go_big_quiet_on
           simp only [Act.put, List.setIfInBounds_toArray, List.set_cons_zero, List.set_cons_succ])
        | (go_big_quiet_op; go_big_quiet_on)
       ))
  refine wpQuiet_nil (fun w5 hb5 => ?_)
  go_wp2
  go_ret
  exact ⟨ret_int (by rw [HV.out]), bnext hB0 hb5 (Nat.le_refl _)⟩
set_option maxRecDepth 100000 in
set_option maxHeartbeats 8000000 in
theorem fhigh_any (v1 v2 : Value) (f : ForeD) (m : Int) (w : World) (h : RdFore w w.heap.size v1 v2 f) (hok : foreOk f = true) (q0 : 0 ≤ m) (q1 : m ≤ 2880) :
    Calls Try.prog 103 #[.agg #[.int .i64 f.m0, v1, v2], .int .i64 m] w fun e w' => e = .returned (.int .i64 (highF f m)) ∧ Below w.heap.size w w' := by
  have HFR := hide h; have hrg := surgeAt_range (m := m) hok; have hlb := level_bd (m := m) hok
  obtain ⟨m0, ps, ss⟩ := f
  obtain ⟨h1, h2⟩ := h
  simp only at h1 h2 hok ⊢
  have HR1 := hide h1; have HR2 := hide h2
  obtain ⟨A1, c1, rfl, hc1, hm1, h1⟩ := h1
  obtain ⟨A2, c2, rfl, hc2, hm2, h2⟩ := h2
  unfold maxLen at hm1 hm2
  clear h1
  have H2 := hide h2; clear h2
  obtain ⟨ht, hl0, hl6, hso⟩ := foreOk_of hok
  simp only at ht hl0 hl6 hso
  have HT := hide ht; have HSO := hide hso; have HOK := hide hok
  clear ht hso hok
  have HV := hide (show highF ⟨m0, ps, ss⟩ m = level m0 ps m + (surgeAt ⟨m0, ps, ss⟩ m).high from rfl)
  have hix := surgeIdx_lt ss m ss.length hl0
  have hsa : surgeAt ⟨m0, ps, ss⟩ m = ss.getD (surgeIdx ss m ss.length) default := rfl
  obtain ⟨b2, o2, rfl, hb2, hcell2⟩ := H2.out hl0
  obtain ⟨k, hk⟩ : ∃ k, surgeIdx ss m ss.length = k := ⟨_, rfl⟩
  rw [hk] at hix hsa
  rw [getD_at hix] at hsa
  have HSA := hide hsa; clear hsa
  have HK := hide hk; clear hk
  have e0 : w.cell? ⟨b2, o2 + k * 3 + 2, none⟩ = some (.int .i64 ss[k].high) := by have := hcell2 k ss[k] (List.getElem?_eq_getElem hix) 2 _ rfl; simpa using this
  rw [HSA.out] at hrg HV
  obtain ⟨y, hy⟩ : ∃ y, ss[k].high = y := ⟨_, rfl⟩
  obtain ⟨l, hl⟩ : ∃ l, level m0 ps m = l := ⟨_, rfl⟩
  rw [hy] at e0 hrg HV
  simp only at hlb
  rw [hl] at hlb HV
  have HL := hide hl
  have hkl : (k : Int) < ss.length := by omega
  have hsum : IntKind.i64.wrap (l + y) = l + y := IntWalk.i64_in _ (by omega)
  clear hcell2 hy hl HSA
  go_enter Try.func103, Try.ntmps103
  go_wp2_with fail
  generalize hW0 : (w.alloc (.cells #[.int .i64 m0, .slice A1 ps.length c1, .slice (some ⟨b2, o2, none⟩) ss.length c2] 28)) = W0
  have hB0 : Below w.heap.size w W0 := by rw [← hW0]; exact (by repeat (first | exact Below.refl _ _ | assumption | refine Below.setCell ?_ (by first | omega | (simp <;> omega)) _ | refine Below.alloc ?_ (by first | omega | (simp <;> omega)) _ | refine below_drewN ?_ _ | refine Below.drew ?_ | refine Below.trans ?_ (Below.mono (by assumption) (by first | omega | (simp <;> omega)))))
  have hl0' : w.heap.size < W0.heap.size := by rw [← hW0]; simp
  have hx0 : W0.cell? ⟨w.heap.size, 0, none⟩ = some (.int .i64 m0) := by rw [← hW0]; simp [go_sem]
  have hx1 : W0.cell? ⟨w.heap.size, 1, none⟩ = some (.slice A1 ps.length c1) := by rw [← hW0]; simp [go_sem]
  have hx2 : W0.cell? ⟨w.heap.size, 2, none⟩ = some (.slice (some ⟨b2, o2, none⟩) ss.length c2) := by rw [← hW0]; simp [go_sem]
  clear hW0
  have e1 := cellKeep hB0 e0 hb2
  have hb2' : b2 < W0.heap.size := by have := hB0.size; omega
  have HFW := hide ((HFR.out.keep hB0 (Nat.le_refl _)).mono hB0.size)
  clear e0
  refine wp_region_below (Below.refl W0.heap.size _) (by kernel_rfl) (by kernel_rfl) ?_
  repeat (first
    | go_big_quiet_skip
    | (go_big_quiet_want
       first
        | (refine quiet_value ?_; apply Exists.intro
           refine ⟨fun wq hq => ?_, ?_⟩
           · (obtain ⟨hc, hf⟩ := bcell hq; go_simp; first | done | rfl)
           go_big_quiet_on
           simp only [Act.put, List.setIfInBounds_toArray, List.set_cons_zero, List.set_cons_succ])
        | (refine quiet_call ?_; apply Exists.intro; apply Exists.intro; apply Exists.intro
           refine ⟨fun wq hq => ?_, fun wq hq => ?_, ?_⟩
           · (obtain ⟨hc, hf⟩ := bcell hq; go_simp; exact ⟨rfl, rfl⟩)
           · (first | with_reducible exact (calls_int (tlevel_any m0 m _ ps _ ((RdB.keep HFW.out.1 hq (Nat.le_refl _)).mono hq.size) HT.out q0 q1) HL.out).mono fun e w'' ⟨he, hw⟩ => ⟨he, hw ▸ hq⟩ | with_reducible exact (calls_int (tlevel_any m0 m _ ps _ ((RdB.keep HFW.out.1 hq (Nat.le_refl _)).mono hq.size) HT.out q0 q1) HL.out).mono fun e w'' ⟨he, hb'⟩ => ⟨he, bnext hq hb'⟩ | with_reducible exact (calls_int (surge_any _ _ ⟨m0, ps, ss⟩ m _ ((HFW.out.keep hq (Nat.le_refl _)).mono hq.size) HOK.out) (congrArg Nat.cast HK.out)).mono fun e w'' ⟨he, hw⟩ => ⟨he, hw ▸ hq⟩ | with_reducible exact (calls_int (surge_any _ _ ⟨m0, ps, ss⟩ m _ ((HFW.out.keep hq (Nat.le_refl _)).mono hq.size) HOK.out) (congrArg Nat.cast HK.out)).mono fun e w'' ⟨he, hb'⟩ => ⟨he, bnext hq hb'⟩ |  exact (calls_int (tlevel_any m0 m _ ps _ ((RdB.keep HFW.out.1 hq (Nat.le_refl _)).mono hq.size) HT.out q0 q1) HL.out).mono fun e w'' ⟨he, hb'⟩ => ⟨he, bnext hq hb'⟩ |  exact (calls_int (tlevel_any m0 m _ ps _ ((RdB.keep HFW.out.1 hq (Nat.le_refl _)).mono hq.size) HT.out q0 q1) HL.out).mono fun e w'' ⟨he, hw⟩ => ⟨he, hw ▸ hq⟩ |  exact (calls_int (surge_any _ _ ⟨m0, ps, ss⟩ m _ ((HFW.out.keep hq (Nat.le_refl _)).mono hq.size) HOK.out) (congrArg Nat.cast HK.out)).mono fun e w'' ⟨he, hb'⟩ => ⟨he, bnext hq hb'⟩ |  exact (calls_int (surge_any _ _ ⟨m0, ps, ss⟩ m _ ((HFW.out.keep hq (Nat.le_refl _)).mono hq.size) HOK.out) (congrArg Nat.cast HK.out)).mono fun e w'' ⟨he, hw⟩ => ⟨he, hw ▸ hq⟩)
           go_big_quiet_on
           simp only [Act.put, List.setIfInBounds_toArray, List.set_cons_zero, List.set_cons_succ])
        | (go_big_quiet_op; go_big_quiet_on)
       ))
  refine wpQuiet_nil (fun w5 hb5 => ?_)
  go_wp2
  go_ret
  exact ⟨ret_int (by rw [HV.out]), bnext hB0 hb5 (Nat.le_refl _)⟩
set_option maxRecDepth 100000 in
set_option maxHeartbeats 8000000 in
theorem l03Surge_any (v1 v2 : Value) (f : ForeD) (m : Int) (w : World) (h : RdFore w w.heap.size v1 v2 f) (hok : foreOk f = true) :
    Calls Try.prog 133 #[.agg #[.int .i64 f.m0, v1, v2], .int .i64 m] w fun e w' => e = .returned (.agg #[.int .i64 (surgeAt f m).start, .int .i64 (surgeAt f m).low, .int .i64 (surgeAt f m).high]) ∧ Below w.heap.size w w' := by
  obtain ⟨m0, ps, ss⟩ := f
  obtain ⟨h1, h2⟩ := h
  simp only at h1 h2 hok ⊢
  have HR1 := hide h1; have HR2 := hide h2
  obtain ⟨A1, c1, rfl, hc1, hm1, h1⟩ := h1
  obtain ⟨A2, c2, rfl, hc2, hm2, h2⟩ := h2
  unfold maxLen at hm1 hm2
  clear h1
  have H2 := hide h2; clear h2
  obtain ⟨ht, hl0, hl6, hso⟩ := foreOk_of hok
  simp only at ht hl0 hl6 hso
  have HT := hide ht; have HSO := hide hso; have HOK := hide hok
  clear ht hso hok
  obtain ⟨b2, o2, rfl, hb2, hcell2⟩ := H2.out hl0
  have HC2 := hide hcell2
  have hrr := Below.refl w.heap.size w
  have hlt0 : 0 < ss.length := hl0
  have z0 : w.cell? ⟨b2, o2, none⟩ = some (.int .i64 ss[0].start) := by have := hcell2 0 ss[0] (List.getElem?_eq_getElem hlt0) 0 _ rfl; simpa using this
  have z1 : w.cell? ⟨b2, o2 + 1, none⟩ = some (.int .i64 ss[0].low) := by have := hcell2 0 ss[0] (List.getElem?_eq_getElem hlt0) 1 _ rfl; simpa using this
  have z2 : w.cell? ⟨b2, o2 + 2, none⟩ = some (.int .i64 ss[0].high) := by have := hcell2 0 ss[0] (List.getElem?_eq_getElem hlt0) 2 _ rfl; simpa using this
  have hl0i : (0 : Int) < ss.length := by omega
  have hq1 : b2 < w.heap.size + 1 := by omega
  have hq2 : b2 < w.heap.size + 1 + 1 := by omega
  have hq3 : b2 < w.heap.size + 1 + 1 + 1 := by omega
  have HX0 := hide (getD_at hlt0)
  obtain ⟨x, hx⟩ : ∃ x, ss[0] = x := ⟨_, rfl⟩
  rw [hx] at z0 z1 z2 HX0
  clear hcell2 hx hrr
  go_enter Try.func133, Try.ntmps133
  go_wp2
  have hbx2 := Box3.new ((w.alloc (.cells #[.int .i64 m0, .slice A1 ps.length c1, .slice (some ⟨b2, o2, none⟩) ss.length c2] 28)).alloc (.cells #[.int .i64 0, .int .i64 0, .int .i64 0] 119)) x.start x.low x.high 119
  have hbx1 := (Box3.new (w.alloc (.cells #[.int .i64 m0, .slice A1 ps.length c1, .slice (some ⟨b2, o2, none⟩) ss.length c2] 28)) 0 0 0 119).keep (w' := ((w.alloc (.cells #[.int .i64 m0, .slice A1 ps.length c1, .slice (some ⟨b2, o2, none⟩) ss.length c2] 28)).alloc (.cells #[.int .i64 0, .int .i64 0, .int .i64 0] 119)).alloc (.cells #[.int .i64 x.start, .int .i64 x.low, .int .i64 x.high] 119)) (B := ((w.alloc (.cells #[.int .i64 m0, .slice A1 ps.length c1, .slice (some ⟨b2, o2, none⟩) ss.length c2] 28)).alloc (.cells #[.int .i64 0, .int .i64 0, .int .i64 0] 119)).heap.size) ((Below.refl _ _).alloc (Nat.le_refl _) _) (by simp)
  have hbw : Below w.heap.size w (((w.alloc (.cells #[.int .i64 m0, .slice A1 ps.length c1, .slice (some ⟨b2, o2, none⟩) ss.length c2] 28)).alloc (.cells #[.int .i64 0, .int .i64 0, .int .i64 0] 119)).alloc (.cells #[.int .i64 x.start, .int .i64 x.low, .int .i64 x.high] 119)) := (by repeat (first | exact Below.refl _ _ | assumption | refine Below.setCell ?_ (by first | omega | (simp <;> omega)) _ | refine Below.alloc ?_ (by first | omega | (simp <;> omega)) _ | refine below_drewN ?_ _ | refine Below.drew ?_ | refine Below.trans ?_ (Below.mono (by assumption) (by first | omega | (simp <;> omega)))))
  have hsz : w.heap.size + 1 + 1 < (((w.alloc (.cells #[.int .i64 m0, .slice A1 ps.length c1, .slice (some ⟨b2, o2, none⟩) ss.length c2] 28)).alloc (.cells #[.int .i64 0, .int .i64 0, .int .i64 0] 119)).alloc (.cells #[.int .i64 x.start, .int .i64 x.low, .int .i64 x.high] 119)).heap.size := by simp
  simp only [World.size_alloc] at hbx1 hbx2
  generalize (((w.alloc (.cells #[.int .i64 m0, .slice A1 ps.length c1, .slice (some ⟨b2, o2, none⟩) ss.length c2] 28)).alloc (.cells #[.int .i64 0, .int .i64 0, .int .i64 0] 119)).alloc (.cells #[.int .i64 x.start, .int .i64 x.low, .int .i64 x.high] 119)) = W0 at hbx1 hbx2 hbw hsz ⊢
  obtain ⟨g1, hg1⟩ : ∃ g, w.heap.size + 1 = g := ⟨_, rfl⟩
  rw [hg1] at hbx1 hbx2 hsz ⊢
  obtain ⟨g2, hg2⟩ : ∃ g, g1 + 1 = g := ⟨_, rfl⟩
  rw [hg2] at hbx2 hsz ⊢
  have hgw : w.heap.size ≤ g1 := by omega
  have hgw2 : w.heap.size ≤ g2 := by omega
  have hgne : g2 ≠ g1 := by omega
  have hg12 : g1 < g2 := by omega
  clear hq1 hq2 hq3 z0 z1 z2 hg1 hg2
  go_loopw [15] (fun i wr => ∃ k : Nat, k ≤ ss.length ∧ i = .int .i64 k ∧ Hid (Box3 wr g1 0 0 0) ∧ Hid (Box3 wr g2 (ss.getD (surgeIdx ss m k) default).start (ss.getD (surgeIdx ss m k) default).low (ss.getD (surgeIdx ss m k) default).high) ∧ g2 < wr.heap.size ∧ Below w.heap.size w wr) (fun i _ => ss.length - (intOf i).toNat)
  case atStart => exact ⟨0, Nat.zero_le _, rfl, hide hbx1, hide (by show Box3 W0 g2 (ss.getD 0 default).start (ss.getD 0 default).low (ss.getD 0 default).high; rw [HX0.out]; exact hbx2), hsz, hbw⟩
  case round =>
    clear hbx1 hbx2 hbw hsz
    obtain ⟨k, hk, rfl, HB1, HB2, hgl, hb0⟩ := hrel
    obtain ⟨wo, rfl⟩ : ∃ wo : World, wo = wr := ⟨_, rfl⟩
    have hbs := hb0.size
    by_cases hlt : k < ss.length
    · have hcell2 := HC2.out
      have e0 : wo.cell? ⟨b2, o2 + k * 3, none⟩ = some (.int .i64 ss[k].start) := by
        rw [hb0.cell (p := ⟨b2, _, none⟩) hb2]; have := hcell2 k ss[k] (List.getElem?_eq_getElem hlt) 0 _ rfl; simpa using this
      have e1 : wo.cell? ⟨b2, o2 + k * 3 + 1, none⟩ = some (.int .i64 ss[k].low) := by
        rw [hb0.cell (p := ⟨b2, _, none⟩) hb2]; have := hcell2 k ss[k] (List.getElem?_eq_getElem hlt) 1 _ rfl; simpa using this
      have e2 : wo.cell? ⟨b2, o2 + k * 3 + 2, none⟩ = some (.int .i64 ss[k].high) := by
        rw [hb0.cell (p := ⟨b2, _, none⟩) hb2]; have := hcell2 k ss[k] (List.getElem?_eq_getElem hlt) 2 _ rfl; simpa using this
      have HX := hide (getD_at hlt)
      obtain ⟨y, hy⟩ : ∃ y, ss[k] = y := ⟨_, rfl⟩
      rw [hy] at e0 e1 e2 HX
      clear hcell2 hy
      have hB0 : Below wo.heap.size wo (wo.alloc (.cells #[.int .i64 y.start, .int .i64 y.low, .int .i64 y.high] 119)) := (Below.refl _ _).alloc (Nat.le_refl _) _
      by_cases hxm : y.start ≤ m
      · have HS := hide (show surgeIdx ss m (k + 1) = k by rw [surgeIdx_succ, HX.out, if_pos hxm])
        obtain ⟨r0, r1, r2, r3, r4, r5⟩ := HB2.out
        have hsz3 : (((wo.setCell ⟨g2, 0, none⟩ (.int .i64 y.start)).setCell ⟨g2, 1, none⟩ (.int .i64 y.low)).setCell ⟨g2, 2, none⟩ (.int .i64 y.high)).heap.size = wo.heap.size := by simp [World.setCell]
        have HA1 := hide (((HB1.out.far (i := 0) (v := .int .i64 y.start) hgne).far (i := 1) (v := .int .i64 y.low) hgne).far (i := 2) (v := .int .i64 y.high) hgne)
        have HA2 := hide (HB2.out.store y.start y.low y.high)
        have hbs3 : Below w.heap.size w (((wo.setCell ⟨g2, 0, none⟩ (.int .i64 y.start)).setCell ⟨g2, 1, none⟩ (.int .i64 y.low)).setCell ⟨g2, 2, none⟩ (.int .i64 y.high)) := ((hb0.setCell (p := ⟨g2, 0, none⟩) hgw2 _).setCell (p := ⟨g2, 1, none⟩) hgw2 _).setCell (p := ⟨g2, 2, none⟩) hgw2 _
        go_wp2
        generalize (((wo.setCell ⟨g2, 0, none⟩ (.int .i64 y.start)).setCell ⟨g2, 1, none⟩ (.int .i64 y.low)).setCell ⟨g2, 2, none⟩ (.int .i64 y.high)) = W3 at hsz3 HA1 HA2 hbs3 ⊢
        have hB3 : Below W3.heap.size W3 (W3.alloc (.cells #[.int .i64 y.start, .int .i64 y.low, .int .i64 y.high] 119)) := (Below.refl _ _).alloc (Nat.le_refl _) _
        go_roundw
        case rel => exact ⟨k + 1, by omega, by go_num, hide (HA1.out.keep hB3 (by omega)), hide (by rw [HS.out, HX.out]; exact HA2.out.keep hB3 (by omega)), by simp; omega, bnext hbs3 hB3 (by omega)⟩
        case measure => simp [intOf]; omega
      · have HS := hide (show surgeIdx ss m (k + 1) = surgeIdx ss m k by rw [surgeIdx_succ, HX.out, if_neg hxm])
        go_wp2
        go_roundw
        case rel => exact ⟨k + 1, by omega, by go_num, hide (HB1.out.keep hB0 (by omega)), hide (by rw [HS.out]; exact HB2.out.keep hB0 hgl), by have := hB0.size; omega, bnext hb0 hB0 (Nat.le_refl _)⟩
        case measure => simp [intOf]; omega
    · obtain rfl : k = ss.length := by omega
      obtain ⟨r0, r1, r2, r3, r4, r5⟩ := HB2.out
      obtain ⟨s0, s1, s2, s3, s4, s5⟩ := HB1.out
      have hbe : ∀ a b c : Value, Below w.heap.size w (((wo.setCell ⟨g1, 0, none⟩ a).setCell ⟨g1, 1, none⟩ b).setCell ⟨g1, 2, none⟩ c) := fun a b c => ((hb0.setCell (p := ⟨g1, 0, none⟩) hgw _).setCell (p := ⟨g1, 1, none⟩) hgw _).setCell (p := ⟨g1, 2, none⟩) hgw _
      have HV := hide (show surgeAt ⟨m0, ps, ss⟩ m = ss.getD (surgeIdx ss m ss.length) default from rfl)
      obtain ⟨y, hy⟩ : ∃ y, ss.getD (surgeIdx ss m ss.length) default = y := ⟨_, rfl⟩
      rw [hy] at r0 r1 r2 HV
      have HZ := hide (HB1.out.store y.start y.low y.high)
      clear hy
      go_wp2
      refine bodyPost_ret (v := .agg #[.int .i64 y.start, .int .i64 y.low, .int .i64 y.high]) ?_ rfl ⟨by rw [HV.out], hbe _ _ _⟩
      obtain ⟨t0, t1, t2, -, -, -⟩ := HZ.out
      simp [results, Try.results133, go_sem, t0, t1, t2]
set_option maxRecDepth 100000 in
set_option maxHeartbeats 8000000 in
theorem spec_SurgeAt_any (v1 v2 : Value) (f : ForeD) (m : Int) (w : World) (h : RdFore w w.heap.size v1 v2 f) :
    Calls Try.prog 111 #[.agg #[.int .i64 f.m0, v1, v2], .int .i64 m] w fun e w' => e = .returned (.tuple #[.int .i64 (saLow f m), .int .i64 (saHigh f m), .bool (saOk f m)]) ∧ Below w.heap.size w w' := by
  have HFR := hide h
  obtain ⟨m0, ps, ss⟩ := f
  obtain ⟨h1, h2⟩ := h
  simp only at h1 h2 HFR ⊢
  have HR1 := hide h1
  obtain ⟨A1, c1, rfl, hc1, hm1, h1⟩ := h1
  obtain ⟨A2, c2, rfl, hc2, hm2, h2⟩ := h2
  unfold maxLen at hm1 hm2
  clear h1 h2
  rcases ch2 (foreOk ⟨m0, ps, ss⟩) (inB m 0 2880) with ⟨g1, g2⟩ | g1 | ⟨g1, g2⟩
  · have G := hide (show saOk ⟨m0, ps, ss⟩ m = true by unfold saOk; rw [g1, g2]; rfl)
    have HLW := hide (show saLow ⟨m0, ps, ss⟩ m = (surgeAt ⟨m0, ps, ss⟩ m).low by unfold saLow; rw [if_pos G.out])
    have HHI := hide (show saHigh ⟨m0, ps, ss⟩ m = (surgeAt ⟨m0, ps, ss⟩ m).high by unfold saHigh; rw [if_pos G.out])
    have HOK := hide g1
    obtain ⟨y, hy⟩ : ∃ y, surgeAt ⟨m0, ps, ss⟩ m = y := ⟨_, rfl⟩
    have HY := hide hy; clear hy
    go_enter Try.func111, Try.ntmps111
    go_wp2_with (first
      | (go_at_call 66; with_reducible refine (spec_ForecastOk_any _ _ ⟨m0, ps, ss⟩ _ ((HFR.out.keep (B' := w.heap.size) (by repeat (first | exact Below.refl _ _ | assumption | refine Below.setCell ?_ (by first | omega | (simp <;> omega)) _ | refine Below.alloc ?_ (by first | omega | (simp <;> omega)) _ | refine below_drewN ?_ _ | refine Below.drew ?_ | refine Below.trans ?_ (Below.mono (by assumption) (by first | omega | (simp <;> omega))))) (Nat.le_refl _)).mono (by first | omega | (simp <;> omega)))).mono ?_; rintro e w1 ⟨rfl, hb'⟩; (first | have hb := bnext hb hb' | have hb := bnextA hb hb' | have hb := hb'); clear hb'; obtain ⟨hc, hf⟩ := bcell hb; have hz := hb.size; (try simp at hz))
      | (go_at_call 68; with_reducible refine (l01In_any _ _ _ _).mono ?_; rintro e w1 ⟨rfl, hw⟩; obtain rfl := hw.symm)
      | (go_at_call 133; with_reducible refine (l03Surge_any _ _ ⟨m0, ps, ss⟩ m _ ((HFR.out.keep (B' := w.heap.size) (by repeat (first | exact Below.refl _ _ | assumption | refine Below.setCell ?_ (by first | omega | (simp <;> omega)) _ | refine Below.alloc ?_ (by first | omega | (simp <;> omega)) _ | refine below_drewN ?_ _ | refine Below.drew ?_ | refine Below.trans ?_ (Below.mono (by assumption) (by first | omega | (simp <;> omega))))) (Nat.le_refl _)).mono (by first | omega | (simp <;> omega))) HOK.out).mono ?_; rintro e w2 ⟨rfl, hb'⟩; rw [HY.out]; (first | have hb := bnext hb hb' | have hb := bnextA hb hb' | have hb := hb'); clear hb'; obtain ⟨hc, hf⟩ := bcell hb; have hz := hb.size; (try simp at hz)))
    go_quiet (fail)
    go_wp2
    exact bodyPost_ret (v := .tuple #[.int .i64 y.low, .int .i64 y.high, .bool true]) (by simp [results, Try.results111, go_sem]) rfl ⟨by rw [G.out, HLW.out, HHI.out, HY.out], (by repeat (first | exact Below.refl _ _ | assumption | refine Below.setCell ?_ (by first | omega | (simp <;> omega)) _ | refine Below.alloc ?_ (by first | omega | (simp <;> omega)) _ | refine below_drewN ?_ _ | refine Below.drew ?_ | refine Below.trans ?_ (Below.mono (by assumption) (by first | omega | (simp <;> omega)))))⟩
  all_goals
    have G := hide (show saOk ⟨m0, ps, ss⟩ m = false by unfold saOk; first | (rw [g1, g2]; rfl) | (rw [g1]; rfl))
    have HLW := hide (show saLow ⟨m0, ps, ss⟩ m = 0 by unfold saLow; rw [G.out]; rfl)
    have HHI := hide (show saHigh ⟨m0, ps, ss⟩ m = 0 by unfold saHigh; rw [G.out]; rfl)
    go_enter Try.func111, Try.ntmps111
    go_wp2_with (first
      | (go_at_call 66; with_reducible refine (spec_ForecastOk_any _ _ ⟨m0, ps, ss⟩ _ ((HFR.out.keep (B' := w.heap.size) (by repeat (first | exact Below.refl _ _ | assumption | refine Below.setCell ?_ (by first | omega | (simp <;> omega)) _ | refine Below.alloc ?_ (by first | omega | (simp <;> omega)) _ | refine below_drewN ?_ _ | refine Below.drew ?_ | refine Below.trans ?_ (Below.mono (by assumption) (by first | omega | (simp <;> omega))))) (Nat.le_refl _)).mono (by first | omega | (simp <;> omega)))).mono ?_; rintro e w1 ⟨rfl, hb'⟩; (first | have hb := bnext hb hb' | have hb := bnextA hb hb' | have hb := hb'); clear hb'; obtain ⟨hc, hf⟩ := bcell hb; have hz := hb.size; (try simp at hz))
      | (go_at_call 68; with_reducible refine (l01In_any _ _ _ _).mono ?_; rintro e w1 ⟨rfl, hw⟩; obtain rfl := hw.symm))
    exact bodyPost_ret (v := .tuple #[.int .i64 0, .int .i64 0, .bool false]) (by simp [results, Try.results111, go_sem]) rfl ⟨by rw [G.out, HLW.out, HHI.out], (by repeat (first | exact Below.refl _ _ | assumption | refine Below.setCell ?_ (by first | omega | (simp <;> omega)) _ | refine Below.alloc ?_ (by first | omega | (simp <;> omega)) _ | refine below_drewN ?_ _ | refine Below.drew ?_ | refine Below.trans ?_ (Below.mono (by assumption) (by first | omega | (simp <;> omega)))))⟩
set_option maxRecDepth 100000 in
set_option maxHeartbeats 8000000 in
theorem spec_LowAt_any (v1 v2 : Value) (f : ForeD) (m : Int) (w : World) (h : RdFore w w.heap.size v1 v2 f) :
    Calls Try.prog 70 #[.agg #[.int .i64 f.m0, v1, v2], .int .i64 m] w fun e w' => e = .returned (.int .i64 (lowAt f m)) ∧ Below w.heap.size w w' := by
  have HFR := hide h
  obtain ⟨m0, ps, ss⟩ := f
  obtain ⟨h1, h2⟩ := h
  simp only at h1 h2 HFR ⊢
  have HR1 := hide h1
  obtain ⟨A1, c1, rfl, hc1, hm1, h1⟩ := h1
  obtain ⟨A2, c2, rfl, hc2, hm2, h2⟩ := h2
  unfold maxLen at hm1 hm2
  clear h1 h2
  rcases ch1 (foreOk ⟨m0, ps, ss⟩ && inB m 0 2880) with g | g
  · have HV := hide (show lowAt ⟨m0, ps, ss⟩ m = level m0 ps m + (surgeAt ⟨m0, ps, ss⟩ m).low by unfold lowAt; rw [if_pos g]; rfl)
    simp only [Bool.and_eq_true] at g
    have hm : 0 ≤ m ∧ m ≤ 2880 := by have := g.2; simp [inB] at this; exact this
    have hrg := surgeAt_range (m := m) g.1
    have hlb := level_bd (m := m) g.1
    simp only at hlb
    have HT := hide (foreOk_of g.1).1
    have G := hide (show saOk ⟨m0, ps, ss⟩ m = true by unfold saOk; rw [g.1, g.2]; rfl)
    have HLW := hide (show saLow ⟨m0, ps, ss⟩ m = (surgeAt ⟨m0, ps, ss⟩ m).low by unfold saLow; rw [if_pos G.out])
    clear g
    obtain ⟨l, hl⟩ : ∃ l, level m0 ps m = l := ⟨_, rfl⟩
    obtain ⟨y, hy⟩ : ∃ y, surgeAt ⟨m0, ps, ss⟩ m = y := ⟨_, rfl⟩
    rw [hy] at hrg HV
    rw [hl] at hlb HV
    have HL := hide hl; have HY := hide hy
    clear hl hy
    obtain ⟨hm0, hm1⟩ := hm
    go_enter Try.func70, Try.ntmps70
    go_wp2_with (first
      | (go_at_call 111; with_reducible refine (spec_SurgeAt_any _ _ ⟨m0, ps, ss⟩ m _ ((HFR.out.keep (B' := w.heap.size) (by repeat (first | exact Below.refl _ _ | assumption | refine Below.setCell ?_ (by first | omega | (simp <;> omega)) _ | refine Below.alloc ?_ (by first | omega | (simp <;> omega)) _ | refine below_drewN ?_ _ | refine Below.drew ?_ | refine Below.trans ?_ (Below.mono (by assumption) (by first | omega | (simp <;> omega))))) (Nat.le_refl _)).mono (by first | omega | (simp <;> omega)))).mono ?_; rintro e w1 ⟨rfl, hb'⟩; rw [G.out, HLW.out, HY.out]; (first | have hb := bnext hb hb' | have hb := bnextA hb hb' | have hb := hb'); clear hb'; obtain ⟨hc, hf⟩ := bcell hb; have hz := hb.size; (try simp at hz))
      | (go_at_call 112; with_reducible refine (l02Level_any m0 m _ ps _ ((RdB.keep HR1.out (B' := w.heap.size) (by repeat (first | exact Below.refl _ _ | assumption | refine Below.setCell ?_ (by first | omega | (simp <;> omega)) _ | refine Below.alloc ?_ (by first | omega | (simp <;> omega)) _ | refine below_drewN ?_ _ | refine Below.drew ?_ | refine Below.trans ?_ (Below.mono (by assumption) (by first | omega | (simp <;> omega))))) (Nat.le_refl _)).mono (by first | omega | (simp <;> omega))) HT.out hm0 hm1).mono ?_; rintro e w2 ⟨rfl, hb'⟩; rw [HL.out]; (first | have hb := bnext hb hb' | have hb := bnextA hb hb' | have hb := hb'); clear hb'; obtain ⟨hc, hf⟩ := bcell hb; have hz := hb.size; (try simp at hz)))
    go_ret
    exact ⟨ret_int (by rw [HV.out]), (by repeat (first | exact Below.refl _ _ | assumption | refine Below.setCell ?_ (by first | omega | (simp <;> omega)) _ | refine Below.alloc ?_ (by first | omega | (simp <;> omega)) _ | refine below_drewN ?_ _ | refine Below.drew ?_ | refine Below.trans ?_ (Below.mono (by assumption) (by first | omega | (simp <;> omega)))))⟩
  · have HV := hide (show lowAt ⟨m0, ps, ss⟩ m = 0 by unfold lowAt; rw [g]; rfl)
    have G := hide (show saOk ⟨m0, ps, ss⟩ m = false from g)
    clear g
    go_enter Try.func70, Try.ntmps70
    go_wp2_with (go_at_call 111; with_reducible refine (spec_SurgeAt_any _ _ ⟨m0, ps, ss⟩ m _ ((HFR.out.keep (B' := w.heap.size) (by repeat (first | exact Below.refl _ _ | assumption | refine Below.setCell ?_ (by first | omega | (simp <;> omega)) _ | refine Below.alloc ?_ (by first | omega | (simp <;> omega)) _ | refine below_drewN ?_ _ | refine Below.drew ?_ | refine Below.trans ?_ (Below.mono (by assumption) (by first | omega | (simp <;> omega))))) (Nat.le_refl _)).mono (by first | omega | (simp <;> omega)))).mono ?_; rintro e w1 ⟨rfl, hb'⟩; rw [G.out]; (first | have hb := bnext hb hb' | have hb := bnextA hb hb' | have hb := hb'); clear hb'; obtain ⟨hc, hf⟩ := bcell hb; have hz := hb.size; (try simp at hz))
    go_ret
    exact ⟨ret_int (by rw [HV.out]), (by repeat (first | exact Below.refl _ _ | assumption | refine Below.setCell ?_ (by first | omega | (simp <;> omega)) _ | refine Below.alloc ?_ (by first | omega | (simp <;> omega)) _ | refine below_drewN ?_ _ | refine Below.drew ?_ | refine Below.trans ?_ (Below.mono (by assumption) (by first | omega | (simp <;> omega)))))⟩
end Go.Proofs.Ytpbcbdjjpkenjaa
