/- Whether a passage is safe: both texts. No condition. -/
import Derived.Test.YtpbcbdjjpkenjaaGreatStarts2
import Derived.Test.YtpbcbdjjpkenjaaGreatPass
namespace Go.Proofs.YtpbcbdjjpkenjaaGreat
open Go.RowKit
set_option linter.unusedVariables false
def safePass (f : ForeD) (c : ChartD) (fl : List ShipD) (p : PassageD) : Bool := passOk c fl p && hasMin (startsOf false f c p.segment (fl.getD p.ship.toNat default)) p.start
theorem passOk_ship {c : ChartD} {fl : List ShipD} {p : PassageD} (h : passOk c fl p = true) : inB p.ship 0 ((fl.length : Int) - 1) = true := by
  unfold passOk at h; simp only [Bool.and_eq_true] at h; exact h.1.1.1.1.2
set_option maxRecDepth 100000 in
set_option maxHeartbeats 16000000 in
theorem spec_IsSafePassage_any (v1 v2 v3 v4 v5 : Value) (f : ForeD) (c : ChartD) (fl : List ShipD) (p : PassageD) (w : World) (h : RdFore w w.heap.size v1 v2 f) (hch : RdChart w w.heap.size v3 v4 c) (hf : RdShip w v5 fl) (hokp : ∀ x ∈ c.points, x.name.size ≤ maxLen) (hokf : ∀ x ∈ fl, x.ok) :
    Calls Tryz.prog 23 #[.agg #[.int .i64 f.m0, v1, v2], .agg #[v3, v4], v5, p.val] w fun e w' => e = .returned (.bool (safePass f c fl p)) ∧ Below w.heap.size w w' := by
  have HFR := hide h; have HCR := hide hch; have HF := hide hf
  obtain ⟨m0, ps, ss⟩ := f
  obtain ⟨p0, p1, p2, p3, p4⟩ := p
  obtain ⟨h1, h2⟩ := h
  obtain ⟨h3, h4⟩ := hch
  simp only at h1 h2 HFR ⊢
  obtain ⟨A1, c1, rfl, hc1, hm1, h1⟩ := h1
  obtain ⟨A2, c2, rfl, hc2, hm2, h2⟩ := h2
  obtain ⟨A3, c3, rfl, hc3, hm3, h3⟩ := h3
  obtain ⟨A4, c4, rfl, hc4, hm4, h4⟩ := h4
  obtain ⟨A5, c5, rfl, hc5, hm5, hf⟩ := hf
  unfold maxLen at hm1 hm2 hm3 hm4 hm5
  clear h1 h2 h3 h4
  have hl5 : (fl.length : Int) ≤ 9223372036854775807 := by omega
  rcases ch1 (passOk c fl ⟨p0, p1, p2, p3, p4⟩) with gp | gp
  · obtain ⟨a, ha0, ha⟩ := idx_nat (passOk_ship gp)
    simp only at ha0
    subst ha0
    have hs := ShipD.ok_size (hokf fl[a] (List.getElem_mem ha))
    obtain ⟨r, hr⟩ : ∃ r, hasMin (startsOf false ⟨m0, ps, ss⟩ c p1 fl[a]) p3 = r := ⟨_, rfl⟩
    have HV := hide (show safePass ⟨m0, ps, ss⟩ c fl ⟨a, p1, p2, p3, p4⟩ = r by unfold safePass; rw [gp]; simp only [Int.toNat_natCast, Bool.true_and]; rw [getD_at ha]; exact hr)
    have HS := hide hr; clear hr
    have HP := hide gp; clear gp
    obtain ⟨b2, o2, rfl, hb2, hcell2⟩ := hf (by omega)
    have hrr := Below.refl w.heap.size w
    have e0 : w.cell? ⟨b2, o2 + a * 6, none⟩ = some (.string fl[a].name) := by
      rw [hrr.cell (p := ⟨b2, _, none⟩) hb2]; have := hcell2 a fl[a] (List.getElem?_eq_getElem ha) 0 _ rfl; simpa using this
    have e1 : w.cell? ⟨b2, o2 + a * 6 + 1, none⟩ = some (.int .i64 fl[a].length) := by
      rw [hrr.cell (p := ⟨b2, _, none⟩) hb2]; have := hcell2 a fl[a] (List.getElem?_eq_getElem ha) 1 _ rfl; simpa using this
    have e2 : w.cell? ⟨b2, o2 + a * 6 + 2, none⟩ = some (.int .i64 fl[a].draught) := by
      rw [hrr.cell (p := ⟨b2, _, none⟩) hb2]; have := hcell2 a fl[a] (List.getElem?_eq_getElem ha) 2 _ rfl; simpa using this
    have e3 : w.cell? ⟨b2, o2 + a * 6 + 3, none⟩ = some (.int .i64 fl[a].line) := by
      rw [hrr.cell (p := ⟨b2, _, none⟩) hb2]; have := hcell2 a fl[a] (List.getElem?_eq_getElem ha) 3 _ rfl; simpa using this
    have e4 : w.cell? ⟨b2, o2 + a * 6 + 4, none⟩ = some (.int .i64 fl[a].tugs) := by
      rw [hrr.cell (p := ⟨b2, _, none⟩) hb2]; have := hcell2 a fl[a] (List.getElem?_eq_getElem ha) 4 _ rfl; simpa using this
    have e5 : w.cell? ⟨b2, o2 + a * 6 + 5, none⟩ = some (.bool fl[a].slow) := by
      rw [hrr.cell (p := ⟨b2, _, none⟩) hb2]; have := hcell2 a fl[a] (List.getElem?_eq_getElem ha) 5 _ rfl; simpa using this
    have ha' : (a : Int) < fl.length := by omega
    clear hcell2 hf hrr
    go_enter Tryz.func23, Tryz.ntmps23
    go_wp2_with fail
    generalize hW0 : (((w.alloc (.cells #[.int .i64 m0, .slice A1 ps.length c1, .slice A2 ss.length c2] 44)).alloc (.cells #[.slice A3 c.points.length c3, .slice A4 c.segs.length c4] 49)).alloc (.cells #[.int .i64 a, .int .i64 p1, .bool p2, .int .i64 p3, .int .i64 p4] 67)) = W0
    have hB0 : Below w.heap.size w W0 := by rw [← hW0]; exact (by repeat (first | exact Below.refl _ _ | assumption | refine Below.setCell ?_ (by first | omega | (simp <;> omega)) _ | refine Below.alloc ?_ (by first | omega | (simp <;> omega)) _ | refine below_drewN ?_ _ | refine Below.drew ?_ | refine Below.trans ?_ (Below.mono (by assumption) (by first | omega | (simp <;> omega)))))
    have hx0 : W0.cell? ⟨w.heap.size, 0, none⟩ = some (.int .i64 m0) := by rw [← hW0]; simp [go_sem]
    have hx1 : W0.cell? ⟨w.heap.size, 1, none⟩ = some (.slice A1 ps.length c1) := by rw [← hW0]; simp [go_sem]
    have hx2 : W0.cell? ⟨w.heap.size, 2, none⟩ = some (.slice A2 ss.length c2) := by rw [← hW0]; simp [go_sem]
    have hx3 : W0.cell? ⟨w.heap.size + 1, 0, none⟩ = some (.slice A3 c.points.length c3) := by rw [← hW0]; simp [go_sem]
    have hx4 : W0.cell? ⟨w.heap.size + 1, 1, none⟩ = some (.slice A4 c.segs.length c4) := by rw [← hW0]; simp [go_sem]
    have hx5 : W0.cell? ⟨w.heap.size + 1 + 1, 0, none⟩ = some (.int .i64 a) := by rw [← hW0]; simp [go_sem]
    have hx6 : W0.cell? ⟨w.heap.size + 1 + 1, 1, none⟩ = some (.int .i64 p1) := by rw [← hW0]; simp [go_sem]
    have hx7 : W0.cell? ⟨w.heap.size + 1 + 1, 2, none⟩ = some (.bool p2) := by rw [← hW0]; simp [go_sem]
    have hx8 : W0.cell? ⟨w.heap.size + 1 + 1, 3, none⟩ = some (.int .i64 p3) := by rw [← hW0]; simp [go_sem]
    have hx9 : W0.cell? ⟨w.heap.size + 1 + 1, 4, none⟩ = some (.int .i64 p4) := by rw [← hW0]; simp [go_sem]
    have hs0 : W0.heap.size = w.heap.size + 3 := by rw [← hW0]; simp
    have hl0 : w.heap.size < W0.heap.size := by omega
    have hl1 : w.heap.size + 1 < W0.heap.size := by omega
    have hl2' : w.heap.size + 1 + 1 < W0.heap.size := by omega
    clear hW0 hs0
    have HFW := hide ((HFR.out.keep hB0 (Nat.le_refl _)).mono hB0.size)
    have HCW := hide ((HCR.out.keep hB0 (Nat.le_refl _)).mono hB0.size)
    have HLW := hide ((RdB.keep HF.out hB0 (Nat.le_refl _)).mono hB0.size)
    have hb2' : b2 < W0.heap.size := by omega
    have i0 := cellKeep hB0 e0 hb2; have i1 := cellKeep hB0 e1 hb2; have i2 := cellKeep hB0 e2 hb2; have i3 := cellKeep hB0 e3 hb2; have i4 := cellKeep hB0 e4 hb2; have i5 := cellKeep hB0 e5 hb2
    clear e0 e1 e2 e3 e4 e5
    refine wp_region_below (Below.refl W0.heap.size _) (by kernel_rfl) (by kernel_rfl) ?_
    repeat (first
      | go_big_quiet_skip
      | (go_big_quiet_want
         first
          | (refine quiet_value ?_; apply Exists.intro
             refine ⟨fun wq hq => ?_, ?_⟩
             · (obtain ⟨hc, hf⟩ := bcell hq; go_simp; first | done | rfl)
             go_big_quiet_on
             simp only [Act.put, List.setIfInBounds_toArray, List.set_cons_zero, List.set_cons_succ])
          | (refine quiet_call ?_; apply Exists.intro; apply Exists.intro; apply Exists.intro
             refine ⟨fun wq hq => ?_, fun wq hq => ?_, ?_⟩
             · (obtain ⟨hc, hf⟩ := bcell hq; go_simp; exact ⟨rfl, rfl⟩)
             · (first | with_reducible exact (calls_bool (spec_PassageOk_any _ _ _ c fl ⟨a, p1, p2, p3, p4⟩ _ ((HCW.out.keep hq (Nat.le_refl _)).mono hq.size) ((RdB.keep HLW.out hq (Nat.le_refl _)).mono hq.size) hokp hokf) HP.out).mono fun e w'' ⟨he, hw⟩ => ⟨he, hw ▸ hq⟩ | with_reducible exact (calls_bool (spec_PassageOk_any _ _ _ c fl ⟨a, p1, p2, p3, p4⟩ _ ((HCW.out.keep hq (Nat.le_refl _)).mono hq.size) ((RdB.keep HLW.out hq (Nat.le_refl _)).mono hq.size) hokp hokf) HP.out).mono fun e w'' ⟨he, hb'⟩ => ⟨he, bnext hq hb'⟩ | with_reducible exact (calls_bool (spec_IsSure_any _ _ _ _ ⟨m0, ps, ss⟩ c p1 fl[a] p3 _ ((HFW.out.keep hq (Nat.le_refl _)).mono hq.size) ((HCW.out.keep hq (Nat.le_refl _)).mono hq.size) hokp hs) HS.out).mono fun e w'' ⟨he, hw⟩ => ⟨he, hw ▸ hq⟩ | with_reducible exact (calls_bool (spec_IsSure_any _ _ _ _ ⟨m0, ps, ss⟩ c p1 fl[a] p3 _ ((HFW.out.keep hq (Nat.le_refl _)).mono hq.size) ((HCW.out.keep hq (Nat.le_refl _)).mono hq.size) hokp hs) HS.out).mono fun e w'' ⟨he, hb'⟩ => ⟨he, bnext hq hb'⟩ |  exact (calls_bool (spec_PassageOk_any _ _ _ c fl ⟨a, p1, p2, p3, p4⟩ _ ((HCW.out.keep hq (Nat.le_refl _)).mono hq.size) ((RdB.keep HLW.out hq (Nat.le_refl _)).mono hq.size) hokp hokf) HP.out).mono fun e w'' ⟨he, hb'⟩ => ⟨he, bnext hq hb'⟩ |  exact (calls_bool (spec_PassageOk_any _ _ _ c fl ⟨a, p1, p2, p3, p4⟩ _ ((HCW.out.keep hq (Nat.le_refl _)).mono hq.size) ((RdB.keep HLW.out hq (Nat.le_refl _)).mono hq.size) hokp hokf) HP.out).mono fun e w'' ⟨he, hw⟩ => ⟨he, hw ▸ hq⟩ |  exact (calls_bool (spec_IsSure_any _ _ _ _ ⟨m0, ps, ss⟩ c p1 fl[a] p3 _ ((HFW.out.keep hq (Nat.le_refl _)).mono hq.size) ((HCW.out.keep hq (Nat.le_refl _)).mono hq.size) hokp hs) HS.out).mono fun e w'' ⟨he, hb'⟩ => ⟨he, bnext hq hb'⟩ |  exact (calls_bool (spec_IsSure_any _ _ _ _ ⟨m0, ps, ss⟩ c p1 fl[a] p3 _ ((HFW.out.keep hq (Nat.le_refl _)).mono hq.size) ((HCW.out.keep hq (Nat.le_refl _)).mono hq.size) hokp hs) HS.out).mono fun e w'' ⟨he, hw⟩ => ⟨he, hw ▸ hq⟩)
             go_big_quiet_on
             simp only [Act.put, List.setIfInBounds_toArray, List.set_cons_zero, List.set_cons_succ])
          | (go_big_quiet_op; go_big_quiet_on)
         ))
    refine wpQuiet_nil (fun w5 hb5 => ?_)
    go_wp2
    go_ret
    exact ⟨by rw [HV.out]; first | done | rfl, bnext hB0 hb5 (Nat.le_refl _)⟩
  · have HV := hide (show safePass ⟨m0, ps, ss⟩ c fl ⟨p0, p1, p2, p3, p4⟩ = false by unfold safePass; rw [gp]; rfl)
    have HP := hide gp; clear gp hf
    go_enter Tryz.func23, Tryz.ntmps23
    go_wp2_with fail
    generalize hW0 : (((w.alloc (.cells #[.int .i64 m0, .slice A1 ps.length c1, .slice A2 ss.length c2] 44)).alloc (.cells #[.slice A3 c.points.length c3, .slice A4 c.segs.length c4] 49)).alloc (.cells #[.int .i64 p0, .int .i64 p1, .bool p2, .int .i64 p3, .int .i64 p4] 67)) = W0
    have hB0 : Below w.heap.size w W0 := by rw [← hW0]; exact (by repeat (first | exact Below.refl _ _ | assumption | refine Below.setCell ?_ (by first | omega | (simp <;> omega)) _ | refine Below.alloc ?_ (by first | omega | (simp <;> omega)) _ | refine below_drewN ?_ _ | refine Below.drew ?_ | refine Below.trans ?_ (Below.mono (by assumption) (by first | omega | (simp <;> omega)))))
    have hx0 : W0.cell? ⟨w.heap.size, 0, none⟩ = some (.int .i64 m0) := by rw [← hW0]; simp [go_sem]
    have hx1 : W0.cell? ⟨w.heap.size, 1, none⟩ = some (.slice A1 ps.length c1) := by rw [← hW0]; simp [go_sem]
    have hx2 : W0.cell? ⟨w.heap.size, 2, none⟩ = some (.slice A2 ss.length c2) := by rw [← hW0]; simp [go_sem]
    have hx3 : W0.cell? ⟨w.heap.size + 1, 0, none⟩ = some (.slice A3 c.points.length c3) := by rw [← hW0]; simp [go_sem]
    have hx4 : W0.cell? ⟨w.heap.size + 1, 1, none⟩ = some (.slice A4 c.segs.length c4) := by rw [← hW0]; simp [go_sem]
    have hx5 : W0.cell? ⟨w.heap.size + 1 + 1, 0, none⟩ = some (.int .i64 p0) := by rw [← hW0]; simp [go_sem]
    have hx6 : W0.cell? ⟨w.heap.size + 1 + 1, 1, none⟩ = some (.int .i64 p1) := by rw [← hW0]; simp [go_sem]
    have hx7 : W0.cell? ⟨w.heap.size + 1 + 1, 2, none⟩ = some (.bool p2) := by rw [← hW0]; simp [go_sem]
    have hx8 : W0.cell? ⟨w.heap.size + 1 + 1, 3, none⟩ = some (.int .i64 p3) := by rw [← hW0]; simp [go_sem]
    have hx9 : W0.cell? ⟨w.heap.size + 1 + 1, 4, none⟩ = some (.int .i64 p4) := by rw [← hW0]; simp [go_sem]
    have hs0 : W0.heap.size = w.heap.size + 3 := by rw [← hW0]; simp
    have hl0 : w.heap.size < W0.heap.size := by omega
    have hl1 : w.heap.size + 1 < W0.heap.size := by omega
    have hl2' : w.heap.size + 1 + 1 < W0.heap.size := by omega
    clear hW0 hs0
    have HFW := hide ((HFR.out.keep hB0 (Nat.le_refl _)).mono hB0.size)
    have HCW := hide ((HCR.out.keep hB0 (Nat.le_refl _)).mono hB0.size)
    have HLW := hide ((RdB.keep HF.out hB0 (Nat.le_refl _)).mono hB0.size)
    refine wp_region_below (Below.refl W0.heap.size _) (by kernel_rfl) (by kernel_rfl) ?_
    repeat (first
      | go_big_quiet_skip
      | (go_big_quiet_want
         first
          | (refine quiet_value ?_; apply Exists.intro
             refine ⟨fun wq hq => ?_, ?_⟩
             · (obtain ⟨hc, hf⟩ := bcell hq; go_simp; first | done | rfl)
             go_big_quiet_on
             simp only [Act.put, List.setIfInBounds_toArray, List.set_cons_zero, List.set_cons_succ])
          | (refine quiet_call ?_; apply Exists.intro; apply Exists.intro; apply Exists.intro
             refine ⟨fun wq hq => ?_, fun wq hq => ?_, ?_⟩
             · (obtain ⟨hc, hf⟩ := bcell hq; go_simp; exact ⟨rfl, rfl⟩)
             · (first | with_reducible exact (calls_bool (spec_PassageOk_any _ _ _ c fl ⟨p0, p1, p2, p3, p4⟩ _ ((HCW.out.keep hq (Nat.le_refl _)).mono hq.size) ((RdB.keep HLW.out hq (Nat.le_refl _)).mono hq.size) hokp hokf) HP.out).mono fun e w'' ⟨he, hw⟩ => ⟨he, hw ▸ hq⟩ | with_reducible exact (calls_bool (spec_PassageOk_any _ _ _ c fl ⟨p0, p1, p2, p3, p4⟩ _ ((HCW.out.keep hq (Nat.le_refl _)).mono hq.size) ((RdB.keep HLW.out hq (Nat.le_refl _)).mono hq.size) hokp hokf) HP.out).mono fun e w'' ⟨he, hb'⟩ => ⟨he, bnext hq hb'⟩ |  exact (calls_bool (spec_PassageOk_any _ _ _ c fl ⟨p0, p1, p2, p3, p4⟩ _ ((HCW.out.keep hq (Nat.le_refl _)).mono hq.size) ((RdB.keep HLW.out hq (Nat.le_refl _)).mono hq.size) hokp hokf) HP.out).mono fun e w'' ⟨he, hb'⟩ => ⟨he, bnext hq hb'⟩ |  exact (calls_bool (spec_PassageOk_any _ _ _ c fl ⟨p0, p1, p2, p3, p4⟩ _ ((HCW.out.keep hq (Nat.le_refl _)).mono hq.size) ((RdB.keep HLW.out hq (Nat.le_refl _)).mono hq.size) hokp hokf) HP.out).mono fun e w'' ⟨he, hw⟩ => ⟨he, hw ▸ hq⟩)
             go_big_quiet_on
             simp only [Act.put, List.setIfInBounds_toArray, List.set_cons_zero, List.set_cons_succ])
          | (go_big_quiet_op; go_big_quiet_on)
         ))
    refine wpQuiet_nil (fun w5 hb5 => ?_)
    go_wp2
    go_ret
    exact ⟨by rw [HV.out]; first | done | rfl, bnext hB0 hb5 (Nat.le_refl _)⟩
set_option maxRecDepth 100000 in
set_option maxHeartbeats 16000000 in
theorem impl_IsSafePassage_any (v1 v2 v3 v4 v5 : Value) (f : ForeD) (c : ChartD) (fl : List ShipD) (p : PassageD) (w : World) (h : RdFore w w.heap.size v1 v2 f) (hch : RdChart w w.heap.size v3 v4 c) (hf : RdShip w v5 fl) (hokp : ∀ x ∈ c.points, x.name.size ≤ maxLen) (hokf : ∀ x ∈ fl, x.ok) :
    Calls Tryz.prog 26 #[.agg #[.int .i64 f.m0, v1, v2], .agg #[v3, v4], v5, p.val] w fun e w' => e = .returned (.bool (safePass f c fl p)) ∧ Below w.heap.size w w' := by
  have HFR := hide h; have HCR := hide hch; have HF := hide hf
  obtain ⟨m0, ps, ss⟩ := f
  obtain ⟨p0, p1, p2, p3, p4⟩ := p
  obtain ⟨h1, h2⟩ := h
  obtain ⟨h3, h4⟩ := hch
  simp only at h1 h2 HFR ⊢
  obtain ⟨A1, c1, rfl, hc1, hm1, h1⟩ := h1
  obtain ⟨A2, c2, rfl, hc2, hm2, h2⟩ := h2
  obtain ⟨A3, c3, rfl, hc3, hm3, h3⟩ := h3
  obtain ⟨A4, c4, rfl, hc4, hm4, h4⟩ := h4
  obtain ⟨A5, c5, rfl, hc5, hm5, hf⟩ := hf
  unfold maxLen at hm1 hm2 hm3 hm4 hm5
  clear h1 h2 h3 h4
  have hl5 : (fl.length : Int) ≤ 9223372036854775807 := by omega
  rcases ch1 (passOk c fl ⟨p0, p1, p2, p3, p4⟩) with gp | gp
  · obtain ⟨a, ha0, ha⟩ := idx_nat (passOk_ship gp)
    simp only at ha0
    subst ha0
    have hs := ShipD.ok_size (hokf fl[a] (List.getElem_mem ha))
    obtain ⟨r, hr⟩ : ∃ r, hasMin (startsOf false ⟨m0, ps, ss⟩ c p1 fl[a]) p3 = r := ⟨_, rfl⟩
    have HV := hide (show safePass ⟨m0, ps, ss⟩ c fl ⟨a, p1, p2, p3, p4⟩ = r by unfold safePass; rw [gp]; simp only [Int.toNat_natCast, Bool.true_and]; rw [getD_at ha]; exact hr)
    have HS := hide hr; clear hr
    have HP := hide gp; clear gp
    obtain ⟨b2, o2, rfl, hb2, hcell2⟩ := hf (by omega)
    have hrr := Below.refl w.heap.size w
    have e0 : w.cell? ⟨b2, o2 + a * 6, none⟩ = some (.string fl[a].name) := by
      rw [hrr.cell (p := ⟨b2, _, none⟩) hb2]; have := hcell2 a fl[a] (List.getElem?_eq_getElem ha) 0 _ rfl; simpa using this
    have e1 : w.cell? ⟨b2, o2 + a * 6 + 1, none⟩ = some (.int .i64 fl[a].length) := by
      rw [hrr.cell (p := ⟨b2, _, none⟩) hb2]; have := hcell2 a fl[a] (List.getElem?_eq_getElem ha) 1 _ rfl; simpa using this
    have e2 : w.cell? ⟨b2, o2 + a * 6 + 2, none⟩ = some (.int .i64 fl[a].draught) := by
      rw [hrr.cell (p := ⟨b2, _, none⟩) hb2]; have := hcell2 a fl[a] (List.getElem?_eq_getElem ha) 2 _ rfl; simpa using this
    have e3 : w.cell? ⟨b2, o2 + a * 6 + 3, none⟩ = some (.int .i64 fl[a].line) := by
      rw [hrr.cell (p := ⟨b2, _, none⟩) hb2]; have := hcell2 a fl[a] (List.getElem?_eq_getElem ha) 3 _ rfl; simpa using this
    have e4 : w.cell? ⟨b2, o2 + a * 6 + 4, none⟩ = some (.int .i64 fl[a].tugs) := by
      rw [hrr.cell (p := ⟨b2, _, none⟩) hb2]; have := hcell2 a fl[a] (List.getElem?_eq_getElem ha) 4 _ rfl; simpa using this
    have e5 : w.cell? ⟨b2, o2 + a * 6 + 5, none⟩ = some (.bool fl[a].slow) := by
      rw [hrr.cell (p := ⟨b2, _, none⟩) hb2]; have := hcell2 a fl[a] (List.getElem?_eq_getElem ha) 5 _ rfl; simpa using this
    have ha' : (a : Int) < fl.length := by omega
    clear hcell2 hf hrr
    go_enter Tryz.func26, Tryz.ntmps26
    go_wp2_with fail
    generalize hW0 : (((w.alloc (.cells #[.int .i64 m0, .slice A1 ps.length c1, .slice A2 ss.length c2] 44)).alloc (.cells #[.slice A3 c.points.length c3, .slice A4 c.segs.length c4] 49)).alloc (.cells #[.int .i64 a, .int .i64 p1, .bool p2, .int .i64 p3, .int .i64 p4] 67)) = W0
    have hB0 : Below w.heap.size w W0 := by rw [← hW0]; exact (by repeat (first | exact Below.refl _ _ | assumption | refine Below.setCell ?_ (by first | omega | (simp <;> omega)) _ | refine Below.alloc ?_ (by first | omega | (simp <;> omega)) _ | refine below_drewN ?_ _ | refine Below.drew ?_ | refine Below.trans ?_ (Below.mono (by assumption) (by first | omega | (simp <;> omega)))))
    have hx0 : W0.cell? ⟨w.heap.size, 0, none⟩ = some (.int .i64 m0) := by rw [← hW0]; simp [go_sem]
    have hx1 : W0.cell? ⟨w.heap.size, 1, none⟩ = some (.slice A1 ps.length c1) := by rw [← hW0]; simp [go_sem]
    have hx2 : W0.cell? ⟨w.heap.size, 2, none⟩ = some (.slice A2 ss.length c2) := by rw [← hW0]; simp [go_sem]
    have hx3 : W0.cell? ⟨w.heap.size + 1, 0, none⟩ = some (.slice A3 c.points.length c3) := by rw [← hW0]; simp [go_sem]
    have hx4 : W0.cell? ⟨w.heap.size + 1, 1, none⟩ = some (.slice A4 c.segs.length c4) := by rw [← hW0]; simp [go_sem]
    have hx5 : W0.cell? ⟨w.heap.size + 1 + 1, 0, none⟩ = some (.int .i64 a) := by rw [← hW0]; simp [go_sem]
    have hx6 : W0.cell? ⟨w.heap.size + 1 + 1, 1, none⟩ = some (.int .i64 p1) := by rw [← hW0]; simp [go_sem]
    have hx7 : W0.cell? ⟨w.heap.size + 1 + 1, 2, none⟩ = some (.bool p2) := by rw [← hW0]; simp [go_sem]
    have hx8 : W0.cell? ⟨w.heap.size + 1 + 1, 3, none⟩ = some (.int .i64 p3) := by rw [← hW0]; simp [go_sem]
    have hx9 : W0.cell? ⟨w.heap.size + 1 + 1, 4, none⟩ = some (.int .i64 p4) := by rw [← hW0]; simp [go_sem]
    have hs0 : W0.heap.size = w.heap.size + 3 := by rw [← hW0]; simp
    have hl0 : w.heap.size < W0.heap.size := by omega
    have hl1 : w.heap.size + 1 < W0.heap.size := by omega
    have hl2' : w.heap.size + 1 + 1 < W0.heap.size := by omega
    clear hW0 hs0
    have HFW := hide ((HFR.out.keep hB0 (Nat.le_refl _)).mono hB0.size)
    have HCW := hide ((HCR.out.keep hB0 (Nat.le_refl _)).mono hB0.size)
    have HLW := hide ((RdB.keep HF.out hB0 (Nat.le_refl _)).mono hB0.size)
    have hb2' : b2 < W0.heap.size := by omega
    have i0 := cellKeep hB0 e0 hb2; have i1 := cellKeep hB0 e1 hb2; have i2 := cellKeep hB0 e2 hb2; have i3 := cellKeep hB0 e3 hb2; have i4 := cellKeep hB0 e4 hb2; have i5 := cellKeep hB0 e5 hb2
    clear e0 e1 e2 e3 e4 e5
    refine wp_region_below (Below.refl W0.heap.size _) (by kernel_rfl) (by kernel_rfl) ?_
    repeat (first
      | go_big_quiet_skip
      | (go_big_quiet_want
         first
          | (refine quiet_value ?_; apply Exists.intro
             refine ⟨fun wq hq => ?_, ?_⟩
             · (obtain ⟨hc, hf⟩ := bcell hq; go_simp; first | done | rfl)
             go_big_quiet_on
             simp only [Act.put, List.setIfInBounds_toArray, List.set_cons_zero, List.set_cons_succ])
          | (refine quiet_call ?_; apply Exists.intro; apply Exists.intro; apply Exists.intro
             refine ⟨fun wq hq => ?_, fun wq hq => ?_, ?_⟩
             · (obtain ⟨hc, hf⟩ := bcell hq; go_simp; exact ⟨rfl, rfl⟩)
             · (first | with_reducible exact (calls_bool (impl_PassageOk_any _ _ _ c fl ⟨a, p1, p2, p3, p4⟩ _ ((HCW.out.keep hq (Nat.le_refl _)).mono hq.size) ((RdB.keep HLW.out hq (Nat.le_refl _)).mono hq.size) hokp hokf) HP.out).mono fun e w'' ⟨he, hw⟩ => ⟨he, hw ▸ hq⟩ | with_reducible exact (calls_bool (impl_PassageOk_any _ _ _ c fl ⟨a, p1, p2, p3, p4⟩ _ ((HCW.out.keep hq (Nat.le_refl _)).mono hq.size) ((RdB.keep HLW.out hq (Nat.le_refl _)).mono hq.size) hokp hokf) HP.out).mono fun e w'' ⟨he, hb'⟩ => ⟨he, bnext hq hb'⟩ | with_reducible exact (calls_bool (impl_IsSure_any _ _ _ _ ⟨m0, ps, ss⟩ c p1 fl[a] p3 _ ((HFW.out.keep hq (Nat.le_refl _)).mono hq.size) ((HCW.out.keep hq (Nat.le_refl _)).mono hq.size) hokp hs) HS.out).mono fun e w'' ⟨he, hw⟩ => ⟨he, hw ▸ hq⟩ | with_reducible exact (calls_bool (impl_IsSure_any _ _ _ _ ⟨m0, ps, ss⟩ c p1 fl[a] p3 _ ((HFW.out.keep hq (Nat.le_refl _)).mono hq.size) ((HCW.out.keep hq (Nat.le_refl _)).mono hq.size) hokp hs) HS.out).mono fun e w'' ⟨he, hb'⟩ => ⟨he, bnext hq hb'⟩ |  exact (calls_bool (impl_PassageOk_any _ _ _ c fl ⟨a, p1, p2, p3, p4⟩ _ ((HCW.out.keep hq (Nat.le_refl _)).mono hq.size) ((RdB.keep HLW.out hq (Nat.le_refl _)).mono hq.size) hokp hokf) HP.out).mono fun e w'' ⟨he, hb'⟩ => ⟨he, bnext hq hb'⟩ |  exact (calls_bool (impl_PassageOk_any _ _ _ c fl ⟨a, p1, p2, p3, p4⟩ _ ((HCW.out.keep hq (Nat.le_refl _)).mono hq.size) ((RdB.keep HLW.out hq (Nat.le_refl _)).mono hq.size) hokp hokf) HP.out).mono fun e w'' ⟨he, hw⟩ => ⟨he, hw ▸ hq⟩ |  exact (calls_bool (impl_IsSure_any _ _ _ _ ⟨m0, ps, ss⟩ c p1 fl[a] p3 _ ((HFW.out.keep hq (Nat.le_refl _)).mono hq.size) ((HCW.out.keep hq (Nat.le_refl _)).mono hq.size) hokp hs) HS.out).mono fun e w'' ⟨he, hb'⟩ => ⟨he, bnext hq hb'⟩ |  exact (calls_bool (impl_IsSure_any _ _ _ _ ⟨m0, ps, ss⟩ c p1 fl[a] p3 _ ((HFW.out.keep hq (Nat.le_refl _)).mono hq.size) ((HCW.out.keep hq (Nat.le_refl _)).mono hq.size) hokp hs) HS.out).mono fun e w'' ⟨he, hw⟩ => ⟨he, hw ▸ hq⟩)
             go_big_quiet_on
             simp only [Act.put, List.setIfInBounds_toArray, List.set_cons_zero, List.set_cons_succ])
          | (go_big_quiet_op; go_big_quiet_on)
         ))
    refine wpQuiet_nil (fun w5 hb5 => ?_)
    go_wp2
    go_ret
    exact ⟨by rw [HV.out]; first | done | rfl, bnext hB0 hb5 (Nat.le_refl _)⟩
  · have HV := hide (show safePass ⟨m0, ps, ss⟩ c fl ⟨p0, p1, p2, p3, p4⟩ = false by unfold safePass; rw [gp]; rfl)
    have HP := hide gp; clear gp hf
    go_enter Tryz.func26, Tryz.ntmps26
    go_wp2_with fail
    generalize hW0 : (((w.alloc (.cells #[.int .i64 m0, .slice A1 ps.length c1, .slice A2 ss.length c2] 44)).alloc (.cells #[.slice A3 c.points.length c3, .slice A4 c.segs.length c4] 49)).alloc (.cells #[.int .i64 p0, .int .i64 p1, .bool p2, .int .i64 p3, .int .i64 p4] 67)) = W0
    have hB0 : Below w.heap.size w W0 := by rw [← hW0]; exact (by repeat (first | exact Below.refl _ _ | assumption | refine Below.setCell ?_ (by first | omega | (simp <;> omega)) _ | refine Below.alloc ?_ (by first | omega | (simp <;> omega)) _ | refine below_drewN ?_ _ | refine Below.drew ?_ | refine Below.trans ?_ (Below.mono (by assumption) (by first | omega | (simp <;> omega)))))
    have hx0 : W0.cell? ⟨w.heap.size, 0, none⟩ = some (.int .i64 m0) := by rw [← hW0]; simp [go_sem]
    have hx1 : W0.cell? ⟨w.heap.size, 1, none⟩ = some (.slice A1 ps.length c1) := by rw [← hW0]; simp [go_sem]
    have hx2 : W0.cell? ⟨w.heap.size, 2, none⟩ = some (.slice A2 ss.length c2) := by rw [← hW0]; simp [go_sem]
    have hx3 : W0.cell? ⟨w.heap.size + 1, 0, none⟩ = some (.slice A3 c.points.length c3) := by rw [← hW0]; simp [go_sem]
    have hx4 : W0.cell? ⟨w.heap.size + 1, 1, none⟩ = some (.slice A4 c.segs.length c4) := by rw [← hW0]; simp [go_sem]
    have hx5 : W0.cell? ⟨w.heap.size + 1 + 1, 0, none⟩ = some (.int .i64 p0) := by rw [← hW0]; simp [go_sem]
    have hx6 : W0.cell? ⟨w.heap.size + 1 + 1, 1, none⟩ = some (.int .i64 p1) := by rw [← hW0]; simp [go_sem]
    have hx7 : W0.cell? ⟨w.heap.size + 1 + 1, 2, none⟩ = some (.bool p2) := by rw [← hW0]; simp [go_sem]
    have hx8 : W0.cell? ⟨w.heap.size + 1 + 1, 3, none⟩ = some (.int .i64 p3) := by rw [← hW0]; simp [go_sem]
    have hx9 : W0.cell? ⟨w.heap.size + 1 + 1, 4, none⟩ = some (.int .i64 p4) := by rw [← hW0]; simp [go_sem]
    have hs0 : W0.heap.size = w.heap.size + 3 := by rw [← hW0]; simp
    have hl0 : w.heap.size < W0.heap.size := by omega
    have hl1 : w.heap.size + 1 < W0.heap.size := by omega
    have hl2' : w.heap.size + 1 + 1 < W0.heap.size := by omega
    clear hW0 hs0
    have HFW := hide ((HFR.out.keep hB0 (Nat.le_refl _)).mono hB0.size)
    have HCW := hide ((HCR.out.keep hB0 (Nat.le_refl _)).mono hB0.size)
    have HLW := hide ((RdB.keep HF.out hB0 (Nat.le_refl _)).mono hB0.size)
    refine wp_region_below (Below.refl W0.heap.size _) (by kernel_rfl) (by kernel_rfl) ?_
    repeat (first
      | go_big_quiet_skip
      | (go_big_quiet_want
         first
          | (refine quiet_value ?_; apply Exists.intro
             refine ⟨fun wq hq => ?_, ?_⟩
             · (obtain ⟨hc, hf⟩ := bcell hq; go_simp; first | done | rfl)
             go_big_quiet_on
             simp only [Act.put, List.setIfInBounds_toArray, List.set_cons_zero, List.set_cons_succ])
          | (refine quiet_call ?_; apply Exists.intro; apply Exists.intro; apply Exists.intro
             refine ⟨fun wq hq => ?_, fun wq hq => ?_, ?_⟩
             · (obtain ⟨hc, hf⟩ := bcell hq; go_simp; exact ⟨rfl, rfl⟩)
             · (first | with_reducible exact (calls_bool (impl_PassageOk_any _ _ _ c fl ⟨p0, p1, p2, p3, p4⟩ _ ((HCW.out.keep hq (Nat.le_refl _)).mono hq.size) ((RdB.keep HLW.out hq (Nat.le_refl _)).mono hq.size) hokp hokf) HP.out).mono fun e w'' ⟨he, hw⟩ => ⟨he, hw ▸ hq⟩ | with_reducible exact (calls_bool (impl_PassageOk_any _ _ _ c fl ⟨p0, p1, p2, p3, p4⟩ _ ((HCW.out.keep hq (Nat.le_refl _)).mono hq.size) ((RdB.keep HLW.out hq (Nat.le_refl _)).mono hq.size) hokp hokf) HP.out).mono fun e w'' ⟨he, hb'⟩ => ⟨he, bnext hq hb'⟩ |  exact (calls_bool (impl_PassageOk_any _ _ _ c fl ⟨p0, p1, p2, p3, p4⟩ _ ((HCW.out.keep hq (Nat.le_refl _)).mono hq.size) ((RdB.keep HLW.out hq (Nat.le_refl _)).mono hq.size) hokp hokf) HP.out).mono fun e w'' ⟨he, hb'⟩ => ⟨he, bnext hq hb'⟩ |  exact (calls_bool (impl_PassageOk_any _ _ _ c fl ⟨p0, p1, p2, p3, p4⟩ _ ((HCW.out.keep hq (Nat.le_refl _)).mono hq.size) ((RdB.keep HLW.out hq (Nat.le_refl _)).mono hq.size) hokp hokf) HP.out).mono fun e w'' ⟨he, hw⟩ => ⟨he, hw ▸ hq⟩)
             go_big_quiet_on
             simp only [Act.put, List.setIfInBounds_toArray, List.set_cons_zero, List.set_cons_succ])
          | (go_big_quiet_op; go_big_quiet_on)
         ))
    refine wpQuiet_nil (fun w5 hb5 => ?_)
    go_wp2
    go_ret
    exact ⟨by rw [HV.out]; first | done | rfl, bnext hB0 hb5 (Nat.le_refl _)⟩
end Go.Proofs.YtpbcbdjjpkenjaaGreat
