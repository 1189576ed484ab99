/- Chains of passages. No condition. -/
import Derived.Test.YtefidlecandnlaaPass
namespace Go.Proofs.Ytefidlecandnlaa
open Go.RowKit
set_option linter.unusedVariables false

def endA (c : ChartD) (p : PassageD) : Int := if p.toward = true then (segAt c p.segment).a else (segAt c p.segment).b
def endB (c : ChartD) (p : PassageD) : Int := if p.toward = true then (segAt c p.segment).b else (segAt c p.segment).a
def linkB (c : ChartD) (p q : PassageD) : Bool := decide (endA c q = endB c p) && !decide (q.start < p.fin)
def chainRow (c : ChartD) (xs : List PassageD) (i : Nat) : Bool := decide ((xs.getD i default).ship = (xs.getD 0 default).ship) && inB (xs.getD i default).segment 0 ((c.segs.length : Int) - 1) && (decide (i = 0) || linkB c (xs.getD (i - 1) default) (xs.getD i default))
def isChain (c : ChartD) (xs : List PassageD) : Bool := chartOk c && allUpTo (chainRow c xs) xs.length
theorem calls_boolC {P : Program} {f : FuncId} {args : Array Value} {w : World} {R : World → Prop} {b c : Bool} (h : Calls P f args w fun e w' => e = .returned (.bool b) ∧ R w') (hb : b = c) : Calls P f args w fun e w' => e = .returned (.bool c) ∧ R w' := hb ▸ h
set_option maxRecDepth 100000 in
set_option maxHeartbeats 4000000 in
theorem l08Ends_any (v1 v2 : Value) (c : ChartD) (p : PassageD) (w : World) (h : RdChart w w.heap.size v1 v2 c) (hp : inB p.segment 0 ((c.segs.length : Int) - 1) = true) :
    Calls Try.prog 87 #[.agg #[v1, v2], p.val] w fun e w' => e = .returned (.tuple #[.int .i64 (endA c p), .int .i64 (endB c p)]) ∧ Below w.heap.size w w' := by
  obtain ⟨h1, h2⟩ := h
  obtain ⟨A1, c1, rfl, hc1, hm1, h1⟩ := h1
  obtain ⟨A2, c2, rfl, hc2, hm2, h2⟩ := h2
  unfold maxLen at hm1 hm2
  clear h1
  obtain ⟨p0, p1, p2, p3, p4⟩ := p
  obtain ⟨a, ha0, ha⟩ := idx_nat hp
  simp only at ha0
  subst ha0
  have HA := hide (segAt_nat ha)
  obtain ⟨b2, o2, rfl, hb2, hcell2⟩ := h2 (by omega)
  have hrr := Below.refl w.heap.size w
  have e0 : w.cell? ⟨b2, o2 + a * 5, none⟩ = some (.int .i64 c.segs[a].a) := by
    rw [hrr.cell (p := ⟨b2, _, none⟩) hb2]; have := hcell2 a c.segs[a] (List.getElem?_eq_getElem ha) 0 _ rfl; simpa using this
  have e1 : w.cell? ⟨b2, o2 + a * 5 + 1, none⟩ = some (.int .i64 c.segs[a].b) := by
    rw [hrr.cell (p := ⟨b2, _, none⟩) hb2]; have := hcell2 a c.segs[a] (List.getElem?_eq_getElem ha) 1 _ rfl; simpa using this
  have e2 : w.cell? ⟨b2, o2 + a * 5 + 2, none⟩ = some (.int .i64 c.segs[a].depth) := by
    rw [hrr.cell (p := ⟨b2, _, none⟩) hb2]; have := hcell2 a c.segs[a] (List.getElem?_eq_getElem ha) 2 _ rfl; simpa using this
  have e3 : w.cell? ⟨b2, o2 + a * 5 + 3, none⟩ = some (.int .i64 c.segs[a].minutes) := by
    rw [hrr.cell (p := ⟨b2, _, none⟩) hb2]; have := hcell2 a c.segs[a] (List.getElem?_eq_getElem ha) 3 _ rfl; simpa using this
  have e4 : w.cell? ⟨b2, o2 + a * 5 + 4, none⟩ = some (.bool c.segs[a].meet) := by
    rw [hrr.cell (p := ⟨b2, _, none⟩) hb2]; have := hcell2 a c.segs[a] (List.getElem?_eq_getElem ha) 4 _ rfl; simpa using this
  have hz2 : b2 < w.heap.size + 1 + 1 := by omega
  have ha' : (a : Int) < c.segs.length := by omega
  clear hcell2 h2 hrr
  cases p2
  all_goals
    go_enter Try.func87, Try.ntmps87
    go_wp2
    refine wp_region_below (Below.refl (w.heap.size + 1 + 1 + 1) _) (by kernel_rfl) (by kernel_rfl) ?_
    repeat (first
      | go_big_quiet_skip
      | (go_big_quiet_want
         first
          | (refine quiet_value ?_; apply Exists.intro
             refine ⟨fun wq hq => ?_, ?_⟩
             · (obtain ⟨hc, hf⟩ := bcell hq; go_simp; first | done | rfl)
             go_big_quiet_on
             simp only [Act.put, List.setIfInBounds_toArray, List.set_cons_zero, List.set_cons_succ])
          | (go_big_quiet_op; go_big_quiet_on)
         ))
    refine wpQuiet_nil (fun w1 hb' => ?_)
    obtain ⟨hc, hf⟩ := bcell hb'
    have hz := hb'.size; (try simp at hz)
    go_wp2
    go_ret2
    exact ⟨by simp [endA, endB, HA.out], (by repeat (first | exact Below.refl _ _ | assumption | refine Below.setCell ?_ (by first | omega | (simp <;> omega)) _ | refine Below.alloc ?_ (by first | omega | (simp <;> omega)) _ | refine below_drewN ?_ _ | refine Below.drew ?_ | refine Below.trans ?_ (Below.mono (by assumption) (by first | omega | (simp <;> omega)))))⟩
set_option maxRecDepth 100000 in
set_option maxHeartbeats 4000000 in
theorem ends_any (v1 v2 : Value) (c : ChartD) (p : PassageD) (w : World) (h : RdChart w w.heap.size v1 v2 c) (hp : inB p.segment 0 ((c.segs.length : Int) - 1) = true) :
    Calls Try.prog 88 #[p.val, .agg #[v1, v2]] w fun e w' => e = .returned (.tuple #[.int .i64 (endA c p), .int .i64 (endB c p)]) ∧ Below w.heap.size w w' := by
  obtain ⟨h1, h2⟩ := h
  obtain ⟨A1, c1, rfl, hc1, hm1, h1⟩ := h1
  obtain ⟨A2, c2, rfl, hc2, hm2, h2⟩ := h2
  unfold maxLen at hm1 hm2
  clear h1
  obtain ⟨p0, p1, p2, p3, p4⟩ := p
  obtain ⟨a, ha0, ha⟩ := idx_nat hp
  simp only at ha0
  subst ha0
  have HA := hide (segAt_nat ha)
  obtain ⟨b2, o2, rfl, hb2, hcell2⟩ := h2 (by omega)
  have hrr := Below.refl w.heap.size w
  have e0 : w.cell? ⟨b2, o2 + a * 5, none⟩ = some (.int .i64 c.segs[a].a) := by
    rw [hrr.cell (p := ⟨b2, _, none⟩) hb2]; have := hcell2 a c.segs[a] (List.getElem?_eq_getElem ha) 0 _ rfl; simpa using this
  have e1 : w.cell? ⟨b2, o2 + a * 5 + 1, none⟩ = some (.int .i64 c.segs[a].b) := by
    rw [hrr.cell (p := ⟨b2, _, none⟩) hb2]; have := hcell2 a c.segs[a] (List.getElem?_eq_getElem ha) 1 _ rfl; simpa using this
  have e2 : w.cell? ⟨b2, o2 + a * 5 + 2, none⟩ = some (.int .i64 c.segs[a].depth) := by
    rw [hrr.cell (p := ⟨b2, _, none⟩) hb2]; have := hcell2 a c.segs[a] (List.getElem?_eq_getElem ha) 2 _ rfl; simpa using this
  have e3 : w.cell? ⟨b2, o2 + a * 5 + 3, none⟩ = some (.int .i64 c.segs[a].minutes) := by
    rw [hrr.cell (p := ⟨b2, _, none⟩) hb2]; have := hcell2 a c.segs[a] (List.getElem?_eq_getElem ha) 3 _ rfl; simpa using this
  have e4 : w.cell? ⟨b2, o2 + a * 5 + 4, none⟩ = some (.bool c.segs[a].meet) := by
    rw [hrr.cell (p := ⟨b2, _, none⟩) hb2]; have := hcell2 a c.segs[a] (List.getElem?_eq_getElem ha) 4 _ rfl; simpa using this
  have hz2 : b2 < w.heap.size + 1 + 1 := by omega
  have ha' : (a : Int) < c.segs.length := by omega
  clear hcell2 h2 hrr
  cases p2
  all_goals
    go_enter Try.func88, Try.ntmps88
    go_wp2
    refine wp_region_below (Below.refl (w.heap.size + 1 + 1 + 1) _) (by kernel_rfl) (by kernel_rfl) ?_
    repeat (first
      | go_big_quiet_skip
      | (go_big_quiet_want
         first
          | (refine quiet_value ?_; apply Exists.intro
             refine ⟨fun wq hq => ?_, ?_⟩
             · (obtain ⟨hc, hf⟩ := bcell hq; go_simp; first | done | rfl)
             go_big_quiet_on
             simp only [Act.put, List.setIfInBounds_toArray, List.set_cons_zero, List.set_cons_succ])
          | (go_big_quiet_op; go_big_quiet_on)
         ))
    refine wpQuiet_nil (fun w1 hb' => ?_)
    obtain ⟨hc, hf⟩ := bcell hb'
    have hz := hb'.size; (try simp at hz)
    go_wp2
    go_ret2
    exact ⟨by simp [endA, endB, HA.out], (by repeat (first | exact Below.refl _ _ | assumption | refine Below.setCell ?_ (by first | omega | (simp <;> omega)) _ | refine Below.alloc ?_ (by first | omega | (simp <;> omega)) _ | refine below_drewN ?_ _ | refine Below.drew ?_ | refine Below.trans ?_ (Below.mono (by assumption) (by first | omega | (simp <;> omega)))))⟩
set_option maxRecDepth 100000 in
set_option maxHeartbeats 16000000 in
theorem spec_IsChain_any (v1 v2 v3 : Value) (c : ChartD) (xs : List PassageD) (w : World) (h : RdChart w w.heap.size v1 v2 c) (h3 : RdPassage w v3 xs) (hok : ∀ x ∈ c.points, x.name.size ≤ maxLen) :
    Calls Try.prog 35 #[.agg #[v1, v2], v3] w fun e w' => e = .returned (.bool (isChain c xs)) ∧ Below w.heap.size w w' := by
  have HR := hide h
  obtain ⟨h1, h2⟩ := h
  obtain ⟨A1, c1, rfl, hc1, hm1, h1⟩ := h1
  obtain ⟨A2, c2, rfl, hc2, hm2, h2⟩ := h2
  obtain ⟨A3, c3, rfl, hc3, hm3, h3⟩ := h3
  unfold maxLen at hm1 hm2 hm3
  clear h1 h2
  have hl2 : (c.segs.length : Int) ≤ 9223372036854775807 := by omega
  rcases ch1 (chartOk c) with g1 | g1
  · have G1 := hide g1
    go_enter Try.func35, Try.ntmps35
    go_wp2_with (go_at_call 64; refine (spec_ChartOk_any _ _ c _ ((HR.out.keep (B' := w.heap.size) (by repeat (first | exact Below.refl _ _ | assumption | refine Below.setCell ?_ (by first | omega | (simp <;> omega)) _ | refine Below.alloc ?_ (by first | omega | (simp <;> omega)) _ | refine below_drewN ?_ _ | refine Below.drew ?_ | refine Below.trans ?_ (Below.mono (by assumption) (by first | omega | (simp <;> omega))))) (Nat.le_refl _)).mono (by first | omega | (simp <;> omega))) hok).mono ?_; rintro e w1 ⟨rfl, hb'⟩; (first | have hb := bnext hb hb' | have hb := bnextA hb hb' | have hb := hb'); clear hb'; obtain ⟨hc, hf⟩ := bcell hb; have hz := hb.size; (try simp at hz))
    clear g1
    go_loopw [16] (fun i wr => ∃ k : Nat, k ≤ xs.length ∧ i = .int .i64 k ∧ Hid (allUpTo (chainRow c xs) k = true) ∧ wr.cell? ⟨w.heap.size, 0, none⟩ = some (.slice A1 c.points.length c1) ∧ wr.cell? ⟨w.heap.size, 1, none⟩ = some (.slice A2 c.segs.length c2) ∧ w.heap.size < wr.heap.size ∧ Below w.heap.size w wr) (fun i _ => xs.length - (intOf i).toNat)
    case atStart => exact ⟨0, Nat.zero_le _, rfl, hide rfl, by first | simp [go_sem] | simp [hc, go_sem], by first | simp [go_sem] | simp [hc, go_sem], by first | omega | simp, (by repeat (first | exact Below.refl _ _ | assumption | refine Below.setCell ?_ (by first | omega | (simp <;> omega)) _ | refine Below.alloc ?_ (by first | omega | (simp <;> omega)) _ | refine below_drewN ?_ _ | refine Below.drew ?_ | refine Below.trans ?_ (Below.mono (by assumption) (by first | omega | (simp <;> omega)))))⟩
    case round =>
      (try clear hc hf hz hb)
      obtain ⟨k, hk, rfl, HN, y0, y1, hl0, hb0⟩ := hrel
      obtain ⟨wo, rfl⟩ : ∃ wo : World, wo = wr := ⟨_, rfl⟩
      have hbs := hb0.size
      by_cases hlt : k < xs.length
      · obtain ⟨b3, o3, rfl, hb3, hcell3⟩ := h3 (by omega)
        have e0 : wo.cell? ⟨b3, o3 + k * 5, none⟩ = some (.int .i64 xs[k].ship) := by
          rw [hb0.cell (p := ⟨b3, _, none⟩) hb3]; have := hcell3 k xs[k] (List.getElem?_eq_getElem hlt) 0 _ rfl; simpa using this
        have e1 : wo.cell? ⟨b3, o3 + k * 5 + 1, none⟩ = some (.int .i64 xs[k].segment) := by
          rw [hb0.cell (p := ⟨b3, _, none⟩) hb3]; have := hcell3 k xs[k] (List.getElem?_eq_getElem hlt) 1 _ rfl; simpa using this
        have e2 : wo.cell? ⟨b3, o3 + k * 5 + 2, none⟩ = some (.bool xs[k].toward) := by
          rw [hb0.cell (p := ⟨b3, _, none⟩) hb3]; have := hcell3 k xs[k] (List.getElem?_eq_getElem hlt) 2 _ rfl; simpa using this
        have e3 : wo.cell? ⟨b3, o3 + k * 5 + 3, none⟩ = some (.int .i64 xs[k].start) := by
          rw [hb0.cell (p := ⟨b3, _, none⟩) hb3]; have := hcell3 k xs[k] (List.getElem?_eq_getElem hlt) 3 _ rfl; simpa using this
        have e4 : wo.cell? ⟨b3, o3 + k * 5 + 4, none⟩ = some (.int .i64 xs[k].fin) := by
          rw [hb0.cell (p := ⟨b3, _, none⟩) hb3]; have := hcell3 k xs[k] (List.getElem?_eq_getElem hlt) 4 _ rfl; simpa using this
        have hz3 : b3 < wo.heap.size := by omega
        have HC := hide hcell3
        have hl00 : 0 < xs.length := by omega
        have HX0 := hide (getD_at hl00); have HX := hide (getD_at hlt)
        clear hcell3 h3
        go_wp2_with fail
        generalize hW0 : (wo.alloc (.cells #[.int .i64 xs[k].ship, .int .i64 xs[k].segment, .bool xs[k].toward, .int .i64 xs[k].start, .int .i64 xs[k].fin] 49)) = W0
        have hB0 : Below wo.heap.size wo W0 := by rw [← hW0]; exact (by repeat (first | exact Below.refl _ _ | assumption | refine Below.setCell ?_ (by first | omega | (simp <;> omega)) _ | refine Below.alloc ?_ (by first | omega | (simp <;> omega)) _ | refine below_drewN ?_ _ | refine Below.drew ?_ | refine Below.trans ?_ (Below.mono (by assumption) (by first | omega | (simp <;> omega)))))
        have hl1 : wo.heap.size < W0.heap.size := by rw [← hW0]; simp
        have hx0 : W0.cell? ⟨wo.heap.size, 0, none⟩ = some (.int .i64 xs[k].ship) := by rw [← hW0]; simp [go_sem]
        have hx1 : W0.cell? ⟨wo.heap.size, 1, none⟩ = some (.int .i64 xs[k].segment) := by rw [← hW0]; simp [go_sem]
        have hx2 : W0.cell? ⟨wo.heap.size, 2, none⟩ = some (.bool xs[k].toward) := by rw [← hW0]; simp [go_sem]
        have hx3 : W0.cell? ⟨wo.heap.size, 3, none⟩ = some (.int .i64 xs[k].start) := by rw [← hW0]; simp [go_sem]
        have hx4 : W0.cell? ⟨wo.heap.size, 4, none⟩ = some (.int .i64 xs[k].fin) := by rw [← hW0]; simp [go_sem]
        have hbw0 := bnext hb0 hB0 (Nat.le_refl _)
        have hbws := hbw0.size
        have y0' := cellKeep hB0 y0 hl0; have y1' := cellKeep hB0 y1 hl0
        have hl2' : w.heap.size < W0.heap.size := by omega
        have hz4 : b3 < W0.heap.size := by omega
        have z0 : W0.cell? ⟨b3, o3, none⟩ = some (.int .i64 xs[0].ship) := by
          rw [hbw0.cell (p := ⟨b3, _, none⟩) hb3]; have := HC.out 0 xs[0] (List.getElem?_eq_getElem hl00) 0 _ rfl; simpa using this
        clear hW0 e0 e1 e2 e3 e4
        have hb := Below.refl W0.heap.size W0
        have HRW := hide (show chainRow c xs k = (decide (xs[k].ship = xs[0].ship) && inB xs[k].segment 0 ((c.segs.length : Int) - 1) && (decide (k = 0) || linkB c (xs.getD (k - 1) default) xs[k])) by unfold chainRow; rw [HX.out, HX0.out])
        have HWS := hide (show IntKind.i64.wrap ((c.segs.length : Int) - 1) = (c.segs.length : Int) - 1 from IntWalk.i64_in _ (by omega))
        rcases ch1 (xs[k].ship != xs[0].ship) with q1 | q1
        · have HF := hide (allUpTo_bad hlt (show chainRow c xs k = false by rw [HRW.out, show decide (xs[k].ship = xs[0].ship) = false by simpa using q1]; rfl))
          refine wp_region_below hb (by kernel_rfl) (by kernel_rfl) ?_
          repeat (first
            | go_big_quiet_skip
            | (go_big_quiet_want
               first
                | (refine quiet_value ?_; apply Exists.intro
                   refine ⟨fun wq hq => ?_, ?_⟩
                   · (obtain ⟨hc, hf⟩ := bcell hq; go_simp; first | done | rfl)
                   go_big_quiet_on
                   simp only [Act.put, List.setIfInBounds_toArray, List.set_cons_zero, List.set_cons_succ])
                | (go_big_quiet_op; go_big_quiet_on)
               ))
          refine wpQuiet_nil (fun wq hbq => ?_)
          go_wp2
          go_ret
          exact ⟨by simp [isChain, HF.out], bnext hbw0 hbq (Nat.le_refl _)⟩
        · have HQ := hide q1
          rcases ch1 (inB xs[k].segment 0 ((c.segs.length : Int) - 1)) with q2 | q2
          · have HSE := hide q2
            have HS := hide (show inB xs[k].segment 0 (IntKind.i64.wrap ((c.segs.length : Int) - 1)) = true by rw [HWS.out]; exact q2)
            clear q2
            have C0 := fun w : World => calls_boolC (l01In_any xs[k].segment 0 _ w) HS.out
            refine wp_region_below hb (by kernel_rfl) (by kernel_rfl) ?_
            repeat (first
              | go_big_quiet_skip
              | (go_big_quiet_want
                 first
                  | (refine quiet_value ?_; apply Exists.intro
                     refine ⟨fun wq hq => ?_, ?_⟩
                     · (obtain ⟨hc, hf⟩ := bcell hq; go_simp; first | done | rfl)
                     go_big_quiet_on
                     simp only [Act.put, List.setIfInBounds_toArray, List.set_cons_zero, List.set_cons_succ])
                  | (refine quiet_call ?_; apply Exists.intro; apply Exists.intro; apply Exists.intro
                     refine ⟨fun wq hq => ?_, fun wq hq => ?_, ?_⟩
                     · (obtain ⟨hc, hf⟩ := bcell hq; go_simp; exact ⟨rfl, rfl⟩)
                     · (first | with_reducible exact (C0 _).mono fun e w'' ⟨he, hw⟩ => ⟨he, hw ▸ hq⟩ | with_reducible exact (C0 _).mono fun e w'' ⟨he, hb'⟩ => ⟨he, bnext hq hb'⟩ |  exact (C0 _).mono fun e w'' ⟨he, hb'⟩ => ⟨he, bnext hq hb'⟩ |  exact (C0 _).mono fun e w'' ⟨he, hw⟩ => ⟨he, hw ▸ hq⟩)
                     go_big_quiet_on
                     simp only [Act.put, List.setIfInBounds_toArray, List.set_cons_zero, List.set_cons_succ])
                  | (go_big_quiet_op; go_big_quiet_on)
                 ))
            refine wpQuiet_nil (fun w1 hb' => ?_)
            obtain ⟨hc, hf⟩ := bcell hb'
            have hz := hb'.size; (try simp at hz)
            clear hb C0; have hb := hb'; clear hb'
            rcases Nat.eq_zero_or_pos k with hk0 | hk0
            · subst hk0
              have HT := hide (show chainRow c xs 0 = true by rw [HRW.out, HSE.out]; simp)
              go_wp2
              go_roundw
              case rel => exact ⟨1, by omega, by go_num, hide (allUpTo_succ HN.out HT.out), cellKeep hb y0' hl2', cellKeep hb y1' hl2', by omega, bnext hbw0 hb (Nat.le_refl _)⟩
              case measure => simp [intOf]; omega
            · obtain ⟨j, hj⟩ : ∃ j, k = j + 1 := ⟨k - 1, by omega⟩
              have hjl : j < xs.length := by omega
              have hcell := HC.out
              have f0 : W0.cell? ⟨b3, o3 + j * 5, none⟩ = some (.int .i64 xs[j].ship) := by
                rw [hbw0.cell (p := ⟨b3, _, none⟩) hb3]; have := hcell j xs[j] (List.getElem?_eq_getElem hjl) 0 _ rfl; simpa using this
              have f1 : W0.cell? ⟨b3, o3 + j * 5 + 1, none⟩ = some (.int .i64 xs[j].segment) := by
                rw [hbw0.cell (p := ⟨b3, _, none⟩) hb3]; have := hcell j xs[j] (List.getElem?_eq_getElem hjl) 1 _ rfl; simpa using this
              have f2 : W0.cell? ⟨b3, o3 + j * 5 + 2, none⟩ = some (.bool xs[j].toward) := by
                rw [hbw0.cell (p := ⟨b3, _, none⟩) hb3]; have := hcell j xs[j] (List.getElem?_eq_getElem hjl) 2 _ rfl; simpa using this
              have f3 : W0.cell? ⟨b3, o3 + j * 5 + 3, none⟩ = some (.int .i64 xs[j].start) := by
                rw [hbw0.cell (p := ⟨b3, _, none⟩) hb3]; have := hcell j xs[j] (List.getElem?_eq_getElem hjl) 3 _ rfl; simpa using this
              have f4 : W0.cell? ⟨b3, o3 + j * 5 + 4, none⟩ = some (.int .i64 xs[j].fin) := by
                rw [hbw0.cell (p := ⟨b3, _, none⟩) hb3]; have := hcell j xs[j] (List.getElem?_eq_getElem hjl) 4 _ rfl; simpa using this
              clear hcell
              have hr2 : allUpTo (chainRow c xs) k = true := HN.out
              have hr3 := allUpTo_iff.1 hr2 j (by omega)
              have HXJ := hide (getD_at hjl)
              unfold chainRow at hr3
              rw [HXJ.out] at hr3
              simp only [Bool.and_eq_true] at hr3
              have HSP := hide hr3.1.2
              clear hr2 hr3
              have HRL := hide (show chainRow c xs k = linkB c xs[j] xs[k] by
                rw [HRW.out, HSE.out, show decide (xs[k].ship = xs[0].ship) = true by simpa using HQ.out, decide_eq_false (show ¬ k = 0 by omega), show k - 1 = j by omega, HXJ.out]; rfl)
              have HLB := hide (show linkB c xs[j] xs[k] = (decide (endA c xs[k] = endB c xs[j]) && !decide (xs[k].start < xs[j].fin)) from rfl)
              have hkj : (k : Int) - 1 = j := by omega
              have hkw : IntKind.i64.wrap ((k : Int) - 1) = j := by rw [hkj]; exact IntWalk.i64_in _ (by omega)
              have hkj2 : (j : Int) < xs.length := by omega
              have hwj : IntKind.i64.wrap (j : Int) = j := IntWalk.i64_in _ (by omega)
              have hk1 : ((k : Int) == 0) = false := by rw [beq_eq_false_iff_ne]; omega
              have HJ := hide hj; clear hj hk0
              rcases ch1 (endA c xs[k] != endB c xs[j]) with q3 | q3
              · have HF := hide (allUpTo_bad hlt (show chainRow c xs k = false by rw [HRL.out, HLB.out, show decide (endA c xs[k] = endB c xs[j]) = false by simpa using q3]; rfl))
                go_wp2_with (go_at_call 87; refine (l08Ends_any _ _ c xs[k] _ ((HR.out.keep (B' := w.heap.size) (by repeat (first | exact Below.refl _ _ | assumption | refine Below.setCell ?_ (by first | omega | (simp <;> omega)) _ | refine Below.alloc ?_ (by first | omega | (simp <;> omega)) _ | refine below_drewN ?_ _ | refine Below.drew ?_ | refine Below.trans ?_ (Below.mono (by assumption) (by first | omega | (simp <;> omega))))) (Nat.le_refl _)).mono (by first | omega | (simp <;> omega))) HSE.out).mono ?_; rintro e w1 ⟨rfl, hb'⟩; (first | have hb := bnext hb hb' | have hb := bnextA hb hb' | have hb := hb'); clear hb'; obtain ⟨hc, hf⟩ := bcell hb; have hz := hb.size; (try simp at hz))
                refine wp_region_below hb (by kernel_rfl) (by kernel_rfl) ?_
                repeat (first
                  | go_big_quiet_skip
                  | (go_big_quiet_want
                     first
                      | (refine quiet_value ?_; apply Exists.intro
                         refine ⟨fun wq hq => ?_, ?_⟩
                         · (obtain ⟨hc, hf⟩ := bcell hq; go_simp; first | done | rfl)
                         go_big_quiet_on
                         simp only [Act.put, List.setIfInBounds_toArray, List.set_cons_zero, List.set_cons_succ])
                      | (refine quiet_call ?_; apply Exists.intro; apply Exists.intro; apply Exists.intro
                         refine ⟨fun wq hq => ?_, fun wq hq => ?_, ?_⟩
                         · (obtain ⟨hc, hf⟩ := bcell hq; go_simp; exact ⟨rfl, rfl⟩)
                         · (first | with_reducible exact (l08Ends_any _ _ c xs[j] _ ((HR.out.keep (B' := w.heap.size) (Below.trans hbw0 (Below.mono hq (by omega))) (Nat.le_refl _)).mono (by have hqs := hq.size; omega)) HSP.out).mono fun e w'' ⟨he, hw⟩ => ⟨he, hw ▸ hq⟩ | with_reducible exact (l08Ends_any _ _ c xs[j] _ ((HR.out.keep (B' := w.heap.size) (Below.trans hbw0 (Below.mono hq (by omega))) (Nat.le_refl _)).mono (by have hqs := hq.size; omega)) HSP.out).mono fun e w'' ⟨he, hb'⟩ => ⟨he, bnext hq hb'⟩ |  exact (l08Ends_any _ _ c xs[j] _ ((HR.out.keep (B' := w.heap.size) (Below.trans hbw0 (Below.mono hq (by omega))) (Nat.le_refl _)).mono (by have hqs := hq.size; omega)) HSP.out).mono fun e w'' ⟨he, hb'⟩ => ⟨he, bnext hq hb'⟩ |  exact (l08Ends_any _ _ c xs[j] _ ((HR.out.keep (B' := w.heap.size) (Below.trans hbw0 (Below.mono hq (by omega))) (Nat.le_refl _)).mono (by have hqs := hq.size; omega)) HSP.out).mono fun e w'' ⟨he, hw⟩ => ⟨he, hw ▸ hq⟩)
                         go_big_quiet_on
                         simp only [Act.put, List.setIfInBounds_toArray, List.set_cons_zero, List.set_cons_succ])
                      | (go_big_quiet_op; go_big_quiet_on)
                     ))
                refine wpQuiet_nil (fun w1 hb' => ?_)
                obtain ⟨hc, hf⟩ := bcell hb'
                have hz := hb'.size; (try simp at hz)
                clear hb; have hb := hb'; clear hb'
                go_wp2
                refine wp_region_below hb (by kernel_rfl) (by kernel_rfl) ?_
                repeat (first
                  | go_big_quiet_skip
                  | (go_big_quiet_want
                     first
                      | (refine quiet_value ?_; apply Exists.intro
                         refine ⟨fun wq hq => ?_, ?_⟩
                         · (obtain ⟨hc, hf⟩ := bcell hq; go_simp; first | done | rfl)
                         go_big_quiet_on
                         simp only [Act.put, List.setIfInBounds_toArray, List.set_cons_zero, List.set_cons_succ])
                      | (go_big_quiet_op; go_big_quiet_on)
                     ))
                refine wpQuiet_nil (fun w1 hb' => ?_)
                obtain ⟨hc, hf⟩ := bcell hb'
                have hz := hb'.size; (try simp at hz)
                go_wp2
                go_ret
                exact ⟨by simp [isChain, HF.out], bnext hbw0 hb' (Nat.le_refl _)⟩
              · rcases ch1 (decide (xs[k].start < xs[j].fin)) with q4 | q4
                · have HF := hide (allUpTo_bad hlt (show chainRow c xs k = false by rw [HRL.out, HLB.out, q4]; simp))
                  go_wp2_with (go_at_call 87; refine (l08Ends_any _ _ c xs[k] _ ((HR.out.keep (B' := w.heap.size) (by repeat (first | exact Below.refl _ _ | assumption | refine Below.setCell ?_ (by first | omega | (simp <;> omega)) _ | refine Below.alloc ?_ (by first | omega | (simp <;> omega)) _ | refine below_drewN ?_ _ | refine Below.drew ?_ | refine Below.trans ?_ (Below.mono (by assumption) (by first | omega | (simp <;> omega))))) (Nat.le_refl _)).mono (by first | omega | (simp <;> omega))) HSE.out).mono ?_; rintro e w1 ⟨rfl, hb'⟩; (first | have hb := bnext hb hb' | have hb := bnextA hb hb' | have hb := hb'); clear hb'; obtain ⟨hc, hf⟩ := bcell hb; have hz := hb.size; (try simp at hz))
                  refine wp_region_below hb (by kernel_rfl) (by kernel_rfl) ?_
                  repeat (first
                    | go_big_quiet_skip
                    | (go_big_quiet_want
                       first
                        | (refine quiet_value ?_; apply Exists.intro
                           refine ⟨fun wq hq => ?_, ?_⟩
                           · (obtain ⟨hc, hf⟩ := bcell hq; go_simp; first | done | rfl)
                           go_big_quiet_on
                           simp only [Act.put, List.setIfInBounds_toArray, List.set_cons_zero, List.set_cons_succ])
                        | (refine quiet_call ?_; apply Exists.intro; apply Exists.intro; apply Exists.intro
                           refine ⟨fun wq hq => ?_, fun wq hq => ?_, ?_⟩
                           · (obtain ⟨hc, hf⟩ := bcell hq; go_simp; exact ⟨rfl, rfl⟩)
                           · (first | with_reducible exact (l08Ends_any _ _ c xs[j] _ ((HR.out.keep (B' := w.heap.size) (Below.trans hbw0 (Below.mono hq (by omega))) (Nat.le_refl _)).mono (by have hqs := hq.size; omega)) HSP.out).mono fun e w'' ⟨he, hw⟩ => ⟨he, hw ▸ hq⟩ | with_reducible exact (l08Ends_any _ _ c xs[j] _ ((HR.out.keep (B' := w.heap.size) (Below.trans hbw0 (Below.mono hq (by omega))) (Nat.le_refl _)).mono (by have hqs := hq.size; omega)) HSP.out).mono fun e w'' ⟨he, hb'⟩ => ⟨he, bnext hq hb'⟩ |  exact (l08Ends_any _ _ c xs[j] _ ((HR.out.keep (B' := w.heap.size) (Below.trans hbw0 (Below.mono hq (by omega))) (Nat.le_refl _)).mono (by have hqs := hq.size; omega)) HSP.out).mono fun e w'' ⟨he, hb'⟩ => ⟨he, bnext hq hb'⟩ |  exact (l08Ends_any _ _ c xs[j] _ ((HR.out.keep (B' := w.heap.size) (Below.trans hbw0 (Below.mono hq (by omega))) (Nat.le_refl _)).mono (by have hqs := hq.size; omega)) HSP.out).mono fun e w'' ⟨he, hw⟩ => ⟨he, hw ▸ hq⟩)
                           go_big_quiet_on
                           simp only [Act.put, List.setIfInBounds_toArray, List.set_cons_zero, List.set_cons_succ])
                        | (go_big_quiet_op; go_big_quiet_on)
                       ))
                  refine wpQuiet_nil (fun w1 hb' => ?_)
                  obtain ⟨hc, hf⟩ := bcell hb'
                  have hz := hb'.size; (try simp at hz)
                  clear hb; have hb := hb'; clear hb'
                  go_wp2
                  refine wp_region_below hb (by kernel_rfl) (by kernel_rfl) ?_
                  repeat (first
                    | go_big_quiet_skip
                    | (go_big_quiet_want
                       first
                        | (refine quiet_value ?_; apply Exists.intro
                           refine ⟨fun wq hq => ?_, ?_⟩
                           · (obtain ⟨hc, hf⟩ := bcell hq; go_simp; first | done | rfl)
                           go_big_quiet_on
                           simp only [Act.put, List.setIfInBounds_toArray, List.set_cons_zero, List.set_cons_succ])
                        | (go_big_quiet_op; go_big_quiet_on)
                       ))
                  refine wpQuiet_nil (fun w1 hb' => ?_)
                  obtain ⟨hc, hf⟩ := bcell hb'
                  have hz := hb'.size; (try simp at hz)
                  go_wp2
                  go_ret
                  exact ⟨by simp [isChain, HF.out], bnext hbw0 hb' (Nat.le_refl _)⟩
                · have HT := hide (show chainRow c xs k = true by rw [HRL.out, HLB.out, q4, show decide (endA c xs[k] = endB c xs[j]) = true by simpa using q3]; rfl)
                  go_wp2_with (go_at_call 87; refine (l08Ends_any _ _ c xs[k] _ ((HR.out.keep (B' := w.heap.size) (by repeat (first | exact Below.refl _ _ | assumption | refine Below.setCell ?_ (by first | omega | (simp <;> omega)) _ | refine Below.alloc ?_ (by first | omega | (simp <;> omega)) _ | refine below_drewN ?_ _ | refine Below.drew ?_ | refine Below.trans ?_ (Below.mono (by assumption) (by first | omega | (simp <;> omega))))) (Nat.le_refl _)).mono (by first | omega | (simp <;> omega))) HSE.out).mono ?_; rintro e w1 ⟨rfl, hb'⟩; (first | have hb := bnext hb hb' | have hb := bnextA hb hb' | have hb := hb'); clear hb'; obtain ⟨hc, hf⟩ := bcell hb; have hz := hb.size; (try simp at hz))
                  refine wp_region_below hb (by kernel_rfl) (by kernel_rfl) ?_
                  repeat (first
                    | go_big_quiet_skip
                    | (go_big_quiet_want
                       first
                        | (refine quiet_value ?_; apply Exists.intro
                           refine ⟨fun wq hq => ?_, ?_⟩
                           · (obtain ⟨hc, hf⟩ := bcell hq; go_simp; first | done | rfl)
                           go_big_quiet_on
                           simp only [Act.put, List.setIfInBounds_toArray, List.set_cons_zero, List.set_cons_succ])
                        | (refine quiet_call ?_; apply Exists.intro; apply Exists.intro; apply Exists.intro
                           refine ⟨fun wq hq => ?_, fun wq hq => ?_, ?_⟩
                           · (obtain ⟨hc, hf⟩ := bcell hq; go_simp; exact ⟨rfl, rfl⟩)
                           · (first | with_reducible exact (l08Ends_any _ _ c xs[j] _ ((HR.out.keep (B' := w.heap.size) (Below.trans hbw0 (Below.mono hq (by omega))) (Nat.le_refl _)).mono (by have hqs := hq.size; omega)) HSP.out).mono fun e w'' ⟨he, hw⟩ => ⟨he, hw ▸ hq⟩ | with_reducible exact (l08Ends_any _ _ c xs[j] _ ((HR.out.keep (B' := w.heap.size) (Below.trans hbw0 (Below.mono hq (by omega))) (Nat.le_refl _)).mono (by have hqs := hq.size; omega)) HSP.out).mono fun e w'' ⟨he, hb'⟩ => ⟨he, bnext hq hb'⟩ |  exact (l08Ends_any _ _ c xs[j] _ ((HR.out.keep (B' := w.heap.size) (Below.trans hbw0 (Below.mono hq (by omega))) (Nat.le_refl _)).mono (by have hqs := hq.size; omega)) HSP.out).mono fun e w'' ⟨he, hb'⟩ => ⟨he, bnext hq hb'⟩ |  exact (l08Ends_any _ _ c xs[j] _ ((HR.out.keep (B' := w.heap.size) (Below.trans hbw0 (Below.mono hq (by omega))) (Nat.le_refl _)).mono (by have hqs := hq.size; omega)) HSP.out).mono fun e w'' ⟨he, hw⟩ => ⟨he, hw ▸ hq⟩)
                           go_big_quiet_on
                           simp only [Act.put, List.setIfInBounds_toArray, List.set_cons_zero, List.set_cons_succ])
                        | (go_big_quiet_op; go_big_quiet_on)
                       ))
                  refine wpQuiet_nil (fun w1 hb' => ?_)
                  obtain ⟨hc, hf⟩ := bcell hb'
                  have hz := hb'.size; (try simp at hz)
                  clear hb; have hb := hb'; clear hb'
                  go_wp2
                  refine wp_region_below hb (by kernel_rfl) (by kernel_rfl) ?_
                  repeat (first
                    | go_big_quiet_skip
                    | (go_big_quiet_want
                       first
                        | (refine quiet_value ?_; apply Exists.intro
                           refine ⟨fun wq hq => ?_, ?_⟩
                           · (obtain ⟨hc, hf⟩ := bcell hq; go_simp; first | done | rfl)
                           go_big_quiet_on
                           simp only [Act.put, List.setIfInBounds_toArray, List.set_cons_zero, List.set_cons_succ])
                        | (go_big_quiet_op; go_big_quiet_on)
                       ))
                  refine wpQuiet_nil (fun w1 hb' => ?_)
                  obtain ⟨hc, hf⟩ := bcell hb'
                  have hz := hb'.size; (try simp at hz)
                  go_wp2
                  go_roundw
                  case rel => exact ⟨k + 1, by omega, by go_num, hide (allUpTo_succ HN.out HT.out), cellKeep hb' y0' hl2', cellKeep hb' y1' hl2', by omega, bnext hbw0 hb' (Nat.le_refl _)⟩
                  case measure => simp [intOf]; omega
          · have HF := hide (allUpTo_bad hlt (show chainRow c xs k = false by rw [HRW.out, q2]; simp))
            have HS := hide (show inB xs[k].segment 0 (IntKind.i64.wrap ((c.segs.length : Int) - 1)) = false by rw [HWS.out]; exact q2)
            clear q2
            have C0 := fun w : World => calls_boolC (l01In_any xs[k].segment 0 _ w) HS.out
            refine wp_region_below hb (by kernel_rfl) (by kernel_rfl) ?_
            repeat (first
              | go_big_quiet_skip
              | (go_big_quiet_want
                 first
                  | (refine quiet_value ?_; apply Exists.intro
                     refine ⟨fun wq hq => ?_, ?_⟩
                     · (obtain ⟨hc, hf⟩ := bcell hq; go_simp; first | done | rfl)
                     go_big_quiet_on
                     simp only [Act.put, List.setIfInBounds_toArray, List.set_cons_zero, List.set_cons_succ])
                  | (refine quiet_call ?_; apply Exists.intro; apply Exists.intro; apply Exists.intro
                     refine ⟨fun wq hq => ?_, fun wq hq => ?_, ?_⟩
                     · (obtain ⟨hc, hf⟩ := bcell hq; go_simp; exact ⟨rfl, rfl⟩)
                     · (first | with_reducible exact (C0 _).mono fun e w'' ⟨he, hw⟩ => ⟨he, hw ▸ hq⟩ | with_reducible exact (C0 _).mono fun e w'' ⟨he, hb'⟩ => ⟨he, bnext hq hb'⟩ |  exact (C0 _).mono fun e w'' ⟨he, hb'⟩ => ⟨he, bnext hq hb'⟩ |  exact (C0 _).mono fun e w'' ⟨he, hw⟩ => ⟨he, hw ▸ hq⟩)
                     go_big_quiet_on
                     simp only [Act.put, List.setIfInBounds_toArray, List.set_cons_zero, List.set_cons_succ])
                  | (go_big_quiet_op; go_big_quiet_on)
                 ))
            refine wpQuiet_nil (fun wq hbq => ?_)
            go_wp2
            go_ret
            exact ⟨by simp [isChain, HF.out], bnext hbw0 hbq (Nat.le_refl _)⟩
      · obtain rfl : k = xs.length := by omega
        go_wp2
        go_ret
        exact ⟨by simp [isChain, G1.out, HN.out], hb0⟩
  · go_enter Try.func35, Try.ntmps35
    go_wp2_with (go_at_call 64; refine (spec_ChartOk_any _ _ c _ ((HR.out.keep (B' := w.heap.size) (by repeat (first | exact Below.refl _ _ | assumption | refine Below.setCell ?_ (by first | omega | (simp <;> omega)) _ | refine Below.alloc ?_ (by first | omega | (simp <;> omega)) _ | refine below_drewN ?_ _ | refine Below.drew ?_ | refine Below.trans ?_ (Below.mono (by assumption) (by first | omega | (simp <;> omega))))) (Nat.le_refl _)).mono (by first | omega | (simp <;> omega))) hok).mono ?_; rintro e w1 ⟨rfl, hb'⟩; (first | have hb := bnext hb hb' | have hb := bnextA hb hb' | have hb := hb'); clear hb'; obtain ⟨hc, hf⟩ := bcell hb; have hz := hb.size; (try simp at hz))
    go_ret
    exact ⟨by simp [isChain, g1], (by repeat (first | exact Below.refl _ _ | assumption | refine Below.setCell ?_ (by first | omega | (simp <;> omega)) _ | refine Below.alloc ?_ (by first | omega | (simp <;> omega)) _ | refine below_drewN ?_ _ | refine Below.drew ?_ | refine Below.trans ?_ (Below.mono (by assumption) (by first | omega | (simp <;> omega)))))⟩
set_option maxRecDepth 100000 in
set_option maxHeartbeats 16000000 in
theorem impl_IsChain_any (v1 v2 v3 : Value) (c : ChartD) (xs : List PassageD) (w : World) (h : RdChart w w.heap.size v1 v2 c) (h3 : RdPassage w v3 xs) (hok : ∀ x ∈ c.points, x.name.size ≤ maxLen) :
    Calls Try.prog 37 #[.agg #[v1, v2], v3] w fun e w' => e = .returned (.bool (isChain c xs)) ∧ Below w.heap.size w w' := by
  have HR := hide h
  obtain ⟨h1, h2⟩ := h
  obtain ⟨A1, c1, rfl, hc1, hm1, h1⟩ := h1
  obtain ⟨A2, c2, rfl, hc2, hm2, h2⟩ := h2
  obtain ⟨A3, c3, rfl, hc3, hm3, h3⟩ := h3
  unfold maxLen at hm1 hm2 hm3
  clear h1 h2
  have hl2 : (c.segs.length : Int) ≤ 9223372036854775807 := by omega
  rcases ch1 (chartOk c) with g1 | g1
  · have G1 := hide g1
    go_enter Try.func37, Try.ntmps37
    go_wp2_with (go_at_call 70; refine (impl_ChartOk_any _ _ c _ ((HR.out.keep (B' := w.heap.size) (by repeat (first | exact Below.refl _ _ | assumption | refine Below.setCell ?_ (by first | omega | (simp <;> omega)) _ | refine Below.alloc ?_ (by first | omega | (simp <;> omega)) _ | refine below_drewN ?_ _ | refine Below.drew ?_ | refine Below.trans ?_ (Below.mono (by assumption) (by first | omega | (simp <;> omega))))) (Nat.le_refl _)).mono (by first | omega | (simp <;> omega))) hok).mono ?_; rintro e w1 ⟨rfl, hb'⟩; (first | have hb := bnext hb hb' | have hb := bnextA hb hb' | have hb := hb'); clear hb'; obtain ⟨hc, hf⟩ := bcell hb; have hz := hb.size; (try simp at hz))
    clear g1
    go_loopw [16] (fun i wr => ∃ k : Nat, k ≤ xs.length ∧ i = .int .i64 k ∧ Hid (allUpTo (chainRow c xs) k = true) ∧ wr.cell? ⟨w.heap.size, 0, none⟩ = some (.slice A1 c.points.length c1) ∧ wr.cell? ⟨w.heap.size, 1, none⟩ = some (.slice A2 c.segs.length c2) ∧ w.heap.size < wr.heap.size ∧ Below w.heap.size w wr) (fun i _ => xs.length - (intOf i).toNat)
    case atStart => exact ⟨0, Nat.zero_le _, rfl, hide rfl, by first | simp [go_sem] | simp [hc, go_sem], by first | simp [go_sem] | simp [hc, go_sem], by first | omega | simp, (by repeat (first | exact Below.refl _ _ | assumption | refine Below.setCell ?_ (by first | omega | (simp <;> omega)) _ | refine Below.alloc ?_ (by first | omega | (simp <;> omega)) _ | refine below_drewN ?_ _ | refine Below.drew ?_ | refine Below.trans ?_ (Below.mono (by assumption) (by first | omega | (simp <;> omega)))))⟩
    case round =>
      (try clear hc hf hz hb)
      obtain ⟨k, hk, rfl, HN, y0, y1, hl0, hb0⟩ := hrel
      obtain ⟨wo, rfl⟩ : ∃ wo : World, wo = wr := ⟨_, rfl⟩
      have hbs := hb0.size
      by_cases hlt : k < xs.length
      · obtain ⟨b3, o3, rfl, hb3, hcell3⟩ := h3 (by omega)
        have e0 : wo.cell? ⟨b3, o3 + k * 5, none⟩ = some (.int .i64 xs[k].ship) := by
          rw [hb0.cell (p := ⟨b3, _, none⟩) hb3]; have := hcell3 k xs[k] (List.getElem?_eq_getElem hlt) 0 _ rfl; simpa using this
        have e1 : wo.cell? ⟨b3, o3 + k * 5 + 1, none⟩ = some (.int .i64 xs[k].segment) := by
          rw [hb0.cell (p := ⟨b3, _, none⟩) hb3]; have := hcell3 k xs[k] (List.getElem?_eq_getElem hlt) 1 _ rfl; simpa using this
        have e2 : wo.cell? ⟨b3, o3 + k * 5 + 2, none⟩ = some (.bool xs[k].toward) := by
          rw [hb0.cell (p := ⟨b3, _, none⟩) hb3]; have := hcell3 k xs[k] (List.getElem?_eq_getElem hlt) 2 _ rfl; simpa using this
        have e3 : wo.cell? ⟨b3, o3 + k * 5 + 3, none⟩ = some (.int .i64 xs[k].start) := by
          rw [hb0.cell (p := ⟨b3, _, none⟩) hb3]; have := hcell3 k xs[k] (List.getElem?_eq_getElem hlt) 3 _ rfl; simpa using this
        have e4 : wo.cell? ⟨b3, o3 + k * 5 + 4, none⟩ = some (.int .i64 xs[k].fin) := by
          rw [hb0.cell (p := ⟨b3, _, none⟩) hb3]; have := hcell3 k xs[k] (List.getElem?_eq_getElem hlt) 4 _ rfl; simpa using this
        have hz3 : b3 < wo.heap.size := by omega
        have HC := hide hcell3
        have hl00 : 0 < xs.length := by omega
        have HX0 := hide (getD_at hl00); have HX := hide (getD_at hlt)
        clear hcell3 h3
        go_wp2_with fail
        generalize hW0 : (wo.alloc (.cells #[.int .i64 xs[k].ship, .int .i64 xs[k].segment, .bool xs[k].toward, .int .i64 xs[k].start, .int .i64 xs[k].fin] 49)) = W0
        have hB0 : Below wo.heap.size wo W0 := by rw [← hW0]; exact (by repeat (first | exact Below.refl _ _ | assumption | refine Below.setCell ?_ (by first | omega | (simp <;> omega)) _ | refine Below.alloc ?_ (by first | omega | (simp <;> omega)) _ | refine below_drewN ?_ _ | refine Below.drew ?_ | refine Below.trans ?_ (Below.mono (by assumption) (by first | omega | (simp <;> omega)))))
        have hl1 : wo.heap.size < W0.heap.size := by rw [← hW0]; simp
        have hx0 : W0.cell? ⟨wo.heap.size, 0, none⟩ = some (.int .i64 xs[k].ship) := by rw [← hW0]; simp [go_sem]
        have hx1 : W0.cell? ⟨wo.heap.size, 1, none⟩ = some (.int .i64 xs[k].segment) := by rw [← hW0]; simp [go_sem]
        have hx2 : W0.cell? ⟨wo.heap.size, 2, none⟩ = some (.bool xs[k].toward) := by rw [← hW0]; simp [go_sem]
        have hx3 : W0.cell? ⟨wo.heap.size, 3, none⟩ = some (.int .i64 xs[k].start) := by rw [← hW0]; simp [go_sem]
        have hx4 : W0.cell? ⟨wo.heap.size, 4, none⟩ = some (.int .i64 xs[k].fin) := by rw [← hW0]; simp [go_sem]
        have hbw0 := bnext hb0 hB0 (Nat.le_refl _)
        have hbws := hbw0.size
        have y0' := cellKeep hB0 y0 hl0; have y1' := cellKeep hB0 y1 hl0
        have hl2' : w.heap.size < W0.heap.size := by omega
        have hz4 : b3 < W0.heap.size := by omega
        have z0 : W0.cell? ⟨b3, o3, none⟩ = some (.int .i64 xs[0].ship) := by
          rw [hbw0.cell (p := ⟨b3, _, none⟩) hb3]; have := HC.out 0 xs[0] (List.getElem?_eq_getElem hl00) 0 _ rfl; simpa using this
        clear hW0 e0 e1 e2 e3 e4
        have hb := Below.refl W0.heap.size W0
        have HRW := hide (show chainRow c xs k = (decide (xs[k].ship = xs[0].ship) && inB xs[k].segment 0 ((c.segs.length : Int) - 1) && (decide (k = 0) || linkB c (xs.getD (k - 1) default) xs[k])) by unfold chainRow; rw [HX.out, HX0.out])
        have HWS := hide (show IntKind.i64.wrap ((c.segs.length : Int) - 1) = (c.segs.length : Int) - 1 from IntWalk.i64_in _ (by omega))
        rcases ch1 (xs[k].ship != xs[0].ship) with q1 | q1
        · have HF := hide (allUpTo_bad hlt (show chainRow c xs k = false by rw [HRW.out, show decide (xs[k].ship = xs[0].ship) = false by simpa using q1]; rfl))
          refine wp_region_below hb (by kernel_rfl) (by kernel_rfl) ?_
          repeat (first
            | go_big_quiet_skip
            | (go_big_quiet_want
               first
                | (refine quiet_value ?_; apply Exists.intro
                   refine ⟨fun wq hq => ?_, ?_⟩
                   · (obtain ⟨hc, hf⟩ := bcell hq; go_simp; first | done | rfl)
                   go_big_quiet_on
                   simp only [Act.put, List.setIfInBounds_toArray, List.set_cons_zero, List.set_cons_succ])
                | (go_big_quiet_op; go_big_quiet_on)
               ))
          refine wpQuiet_nil (fun wq hbq => ?_)
          go_wp2
          go_ret
          exact ⟨by simp [isChain, HF.out], bnext hbw0 hbq (Nat.le_refl _)⟩
        · have HQ := hide q1
          rcases ch1 (inB xs[k].segment 0 ((c.segs.length : Int) - 1)) with q2 | q2
          · have HSE := hide q2
            have HS := hide (show inB xs[k].segment 0 ((c.segs.length : Int) - 1) = true from q2)
            clear q2
            have C0 := fun w : World => calls_boolC (isIndexB xs[k].segment (c.segs.length : Int) ((c.segs.length : Int) - 1) w (by omega)) HS.out
            refine wp_region_below hb (by kernel_rfl) (by kernel_rfl) ?_
            repeat (first
              | go_big_quiet_skip
              | (go_big_quiet_want
                 first
                  | (refine quiet_value ?_; apply Exists.intro
                     refine ⟨fun wq hq => ?_, ?_⟩
                     · (obtain ⟨hc, hf⟩ := bcell hq; go_simp; first | done | rfl)
                     go_big_quiet_on
                     simp only [Act.put, List.setIfInBounds_toArray, List.set_cons_zero, List.set_cons_succ])
                  | (refine quiet_call ?_; apply Exists.intro; apply Exists.intro; apply Exists.intro
                     refine ⟨fun wq hq => ?_, fun wq hq => ?_, ?_⟩
                     · (obtain ⟨hc, hf⟩ := bcell hq; go_simp; exact ⟨rfl, rfl⟩)
                     · (first | with_reducible exact (C0 _).mono fun e w'' ⟨he, hw⟩ => ⟨he, hw ▸ hq⟩ | with_reducible exact (C0 _).mono fun e w'' ⟨he, hb'⟩ => ⟨he, bnext hq hb'⟩ |  exact (C0 _).mono fun e w'' ⟨he, hb'⟩ => ⟨he, bnext hq hb'⟩ |  exact (C0 _).mono fun e w'' ⟨he, hw⟩ => ⟨he, hw ▸ hq⟩)
                     go_big_quiet_on
                     simp only [Act.put, List.setIfInBounds_toArray, List.set_cons_zero, List.set_cons_succ])
                  | (go_big_quiet_op; go_big_quiet_on)
                 ))
            refine wpQuiet_nil (fun w1 hb' => ?_)
            obtain ⟨hc, hf⟩ := bcell hb'
            have hz := hb'.size; (try simp at hz)
            clear hb C0; have hb := hb'; clear hb'
            rcases Nat.eq_zero_or_pos k with hk0 | hk0
            · subst hk0
              have HT := hide (show chainRow c xs 0 = true by rw [HRW.out, HSE.out]; simp)
              go_wp2
              go_roundw
              case rel => exact ⟨1, by omega, by go_num, hide (allUpTo_succ HN.out HT.out), cellKeep hb y0' hl2', cellKeep hb y1' hl2', by omega, bnext hbw0 hb (Nat.le_refl _)⟩
              case measure => simp [intOf]; omega
            · obtain ⟨j, hj⟩ : ∃ j, k = j + 1 := ⟨k - 1, by omega⟩
              have hjl : j < xs.length := by omega
              have hcell := HC.out
              have f0 : W0.cell? ⟨b3, o3 + j * 5, none⟩ = some (.int .i64 xs[j].ship) := by
                rw [hbw0.cell (p := ⟨b3, _, none⟩) hb3]; have := hcell j xs[j] (List.getElem?_eq_getElem hjl) 0 _ rfl; simpa using this
              have f1 : W0.cell? ⟨b3, o3 + j * 5 + 1, none⟩ = some (.int .i64 xs[j].segment) := by
                rw [hbw0.cell (p := ⟨b3, _, none⟩) hb3]; have := hcell j xs[j] (List.getElem?_eq_getElem hjl) 1 _ rfl; simpa using this
              have f2 : W0.cell? ⟨b3, o3 + j * 5 + 2, none⟩ = some (.bool xs[j].toward) := by
                rw [hbw0.cell (p := ⟨b3, _, none⟩) hb3]; have := hcell j xs[j] (List.getElem?_eq_getElem hjl) 2 _ rfl; simpa using this
              have f3 : W0.cell? ⟨b3, o3 + j * 5 + 3, none⟩ = some (.int .i64 xs[j].start) := by
                rw [hbw0.cell (p := ⟨b3, _, none⟩) hb3]; have := hcell j xs[j] (List.getElem?_eq_getElem hjl) 3 _ rfl; simpa using this
              have f4 : W0.cell? ⟨b3, o3 + j * 5 + 4, none⟩ = some (.int .i64 xs[j].fin) := by
                rw [hbw0.cell (p := ⟨b3, _, none⟩) hb3]; have := hcell j xs[j] (List.getElem?_eq_getElem hjl) 4 _ rfl; simpa using this
              clear hcell
              have hr2 : allUpTo (chainRow c xs) k = true := HN.out
              have hr3 := allUpTo_iff.1 hr2 j (by omega)
              have HXJ := hide (getD_at hjl)
              unfold chainRow at hr3
              rw [HXJ.out] at hr3
              simp only [Bool.and_eq_true] at hr3
              have HSP := hide hr3.1.2
              clear hr2 hr3
              have HRL := hide (show chainRow c xs k = linkB c xs[j] xs[k] by
                rw [HRW.out, HSE.out, show decide (xs[k].ship = xs[0].ship) = true by simpa using HQ.out, decide_eq_false (show ¬ k = 0 by omega), show k - 1 = j by omega, HXJ.out]; rfl)
              have HLB := hide (show linkB c xs[j] xs[k] = (decide (endA c xs[k] = endB c xs[j]) && !decide (xs[k].start < xs[j].fin)) from rfl)
              have hkj : (k : Int) - 1 = j := by omega
              have hkw : IntKind.i64.wrap ((k : Int) - 1) = j := by rw [hkj]; exact IntWalk.i64_in _ (by omega)
              have hkj2 : (j : Int) < xs.length := by omega
              have hwj : IntKind.i64.wrap (j : Int) = j := IntWalk.i64_in _ (by omega)
              have hk1 : ((k : Int) == 0) = false := by rw [beq_eq_false_iff_ne]; omega
              have HJ := hide hj; clear hj hk0
              rcases ch1 (endA c xs[k] != endB c xs[j]) with q3 | q3
              · have HF := hide (allUpTo_bad hlt (show chainRow c xs k = false by rw [HRL.out, HLB.out, show decide (endA c xs[k] = endB c xs[j]) = false by simpa using q3]; rfl))
                go_wp2
                refine wp_region_below hb (by kernel_rfl) (by kernel_rfl) ?_
                repeat (first
                  | go_big_quiet_skip
                  | (go_big_quiet_want
                     first
                      | (refine quiet_value ?_; apply Exists.intro
                         refine ⟨fun wq hq => ?_, ?_⟩
                         · (obtain ⟨hc, hf⟩ := bcell hq; go_simp; first | done | rfl)
                         go_big_quiet_on
                         simp only [Act.put, List.setIfInBounds_toArray, List.set_cons_zero, List.set_cons_succ])
                      | (refine quiet_call ?_; apply Exists.intro; apply Exists.intro; apply Exists.intro
                         refine ⟨fun wq hq => ?_, fun wq hq => ?_, ?_⟩
                         · (obtain ⟨hc, hf⟩ := bcell hq; go_simp; exact ⟨rfl, rfl⟩)
                         · (first | with_reducible exact (ends_any _ _ c xs[j] _ ((HR.out.keep (B' := w.heap.size) (Below.trans hbw0 (Below.mono hq (by omega))) (Nat.le_refl _)).mono (by have hqs := hq.size; omega)) HSP.out).mono fun e w'' ⟨he, hw⟩ => ⟨he, hw ▸ hq⟩ | with_reducible exact (ends_any _ _ c xs[j] _ ((HR.out.keep (B' := w.heap.size) (Below.trans hbw0 (Below.mono hq (by omega))) (Nat.le_refl _)).mono (by have hqs := hq.size; omega)) HSP.out).mono fun e w'' ⟨he, hb'⟩ => ⟨he, bnext hq hb'⟩ |  exact (ends_any _ _ c xs[j] _ ((HR.out.keep (B' := w.heap.size) (Below.trans hbw0 (Below.mono hq (by omega))) (Nat.le_refl _)).mono (by have hqs := hq.size; omega)) HSP.out).mono fun e w'' ⟨he, hb'⟩ => ⟨he, bnext hq hb'⟩ |  exact (ends_any _ _ c xs[j] _ ((HR.out.keep (B' := w.heap.size) (Below.trans hbw0 (Below.mono hq (by omega))) (Nat.le_refl _)).mono (by have hqs := hq.size; omega)) HSP.out).mono fun e w'' ⟨he, hw⟩ => ⟨he, hw ▸ hq⟩)
                         go_big_quiet_on
                         simp only [Act.put, List.setIfInBounds_toArray, List.set_cons_zero, List.set_cons_succ])
                      | (go_big_quiet_op; go_big_quiet_on)
                     ))
                refine wpQuiet_nil (fun w1 hb' => ?_)
                obtain ⟨hc, hf⟩ := bcell hb'
                have hz := hb'.size; (try simp at hz)
                clear hb; have hb := hb'; clear hb'
                go_wp2_with (go_at_call 88; refine (ends_any _ _ c xs[k] _ ((HR.out.keep (B' := w.heap.size) (by repeat (first | exact Below.refl _ _ | assumption | refine Below.setCell ?_ (by first | omega | (simp <;> omega)) _ | refine Below.alloc ?_ (by first | omega | (simp <;> omega)) _ | refine below_drewN ?_ _ | refine Below.drew ?_ | refine Below.trans ?_ (Below.mono (by assumption) (by first | omega | (simp <;> omega))))) (Nat.le_refl _)).mono (by first | omega | (simp <;> omega))) HSE.out).mono ?_; rintro e w1 ⟨rfl, hb'⟩; (first | have hb := bnext hb hb' | have hb := bnextA hb hb' | have hb := hb'); clear hb'; obtain ⟨hc, hf⟩ := bcell hb; have hz := hb.size; (try simp at hz))
                refine wp_region_below hb (by kernel_rfl) (by kernel_rfl) ?_
                repeat (first
                  | go_big_quiet_skip
                  | (go_big_quiet_want
                     first
                      | (refine quiet_value ?_; apply Exists.intro
                         refine ⟨fun wq hq => ?_, ?_⟩
                         · (obtain ⟨hc, hf⟩ := bcell hq; go_simp; first | done | rfl)
                         go_big_quiet_on
                         simp only [Act.put, List.setIfInBounds_toArray, List.set_cons_zero, List.set_cons_succ])
                      | (go_big_quiet_op; go_big_quiet_on)
                     ))
                refine wpQuiet_nil (fun w1 hb' => ?_)
                obtain ⟨hc, hf⟩ := bcell hb'
                have hz := hb'.size; (try simp at hz)
                go_wp2
                go_ret
                exact ⟨by simp [isChain, HF.out], bnext hbw0 hb' (Nat.le_refl _)⟩
              · rcases ch1 (decide (xs[k].start < xs[j].fin)) with q4 | q4
                · have HF := hide (allUpTo_bad hlt (show chainRow c xs k = false by rw [HRL.out, HLB.out, q4]; simp))
                  go_wp2
                  refine wp_region_below hb (by kernel_rfl) (by kernel_rfl) ?_
                  repeat (first
                    | go_big_quiet_skip
                    | (go_big_quiet_want
                       first
                        | (refine quiet_value ?_; apply Exists.intro
                           refine ⟨fun wq hq => ?_, ?_⟩
                           · (obtain ⟨hc, hf⟩ := bcell hq; go_simp; first | done | rfl)
                           go_big_quiet_on
                           simp only [Act.put, List.setIfInBounds_toArray, List.set_cons_zero, List.set_cons_succ])
                        | (refine quiet_call ?_; apply Exists.intro; apply Exists.intro; apply Exists.intro
                           refine ⟨fun wq hq => ?_, fun wq hq => ?_, ?_⟩
                           · (obtain ⟨hc, hf⟩ := bcell hq; go_simp; exact ⟨rfl, rfl⟩)
                           · (first | with_reducible exact (ends_any _ _ c xs[j] _ ((HR.out.keep (B' := w.heap.size) (Below.trans hbw0 (Below.mono hq (by omega))) (Nat.le_refl _)).mono (by have hqs := hq.size; omega)) HSP.out).mono fun e w'' ⟨he, hw⟩ => ⟨he, hw ▸ hq⟩ | with_reducible exact (ends_any _ _ c xs[j] _ ((HR.out.keep (B' := w.heap.size) (Below.trans hbw0 (Below.mono hq (by omega))) (Nat.le_refl _)).mono (by have hqs := hq.size; omega)) HSP.out).mono fun e w'' ⟨he, hb'⟩ => ⟨he, bnext hq hb'⟩ |  exact (ends_any _ _ c xs[j] _ ((HR.out.keep (B' := w.heap.size) (Below.trans hbw0 (Below.mono hq (by omega))) (Nat.le_refl _)).mono (by have hqs := hq.size; omega)) HSP.out).mono fun e w'' ⟨he, hb'⟩ => ⟨he, bnext hq hb'⟩ |  exact (ends_any _ _ c xs[j] _ ((HR.out.keep (B' := w.heap.size) (Below.trans hbw0 (Below.mono hq (by omega))) (Nat.le_refl _)).mono (by have hqs := hq.size; omega)) HSP.out).mono fun e w'' ⟨he, hw⟩ => ⟨he, hw ▸ hq⟩)
                           go_big_quiet_on
                           simp only [Act.put, List.setIfInBounds_toArray, List.set_cons_zero, List.set_cons_succ])
                        | (go_big_quiet_op; go_big_quiet_on)
                       ))
                  refine wpQuiet_nil (fun w1 hb' => ?_)
                  obtain ⟨hc, hf⟩ := bcell hb'
                  have hz := hb'.size; (try simp at hz)
                  clear hb; have hb := hb'; clear hb'
                  go_wp2_with (go_at_call 88; refine (ends_any _ _ c xs[k] _ ((HR.out.keep (B' := w.heap.size) (by repeat (first | exact Below.refl _ _ | assumption | refine Below.setCell ?_ (by first | omega | (simp <;> omega)) _ | refine Below.alloc ?_ (by first | omega | (simp <;> omega)) _ | refine below_drewN ?_ _ | refine Below.drew ?_ | refine Below.trans ?_ (Below.mono (by assumption) (by first | omega | (simp <;> omega))))) (Nat.le_refl _)).mono (by first | omega | (simp <;> omega))) HSE.out).mono ?_; rintro e w1 ⟨rfl, hb'⟩; (first | have hb := bnext hb hb' | have hb := bnextA hb hb' | have hb := hb'); clear hb'; obtain ⟨hc, hf⟩ := bcell hb; have hz := hb.size; (try simp at hz))
                  refine wp_region_below hb (by kernel_rfl) (by kernel_rfl) ?_
                  repeat (first
                    | go_big_quiet_skip
                    | (go_big_quiet_want
                       first
                        | (refine quiet_value ?_; apply Exists.intro
                           refine ⟨fun wq hq => ?_, ?_⟩
                           · (obtain ⟨hc, hf⟩ := bcell hq; go_simp; first | done | rfl)
                           go_big_quiet_on
                           simp only [Act.put, List.setIfInBounds_toArray, List.set_cons_zero, List.set_cons_succ])
                        | (go_big_quiet_op; go_big_quiet_on)
                       ))
                  refine wpQuiet_nil (fun w1 hb' => ?_)
                  obtain ⟨hc, hf⟩ := bcell hb'
                  have hz := hb'.size; (try simp at hz)
                  go_wp2
                  go_ret
                  exact ⟨by simp [isChain, HF.out], bnext hbw0 hb' (Nat.le_refl _)⟩
                · have HT := hide (show chainRow c xs k = true by rw [HRL.out, HLB.out, q4, show decide (endA c xs[k] = endB c xs[j]) = true by simpa using q3]; rfl)
                  go_wp2
                  refine wp_region_below hb (by kernel_rfl) (by kernel_rfl) ?_
                  repeat (first
                    | go_big_quiet_skip
                    | (go_big_quiet_want
                       first
                        | (refine quiet_value ?_; apply Exists.intro
                           refine ⟨fun wq hq => ?_, ?_⟩
                           · (obtain ⟨hc, hf⟩ := bcell hq; go_simp; first | done | rfl)
                           go_big_quiet_on
                           simp only [Act.put, List.setIfInBounds_toArray, List.set_cons_zero, List.set_cons_succ])
                        | (refine quiet_call ?_; apply Exists.intro; apply Exists.intro; apply Exists.intro
                           refine ⟨fun wq hq => ?_, fun wq hq => ?_, ?_⟩
                           · (obtain ⟨hc, hf⟩ := bcell hq; go_simp; exact ⟨rfl, rfl⟩)
                           · (first | with_reducible exact (ends_any _ _ c xs[j] _ ((HR.out.keep (B' := w.heap.size) (Below.trans hbw0 (Below.mono hq (by omega))) (Nat.le_refl _)).mono (by have hqs := hq.size; omega)) HSP.out).mono fun e w'' ⟨he, hw⟩ => ⟨he, hw ▸ hq⟩ | with_reducible exact (ends_any _ _ c xs[j] _ ((HR.out.keep (B' := w.heap.size) (Below.trans hbw0 (Below.mono hq (by omega))) (Nat.le_refl _)).mono (by have hqs := hq.size; omega)) HSP.out).mono fun e w'' ⟨he, hb'⟩ => ⟨he, bnext hq hb'⟩ |  exact (ends_any _ _ c xs[j] _ ((HR.out.keep (B' := w.heap.size) (Below.trans hbw0 (Below.mono hq (by omega))) (Nat.le_refl _)).mono (by have hqs := hq.size; omega)) HSP.out).mono fun e w'' ⟨he, hb'⟩ => ⟨he, bnext hq hb'⟩ |  exact (ends_any _ _ c xs[j] _ ((HR.out.keep (B' := w.heap.size) (Below.trans hbw0 (Below.mono hq (by omega))) (Nat.le_refl _)).mono (by have hqs := hq.size; omega)) HSP.out).mono fun e w'' ⟨he, hw⟩ => ⟨he, hw ▸ hq⟩)
                           go_big_quiet_on
                           simp only [Act.put, List.setIfInBounds_toArray, List.set_cons_zero, List.set_cons_succ])
                        | (go_big_quiet_op; go_big_quiet_on)
                       ))
                  refine wpQuiet_nil (fun w1 hb' => ?_)
                  obtain ⟨hc, hf⟩ := bcell hb'
                  have hz := hb'.size; (try simp at hz)
                  clear hb; have hb := hb'; clear hb'
                  go_wp2_with (go_at_call 88; refine (ends_any _ _ c xs[k] _ ((HR.out.keep (B' := w.heap.size) (by repeat (first | exact Below.refl _ _ | assumption | refine Below.setCell ?_ (by first | omega | (simp <;> omega)) _ | refine Below.alloc ?_ (by first | omega | (simp <;> omega)) _ | refine below_drewN ?_ _ | refine Below.drew ?_ | refine Below.trans ?_ (Below.mono (by assumption) (by first | omega | (simp <;> omega))))) (Nat.le_refl _)).mono (by first | omega | (simp <;> omega))) HSE.out).mono ?_; rintro e w1 ⟨rfl, hb'⟩; (first | have hb := bnext hb hb' | have hb := bnextA hb hb' | have hb := hb'); clear hb'; obtain ⟨hc, hf⟩ := bcell hb; have hz := hb.size; (try simp at hz))
                  refine wp_region_below hb (by kernel_rfl) (by kernel_rfl) ?_
                  repeat (first
                    | go_big_quiet_skip
                    | (go_big_quiet_want
                       first
                        | (refine quiet_value ?_; apply Exists.intro
                           refine ⟨fun wq hq => ?_, ?_⟩
                           · (obtain ⟨hc, hf⟩ := bcell hq; go_simp; first | done | rfl)
                           go_big_quiet_on
                           simp only [Act.put, List.setIfInBounds_toArray, List.set_cons_zero, List.set_cons_succ])
                        | (go_big_quiet_op; go_big_quiet_on)
                       ))
                  refine wpQuiet_nil (fun w1 hb' => ?_)
                  obtain ⟨hc, hf⟩ := bcell hb'
                  have hz := hb'.size; (try simp at hz)
                  go_wp2
                  go_roundw
                  case rel => exact ⟨k + 1, by omega, by go_num, hide (allUpTo_succ HN.out HT.out), cellKeep hb' y0' hl2', cellKeep hb' y1' hl2', by omega, bnext hbw0 hb' (Nat.le_refl _)⟩
                  case measure => simp [intOf]; omega
          · have HF := hide (allUpTo_bad hlt (show chainRow c xs k = false by rw [HRW.out, q2]; simp))
            have HS := hide (show inB xs[k].segment 0 ((c.segs.length : Int) - 1) = false from q2)
            clear q2
            have C0 := fun w : World => calls_boolC (isIndexB xs[k].segment (c.segs.length : Int) ((c.segs.length : Int) - 1) w (by omega)) HS.out
            refine wp_region_below hb (by kernel_rfl) (by kernel_rfl) ?_
            repeat (first
              | go_big_quiet_skip
              | (go_big_quiet_want
                 first
                  | (refine quiet_value ?_; apply Exists.intro
                     refine ⟨fun wq hq => ?_, ?_⟩
                     · (obtain ⟨hc, hf⟩ := bcell hq; go_simp; first | done | rfl)
                     go_big_quiet_on
                     simp only [Act.put, List.setIfInBounds_toArray, List.set_cons_zero, List.set_cons_succ])
                  | (refine quiet_call ?_; apply Exists.intro; apply Exists.intro; apply Exists.intro
                     refine ⟨fun wq hq => ?_, fun wq hq => ?_, ?_⟩
                     · (obtain ⟨hc, hf⟩ := bcell hq; go_simp; exact ⟨rfl, rfl⟩)
                     · (first | with_reducible exact (C0 _).mono fun e w'' ⟨he, hw⟩ => ⟨he, hw ▸ hq⟩ | with_reducible exact (C0 _).mono fun e w'' ⟨he, hb'⟩ => ⟨he, bnext hq hb'⟩ |  exact (C0 _).mono fun e w'' ⟨he, hb'⟩ => ⟨he, bnext hq hb'⟩ |  exact (C0 _).mono fun e w'' ⟨he, hw⟩ => ⟨he, hw ▸ hq⟩)
                     go_big_quiet_on
                     simp only [Act.put, List.setIfInBounds_toArray, List.set_cons_zero, List.set_cons_succ])
                  | (go_big_quiet_op; go_big_quiet_on)
                 ))
            refine wpQuiet_nil (fun wq hbq => ?_)
            go_wp2
            go_ret
            exact ⟨by simp [isChain, HF.out], bnext hbw0 hbq (Nat.le_refl _)⟩
      · obtain rfl : k = xs.length := by omega
        go_wp2
        go_ret
        exact ⟨by simp [isChain, G1.out, HN.out], hb0⟩
  · go_enter Try.func37, Try.ntmps37
    go_wp2_with (go_at_call 70; refine (impl_ChartOk_any _ _ c _ ((HR.out.keep (B' := w.heap.size) (by repeat (first | exact Below.refl _ _ | assumption | refine Below.setCell ?_ (by first | omega | (simp <;> omega)) _ | refine Below.alloc ?_ (by first | omega | (simp <;> omega)) _ | refine below_drewN ?_ _ | refine Below.drew ?_ | refine Below.trans ?_ (Below.mono (by assumption) (by first | omega | (simp <;> omega))))) (Nat.le_refl _)).mono (by first | omega | (simp <;> omega))) hok).mono ?_; rintro e w1 ⟨rfl, hb'⟩; (first | have hb := bnext hb hb' | have hb := bnextA hb hb' | have hb := hb'); clear hb'; obtain ⟨hc, hf⟩ := bcell hb; have hz := hb.size; (try simp at hz))
    go_ret
    exact ⟨by simp [isChain, g1], (by repeat (first | exact Below.refl _ _ | assumption | refine Below.setCell ?_ (by first | omega | (simp <;> omega)) _ | refine Below.alloc ?_ (by first | omega | (simp <;> omega)) _ | refine below_drewN ?_ _ | refine Below.drew ?_ | refine Below.trans ?_ (Below.mono (by assumption) (by first | omega | (simp <;> omega)))))⟩
end Go.Proofs.Ytefidlecandnlaa
