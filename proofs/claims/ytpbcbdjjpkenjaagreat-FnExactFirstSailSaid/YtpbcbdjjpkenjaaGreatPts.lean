/- Points of routes. No condition. -/
import Derived.Test.YtpbcbdjjpkenjaaGreatRoute
import Derived.Test.YtpbcbdjjpkenjaaGreatApp
import Derived.Outline
namespace Go.Proofs.YtpbcbdjjpkenjaaGreat
open Go.RowKit
set_option linter.unusedVariables false

def otherEnd (s : SegmentD) (p : Int) : Int := if p = s.a then s.b else if p = s.b then s.a else -1
def hasP (xs : List Int) (n : Int) : Bool := xs.any fun x => decide (x = n)
def lastP (ps : List Int) : Int := ps.getD (ps.length - 1) 0
def nextP (c : ChartD) (ps : List Int) (k : Int) : Int := otherEnd (segAt c k) (lastP ps)
def stepOk (c : ChartD) (ps : List Int) (k : Int) : Bool := inB k 0 ((c.segs.length : Int) - 1) && !(decide (nextP c ps k < 0) || hasP ps (nextP c ps k))
def rtPts (c : ChartD) : List Int → List Int → Option (List Int)
  | ps, [] => some ps
  | ps, k :: r => if stepOk c ps k = true then rtPts c (ps ++ [nextP c ps k]) r else none
theorem rtPts_step {c : ChartD} {ps r : List Int} {k : Nat} {o : Option (List Int)} (h : rtPts c ps (r.drop k) = o) (hk : k < r.length) (hs : stepOk c ps r[k] = true) : rtPts c (ps ++ [nextP c ps r[k]]) (r.drop (k + 1)) = o := by
  rw [List.drop_eq_getElem_cons hk, rtPts, if_pos hs] at h; exact h
theorem rtPts_bad {c : ChartD} {ps r : List Int} {k : Nat} {o : Option (List Int)} (h : rtPts c ps (r.drop k) = o) (hk : k < r.length) (hs : stepOk c ps r[k] = false) : o = none := by
  rw [List.drop_eq_getElem_cons hk, rtPts, if_neg (by rw [hs]; simp)] at h; exact h.symm
theorem rtPts_end {c : ChartD} {ps r : List Int} {o : Option (List Int)} (h : rtPts c ps (r.drop r.length) = o) : o = some ps := by
  rw [List.drop_length, rtPts] at h; exact h.symm
def routeOk (c : ChartD) (p : Int) (r : List Int) : Bool := chartOk c && inB p 0 ((c.points.length : Int) - 1) && (rtPts c [p] r).isSome
def routePts (c : ChartD) (p : Int) (r : List Int) : List Int := if routeOk c p r = true then (rtPts c [p] r).getD [] else []
theorem rtPts_len {c : ChartD} : ∀ {r ps qs : List Int}, rtPts c ps r = some qs → qs.length = ps.length + r.length
  | [], ps, qs, h => by rw [rtPts] at h; have := Option.some.inj h; subst this; simp
  | k :: r, ps, qs, h => by
    rw [rtPts] at h; split at h
    · have := rtPts_len h; simp at this; simp; omega
    · cases h
theorem calls_boolP {P : Program} {f : FuncId} {args : Array Value} {w : World} {R : World → Prop} {b c : Bool} (h : Calls P f args w fun e w' => e = .returned (.bool b) ∧ R w') (hb : b = c) : Calls P f args w fun e w' => e = .returned (.bool c) ∧ R w' := hb ▸ h
set_option maxHeartbeats 2000000 in
theorem l05Other_any (s : SegmentD) (p : Int) (w : World) :
    Calls Tryz.prog 138 #[s.val, .int .i64 p] w fun e w' => e = .returned (.int .i64 (otherEnd s p)) ∧ Below w.heap.size w w' := by
  obtain ⟨s0, s1, s2, s3, s4⟩ := s
  by_cases h0 : p = s0
  · subst h0
    have hp : (p == p) = true := by simp
    go_enter Tryz.func138, Tryz.ntmps138
    go_wp2
    go_ret
    exact ⟨by simp [otherEnd], (by repeat (first | exact Below.refl _ _ | assumption | refine Below.setCell ?_ (by first | omega | (simp <;> omega)) _ | refine Below.alloc ?_ (by first | omega | (simp <;> omega)) _ | refine below_drewN ?_ _ | refine Below.drew ?_ | refine Below.trans ?_ (Below.mono (by assumption) (by first | omega | (simp <;> omega)))))⟩
  · have h0' : (p == s0) = false := by simpa using h0
    by_cases h1 : p = s1
    · subst h1
      have hp : (p == p) = true := by simp
      have H0 := hide h0; clear h0
      go_enter Tryz.func138, Tryz.ntmps138
      go_wp2
      go_ret
      exact ⟨by simp [otherEnd, H0.out], (by repeat (first | exact Below.refl _ _ | assumption | refine Below.setCell ?_ (by first | omega | (simp <;> omega)) _ | refine Below.alloc ?_ (by first | omega | (simp <;> omega)) _ | refine below_drewN ?_ _ | refine Below.drew ?_ | refine Below.trans ?_ (Below.mono (by assumption) (by first | omega | (simp <;> omega)))))⟩
    · have h1' : (p == s1) = false := by simpa using h1
      have H0 := hide h0; have H1 := hide h1; clear h0 h1
      go_enter Tryz.func138, Tryz.ntmps138
      go_wp2
      go_ret
      exact ⟨by simp [otherEnd, H0.out, H1.out], (by repeat (first | exact Below.refl _ _ | assumption | refine Below.setCell ?_ (by first | omega | (simp <;> omega)) _ | refine Below.alloc ?_ (by first | omega | (simp <;> omega)) _ | refine below_drewN ?_ _ | refine Below.drew ?_ | refine Below.trans ?_ (Below.mono (by assumption) (by first | omega | (simp <;> omega)))))⟩
set_option maxHeartbeats 2000000 in
theorem end__any (s : SegmentD) (p : Int) (w : World) :
    Calls Tryz.prog 145 #[s.val, .int .i64 p] w fun e w' => e = .returned (.int .i64 (otherEnd s p)) ∧ Below w.heap.size w w' := by
  obtain ⟨s0, s1, s2, s3, s4⟩ := s
  by_cases h0 : p = s0
  · subst h0
    have hp : (p == p) = true := by simp
    go_enter Tryz.func145, Tryz.ntmps145
    go_wp2
    go_ret
    exact ⟨by simp [otherEnd], (by repeat (first | exact Below.refl _ _ | assumption | refine Below.setCell ?_ (by first | omega | (simp <;> omega)) _ | refine Below.alloc ?_ (by first | omega | (simp <;> omega)) _ | refine below_drewN ?_ _ | refine Below.drew ?_ | refine Below.trans ?_ (Below.mono (by assumption) (by first | omega | (simp <;> omega)))))⟩
  · have h0' : (p == s0) = false := by simpa using h0
    by_cases h1 : p = s1
    · subst h1
      have hp : (p == p) = true := by simp
      have H0 := hide h0; clear h0
      go_enter Tryz.func145, Tryz.ntmps145
      go_wp2
      go_ret
      exact ⟨by simp [otherEnd, H0.out], (by repeat (first | exact Below.refl _ _ | assumption | refine Below.setCell ?_ (by first | omega | (simp <;> omega)) _ | refine Below.alloc ?_ (by first | omega | (simp <;> omega)) _ | refine below_drewN ?_ _ | refine Below.drew ?_ | refine Below.trans ?_ (Below.mono (by assumption) (by first | omega | (simp <;> omega)))))⟩
    · have h1' : (p == s1) = false := by simpa using h1
      have H0 := hide h0; have H1 := hide h1; clear h0 h1
      go_enter Tryz.func145, Tryz.ntmps145
      go_wp2
      go_ret
      exact ⟨by simp [otherEnd, H0.out, H1.out], (by repeat (first | exact Below.refl _ _ | assumption | refine Below.setCell ?_ (by first | omega | (simp <;> omega)) _ | refine Below.alloc ?_ (by first | omega | (simp <;> omega)) _ | refine below_drewN ?_ _ | refine Below.drew ?_ | refine Below.trans ?_ (Below.mono (by assumption) (by first | omega | (simp <;> omega)))))⟩
set_option maxHeartbeats 2000000 in
theorem l05HasP_any (v : Value) (xs : List Int) (n : Int) (w : World) (h1 : RdI w v xs) :
    Calls Tryz.prog 139 #[v, .int .i64 n] w fun e w' => e = .returned (.bool (hasP xs n)) ∧ Below w.heap.size w w' := by
  obtain ⟨A1, c1, rfl, hc1, hm1, h1⟩ := h1
  unfold maxLen at hm1
  go_enter Tryz.func139, Tryz.ntmps139
  go_wp2
  go_loopw [9] (fun i wr => ∃ k : Nat, k ≤ xs.length ∧ i = .int .i64 k ∧ Hid ((xs.drop k).any (fun x => decide (x = n)) = hasP xs n) ∧ Below w.heap.size w wr) (fun i _ => xs.length - (intOf i).toNat)
  case atStart => exact ⟨0, Nat.zero_le _, rfl, hide rfl, (by repeat (first | exact Below.refl _ _ | assumption | refine Below.setCell ?_ (by first | omega | (simp <;> omega)) _ | refine Below.alloc ?_ (by first | omega | (simp <;> omega)) _ | refine below_drewN ?_ _ | refine Below.drew ?_ | refine Below.trans ?_ (Below.mono (by assumption) (by first | omega | (simp <;> omega)))))⟩
  case round =>
    obtain ⟨k, hk, rfl, HN, hb⟩ := hrel
    by_cases hlt : k < xs.length
    · obtain ⟨b1, o1, rfl, hb1, hcell1⟩ := h1 (by omega)
      have e0 : wr.cell? ⟨b1, o1 + k, none⟩ = some (.int .i64 (xs[k])) := by
        rw [hb.cell (p := ⟨b1, _, none⟩) hb1]; have := hcell1 k xs[k] (List.getElem?_eq_getElem hlt) 0 _ rfl; simpa using this
      clear hcell1 h1
      have HD := hide (List.drop_eq_getElem_cons hlt)
      generalize xs[k] = y at *
      rcases ch1 (y == n) with q | q
      · have HQ := hide q
        go_wp2
        go_ret
        have hT : hasP xs n = true := by have h := HN.out; rw [HD.out, List.any_cons, show decide (y = n) = true by simpa using HQ.out, Bool.true_or] at h; exact h.symm
        exact ⟨by rw [hT]; first | done | rfl, (by repeat (first | exact Below.refl _ _ | assumption | refine Below.setCell ?_ (by first | omega | (simp <;> omega)) _ | refine Below.alloc ?_ (by first | omega | (simp <;> omega)) _ | refine below_drewN ?_ _ | refine Below.drew ?_ | refine Below.trans ?_ (Below.mono (by assumption) (by first | omega | (simp <;> omega)))))⟩
      · have HQ := hide q
        go_wp2
        go_roundw
        case rel => exact ⟨k + 1, by omega, by go_num, hide (by have h := HN.out; rw [HD.out, List.any_cons, show decide (y = n) = false by simpa using HQ.out, Bool.false_or] at h; exact h), (by repeat (first | exact Below.refl _ _ | assumption | refine Below.setCell ?_ (by first | omega | (simp <;> omega)) _ | refine Below.alloc ?_ (by first | omega | (simp <;> omega)) _ | refine below_drewN ?_ _ | refine Below.drew ?_ | refine Below.trans ?_ (Below.mono (by assumption) (by first | omega | (simp <;> omega)))))⟩
        case measure => simp [intOf]; omega
    · obtain rfl : k = xs.length := by omega
      go_wp2
      go_ret
      have hT : hasP xs n = false := by have h := HN.out; rw [List.drop_length] at h; exact h.symm
      exact ⟨by rw [hT]; first | done | rfl, hb⟩
theorem rd_int (W : World) (T : TypeId) (x : Int) : Rd (W.alloc (.cells #[.int .i64 x] T)) 1 encI (.slice (some ⟨W.heap.size, 0, none⟩) 1 1) [x] := rd_new (enc := encI) (sz := 1) W x T
theorem own_one (w : World) (T : TypeId) (x : Int) : Own (w.alloc (.cells #[.int .i64 x] T)) w.heap.size T 1 encI (.slice (some ⟨w.heap.size, 0, none⟩) 1 1) [x] :=
  ⟨by simp, .inr ⟨w.heap.size, 1, #[.int .i64 x], rfl, Nat.le_refl _, by show (w.heap.push _)[w.heap.size]? = _; simp, Nat.le_refl _, by simp [maxLen], by simp, by simp⟩⟩
set_option maxRecDepth 100000 in
set_option maxHeartbeats 16000000 in
theorem l05Points_any (v1 v2 v3 : Value) (c : ChartD) (p : Int) (r : List Int) (w : World) (h : RdChart w w.heap.size v1 v2 c) (h3 : RdI w v3 r) (hn : r.length ≤ 1048576) :
    Calls Tryz.prog 113 #[.agg #[v1, v2], .int .i64 p, v3] w fun e w' => ∃ v, e = .returned (.tuple #[v, .bool (rtPts c [p] r).isSome]) ∧ (∀ qs, rtPts c [p] r = some qs → Own w' w.heap.size 3 1 encI v qs) ∧ Below w.heap.size w w' := by
  have HR := hide h; have HR3 := hide h3
  obtain ⟨h1, h2⟩ := h
  obtain ⟨A1, c1, rfl, hc1, hm1, h1⟩ := h1
  obtain ⟨A2, c2, rfl, hc2, hm2, h2⟩ := h2
  obtain ⟨A3, c3, rfl, hc3, hm3, h3⟩ := h3
  unfold maxLen at hm1 hm2 hm3
  clear h1
  have hl1 : (c.points.length : Int) ≤ 9223372036854775807 := by omega
  have hl2 : (c.segs.length : Int) ≤ 9223372036854775807 := by omega
  obtain ⟨i0, hi, hz0, hz1, hz2⟩ := info_parts int_info
  go_enter Tryz.func113, Tryz.ntmps113
  go_wp2
  have HO0 := own_one (w.alloc (.cells #[.slice A1 c.points.length c1, .slice A2 c.segs.length c2] 49)) 3 p
  rw [World.size_alloc] at HO0
  go_loopw [8, 16] (fun u i wr => ∃ (k : Nat) (ps : List Int), k ≤ r.length ∧ i = .int .i64 k ∧ Hid (ps.length = k + 1) ∧ Own wr (w.heap.size + 1) 3 1 encI u ps ∧ Hid (rtPts c ps (r.drop k) = rtPts c [p] r) ∧ wr.cell? ⟨w.heap.size, 0, none⟩ = some (.slice A1 c.points.length c1) ∧ wr.cell? ⟨w.heap.size, 1, none⟩ = some (.slice A2 c.segs.length c2) ∧ w.heap.size < wr.heap.size ∧ Below w.heap.size w wr) (fun _ i _ => r.length - (intOf i).toNat)
  case atStart => exact ⟨0, [p], Nat.zero_le _, rfl, hide rfl, HO0, hide rfl, by simp [go_sem], by simp [go_sem], by simp; omega, (by repeat (first | exact Below.refl _ _ | assumption | refine Below.setCell ?_ (by first | omega | (simp <;> omega)) _ | refine Below.alloc ?_ (by first | omega | (simp <;> omega)) _ | refine below_drewN ?_ _ | refine Below.drew ?_ | refine Below.trans ?_ (Below.mono (by assumption) (by first | omega | (simp <;> omega)))))⟩
  case round =>
    clear HO0
    obtain ⟨k, ps, hk, rfl, HL, HO, HN, y0, y1, hl0, hb0⟩ := hrel
    obtain ⟨wo, rfl⟩ : ∃ wo : World, wo = wr := ⟨_, rfl⟩
    have hbs := hb0.size
    have hpl := HL.out
    obtain ⟨g, cap, hu8, hg, hgs, hcap, hmax⟩ : ∃ g cap, u8 = .slice (some ⟨g, 0, none⟩) ps.length cap ∧ w.heap.size + 1 ≤ g ∧ g < wo.heap.size ∧ ps.length ≤ cap ∧ cap ≤ maxLen := by
      rcases HO.cases with ⟨_, rfl⟩ | h
      · simp at hpl
      · exact h
    subst hu8
    unfold maxLen at hmax
    by_cases hlt : k < r.length
    · obtain ⟨b3, o3, rfl, hb3, hcell3⟩ := h3 (by omega)
      have e0 : wo.cell? ⟨b3, o3 + k, none⟩ = some (.int .i64 (r[k])) := by
        rw [hb0.cell (p := ⟨b3, _, none⟩) hb3]; have := hcell3 k r[k] (List.getElem?_eq_getElem hlt) 0 _ rfl; simpa using this
      have hz3 : b3 < wo.heap.size := by omega
      have hSO := hide (show stepOk c ps r[k] = (inB r[k] 0 ((c.segs.length : Int) - 1) && !(decide (nextP c ps r[k] < 0) || hasP ps (nextP c ps r[k]))) from rfl)
      clear h3 hcell3
      rcases ch1 (inB r[k] 0 ((c.segs.length : Int) - 1)) with q1 | q1
      · have HQ1 := hide q1
        obtain ⟨a, ha, ha2⟩ := idx_nat q1
        obtain ⟨b2, o2, rfl, hb2, hcell2⟩ := h2 (by omega)
        have f0 : wo.cell? ⟨b2, o2 + a * 5, none⟩ = some (.int .i64 c.segs[a].a) := by
          rw [hb0.cell (p := ⟨b2, _, none⟩) hb2]; have := hcell2 a c.segs[a] (List.getElem?_eq_getElem ha2) 0 _ rfl; simpa using this
        have f1 : wo.cell? ⟨b2, o2 + a * 5 + 1, none⟩ = some (.int .i64 c.segs[a].b) := by
          rw [hb0.cell (p := ⟨b2, _, none⟩) hb2]; have := hcell2 a c.segs[a] (List.getElem?_eq_getElem ha2) 1 _ rfl; simpa using this
        have f2 : wo.cell? ⟨b2, o2 + a * 5 + 2, none⟩ = some (.int .i64 c.segs[a].depth) := by
          rw [hb0.cell (p := ⟨b2, _, none⟩) hb2]; have := hcell2 a c.segs[a] (List.getElem?_eq_getElem ha2) 2 _ rfl; simpa using this
        have f3 : wo.cell? ⟨b2, o2 + a * 5 + 3, none⟩ = some (.int .i64 c.segs[a].minutes) := by
          rw [hb0.cell (p := ⟨b2, _, none⟩) hb2]; have := hcell2 a c.segs[a] (List.getElem?_eq_getElem ha2) 3 _ rfl; simpa using this
        have f4 : wo.cell? ⟨b2, o2 + a * 5 + 4, none⟩ = some (.bool c.segs[a].meet) := by
          rw [hb0.cell (p := ⟨b2, _, none⟩) hb2]; have := hcell2 a c.segs[a] (List.getElem?_eq_getElem ha2) 4 _ rfl; simpa using this
        have hz2' : b2 < wo.heap.size := by omega
        have ha3 : (a : Int) < c.segs.length := by omega
        have hkl : k < ps.length := by omega
        obtain ⟨t0, _⟩ := Own.cells (i := k) (j := 0) encI_len HO hkl rfl
        simp only [Nat.mul_one, Nat.add_zero] at t0
        have HLP := hide (show lastP ps = ps[k] by unfold lastP; rw [show ps.length - 1 = k by omega]; simp [List.getD, hkl])
        have HNX := hide (show nextP c ps r[k] = otherEnd c.segs[a] ps[k] by unfold nextP; rw [HLP.out, ha, segAt_nat ha2])
        have HRK := hide ha
        rw [ha] at e0 q1
        have hk1 : (ps.length : Int) - 1 = k := by omega
        have hk2 : IntKind.i64.wrap ((ps.length : Int) - 1) = k := by rw [hk1]; exact IntWalk.i64_in _ (by omega)
        have hk3 : IntKind.i64.wrap (k : Int) = k := IntWalk.i64_in _ (by omega)
        have hk4 : (k : Int) < ps.length := by omega
        clear hcell2 h2 ha hpl
        have hb := Below.refl wo.heap.size wo
        go_wp2_with (go_at_call 105; refine (l01In_any _ _ _ _).mono ?_; rintro e w1 ⟨rfl, hw⟩; obtain rfl := hw.symm)
        have C0 := fun w' : World => calls_int (l05Other_any c.segs[a] ps[k] w') HNX.out.symm
        refine wp_region_below (Below.refl wo.heap.size wo) (by kernel_rfl) (by kernel_rfl) ?_
        repeat (first
          | go_big_quiet_skip
          | (go_big_quiet_want
             first
              | (refine quiet_value ?_; apply Exists.intro
                 refine ⟨fun wq hq => ?_, ?_⟩
                 · (obtain ⟨hc, hf⟩ := bcell hq; go_simp; first | done | rfl)
                 go_big_quiet_on
                 simp only [Act.put, List.setIfInBounds_toArray, List.set_cons_zero, List.set_cons_succ])
              | (refine quiet_call ?_; apply Exists.intro; apply Exists.intro; apply Exists.intro
                 refine ⟨fun wq hq => ?_, fun wq hq => ?_, ?_⟩
                 · (obtain ⟨hc, hf⟩ := bcell hq; go_simp; exact ⟨rfl, rfl⟩)
                 · (first | with_reducible exact (C0 _).mono fun e w'' ⟨he, hw⟩ => ⟨he, hw ▸ hq⟩ | with_reducible exact (C0 _).mono fun e w'' ⟨he, hb'⟩ => ⟨he, bnext hq hb'⟩ |  exact (C0 _).mono fun e w'' ⟨he, hb'⟩ => ⟨he, bnext hq hb'⟩ |  exact (C0 _).mono fun e w'' ⟨he, hw⟩ => ⟨he, hw ▸ hq⟩)
                 go_big_quiet_on
                 simp only [Act.put, List.setIfInBounds_toArray, List.set_cons_zero, List.set_cons_succ])
              | (go_big_quiet_op; go_big_quiet_on)
             ))
        refine wpQuiet_nil (fun w1 hb1 => ?_)
        clear hb C0
        have HO1 := HO.below hb1
        have hrd1 := Own.rd encI_len HO1
        have hb := bnext hb0 hb1 (Nat.le_refl _)
        obtain ⟨hc, hf⟩ := bcell hb; have hz := hb.size
        have hs1 := hb1.size
        have y0' := cellKeep hb1 y0 hl0; have y1' := cellKeep hb1 y1 hl0
        clear y0 y1 e0 f0 f1 f2 f3 f4 t0
        have HBAD := hide (fun h => rtPts_bad HN.out hlt h)
        have HGOOD := hide (fun h => rtPts_step HN.out hlt h)
        generalize hnx : nextP c ps r[k] = nx at *
        clear hnx
        rcases ch2 (!decide (nx < 0)) (!hasP ps nx) with ⟨q2, q3⟩ | q2 | ⟨q2, q3⟩
        · have q2' : ¬ nx < 0 := by simpa using q2
          have q3' : hasP ps nx = false := by simpa using q3
          have HS := hide (show stepOk c ps r[k] = true by rw [hSO.out, HQ1.out]; simp [q3']; omega)
          have hnlt : decide (nx < 0) = false := by simpa using q2'
          clear q2 q3
          go_wp2_with (first
            | (go_at_call 139; with_reducible refine (l05HasP_any _ ps nx _ hrd1).mono ?_; rintro e w2 ⟨rfl, hb2⟩; have HO2 := HO1.below hb2; have hs2 := hb2.size; have hb := bnext hb hb2 (by omega); obtain ⟨hc, hf⟩ := bcell hb)
            | (at_builtin; refine wpList_append_rd _ encI_len encI_one (by rfl) _ _ 71 (by rfl) (w.heap.size + 1) 3 i0 (.int .i64 0) 8 Tryz.underlying71 hi hz0 hz1 hz2 rfl (by decide) _ _ (by rfl) (HO2.below (by repeat (first | exact Below.refl _ _ | assumption | refine Below.setCell ?_ (by first | omega | (simp <;> omega)) _ | refine Below.alloc ?_ (by first | omega | (simp <;> omega)) _ | refine below_drewN ?_ _ | refine Below.drew ?_ | refine Below.trans ?_ (Below.mono (by assumption) (by first | omega | (simp <;> omega)))))) _ (.slice (some ⟨_, 0, none⟩) 1 1) [nx] (by rfl) (rd_int _ 3 _) (by unfold maxLen; have := HL.out; simp; omega) (by have := HL.out; simp; omega) (by first | omega | (simp; omega)) ?_; intro v' w3 hown3 hgrow hblk))
          go_roundw
          case rel =>
            have hB3 : Below (w.heap.size + 1) w1 w3 := (hb2.mono (by omega)).trans (Below.trans (b := w2.alloc (.cells #[.int .i64 nx] 3)) (by repeat (first | exact Below.refl _ _ | assumption | refine Below.setCell ?_ (by first | omega | (simp <;> omega)) _ | refine Below.alloc ?_ (by first | omega | (simp <;> omega)) _ | refine below_drewN ?_ _ | refine Below.drew ?_ | refine Below.trans ?_ (Below.mono (by assumption) (by first | omega | (simp <;> omega))))) (Own.belowGrown (B := w.heap.size + 1) (HO2.below (by repeat (first | exact Below.refl _ _ | assumption | refine Below.setCell ?_ (by first | omega | (simp <;> omega)) _ | refine Below.alloc ?_ (by first | omega | (simp <;> omega)) _ | refine below_drewN ?_ _ | refine Below.drew ?_ | refine Below.trans ?_ (Below.mono (by assumption) (by first | omega | (simp <;> omega)))))) hgrow (Nat.le_refl _) (by simp; omega)))
            have hs3 := hB3.size
            exact ⟨k + 1, ps ++ [nx], by omega, by go_num, hide (by have := HL.out; simp; omega), hown3, hide (HGOOD.out HS.out), cellKeep hB3 y0' (by omega), cellKeep hB3 y1' (by omega), by omega, (hb0.trans (hb1.mono (by omega))).trans (hB3.mono (by omega))⟩
          case measure => simp [intOf]; omega
        · have q2' : nx < 0 := by simpa using q2
          have HS := hide (HBAD.out (show stepOk c ps r[k] = false by rw [hSO.out]; simp [q2']))
          have hnlt : decide (nx < 0) = true := by simpa using q2'
          go_wp2
          go_ret2
          exact ⟨_, by rw [HS.out]; rfl, (fun qs hq => by rw [HS.out] at hq; cases hq), hb⟩
        · have q2' : ¬ nx < 0 := by simpa using q2
          have q3' : hasP ps nx = true := by simpa using q3
          have HS := hide (HBAD.out (show stepOk c ps r[k] = false by rw [hSO.out]; simp [q3']))
          have hnlt : decide (nx < 0) = false := by simpa using q2'
          clear q2 q3
          go_wp2_with (go_at_call 139; with_reducible refine (l05HasP_any _ ps nx _ hrd1).mono ?_; rintro e w2 ⟨rfl, hb2⟩; have hb := bnext hb hb2 (by omega); obtain ⟨hc, hf⟩ := bcell hb)
          go_ret2
          exact ⟨_, by rw [HS.out]; rfl, (fun qs hq => by rw [HS.out] at hq; cases hq), hb⟩
      · have HS := hide (rtPts_bad HN.out hlt (by unfold stepOk; rw [q1]; rfl))
        clear h2
        go_wp2_with (go_at_call 105; refine (l01In_any _ _ _ _).mono ?_; rintro e w1 ⟨rfl, hw⟩; obtain rfl := hw.symm)
        go_ret2
        exact ⟨_, by rw [HS.out]; rfl, (fun qs hq => by rw [HS.out] at hq; cases hq), hb0⟩
    · obtain rfl : k = r.length := by omega
      have HS := hide (rtPts_end HN.out)
      go_wp2
      go_ret2
      exact ⟨_, by rw [HS.out]; rfl, (fun qs hq => by rw [HS.out] at hq; have := Option.some.inj hq; subst this; exact HO.mono (by omega)), hb0⟩
theorem rd_intS (W : World) (p : Addr) (u : Value) (T : TypeId) (x : Int) : Rd ((W.setCell p u).alloc (.cells #[.int .i64 x] T)) 1 encI (.slice (some ⟨W.heap.size, 0, none⟩) 1 1) [x] := by
  have h := rd_int (W.setCell p u) T x
  rwa [show (W.setCell p u).heap.size = W.heap.size by simp [World.setCell]] at h
theorem hasP_snoc (ps : List Int) (x n : Int) : hasP (ps ++ [x]) n = (hasP ps n || decide (x = n)) := by unfold hasP; simp
def ptsRes (c : ChartD) (p : Int) (r : List Int) : Option (List Int) := if inB p 0 ((c.points.length : Int) - 1) = true then rtPts c [p] r else none
theorem otherEnd_range {c : ChartD} (hc : chartOk c = true) {a : Nat} (ha : a < c.segs.length) {p : Int} : otherEnd c.segs[a] p < 0 ∨ ∃ m : Nat, otherEnd c.segs[a] p = m ∧ m < 8 := by
  obtain ⟨h1, h2, h3, h4, -⟩ := chart_seg hc ha
  have h8 := (chart_len hc).1
  unfold otherEnd; split
  · exact .inr ⟨c.segs[a].b.toNat, by omega, by omega⟩
  · split
    · exact .inr ⟨c.segs[a].a.toNat, by omega, by omega⟩
    · exact .inl (by omega)
set_option maxRecDepth 100000 in
set_option maxHeartbeats 16000000 in
theorem points_any (v1 v2 v3 : Value) (c : ChartD) (p : Int) (r : List Int) (w : World) (h : RdChart w w.heap.size v1 v2 c) (h3 : RdI w v3 r) (hn : r.length ≤ 1048576) (hc0 : chartOk c = true) :
    Calls Tryz.prog 140 #[.agg #[v1, v2], .int .i64 p, v3] w fun e w' => ∃ v, e = .returned (.tuple #[v, .bool (ptsRes c p r).isSome]) ∧ (∀ qs, ptsRes c p r = some qs → Own w' w.heap.size 3 1 encI v qs) ∧ (ptsRes c p r = none → v = .slice none 0 0) ∧ Below w.heap.size w w' := by
  have HR := hide h; have HR3 := hide h3
  obtain ⟨h1, h2⟩ := h
  obtain ⟨A1, c1, rfl, hc1, hm1, h1⟩ := h1
  obtain ⟨A2, c2, rfl, hc2, hm2, h2⟩ := h2
  obtain ⟨A3, c3, rfl, hc3, hm3, h3⟩ := h3
  unfold maxLen at hm1 hm2 hm3
  clear h1
  have hl1 : (c.points.length : Int) ≤ 9223372036854775807 := by omega
  have hl2 : (c.segs.length : Int) ≤ 9223372036854775807 := by omega
  have h8 := (chart_len hc0).1
  have HC0 := hide hc0; clear hc0
  obtain ⟨i0, hi, hz0, hz1, hz2⟩ := info_parts int_info
  rcases ch1 (inB p 0 ((c.points.length : Int) - 1)) with g | g
  · obtain ⟨m0, rfl, hm0⟩ := idx_nat g
    have HP := hide (show ptsRes c (m0 : Int) r = rtPts c [(m0 : Int)] r by unfold ptsRes; rw [if_pos g])
    have hm8 : m0 < 8 := by omega
    have hm8' : (m0 : Int) < 8 := by omega
    have hM : ∀ j : Nat, j < 8 → ((w.alloc (.cells #[.slice A1 c.points.length c1, .slice A2 c.segs.length c2] 49)).alloc (.cells #[.bool false, .bool false, .bool false, .bool false, .bool false, .bool false, .bool false, .bool false] 173)).cell? ⟨w.heap.size + 1, j, none⟩ = some (.bool false) ∧ ((w.alloc (.cells #[.slice A1 c.points.length c1, .slice A2 c.segs.length c2] 49)).alloc (.cells #[.bool false, .bool false, .bool false, .bool false, .bool false, .bool false, .bool false, .bool false] 173)).frozen? ⟨w.heap.size + 1, j, none⟩ = false := by
      intro j hj
      have : j = 0 ∨ j = 1 ∨ j = 2 ∨ j = 3 ∨ j = 4 ∨ j = 5 ∨ j = 6 ∨ j = 7 := by omega
      rcases this with rfl | rfl | rfl | rfl | rfl | rfl | rfl | rfl
      all_goals exact ⟨by simp [go_sem], by simp [go_sem]⟩
    obtain ⟨hM1, hM2⟩ := hM m0 hm8
    have HMM := hide hM; clear hM
    go_enter Tryz.func140, Tryz.ntmps140
    go_wp2_with (go_at_call 89; refine (isIndexB _ _ ((c.points.length : Int) - 1) _ (by omega)).mono ?_; rintro e w1 ⟨rfl, hw⟩; obtain rfl := hw.symm)
    have hW : ∀ j : Nat, j < 8 → (((w.alloc (.cells #[.slice A1 c.points.length c1, .slice A2 c.segs.length c2] 49)).alloc (.cells ([.bool false, .bool false, .bool false, .bool false, .bool false, .bool false, .bool false, .bool false].set m0 (.bool true)).toArray 173)).alloc (.cells #[.int .i64 m0] 3)).cell? ⟨w.heap.size + 1, j, none⟩ = some (.bool (hasP [(m0 : Int)] (j : Int))) ∧ (((w.alloc (.cells #[.slice A1 c.points.length c1, .slice A2 c.segs.length c2] 49)).alloc (.cells ([.bool false, .bool false, .bool false, .bool false, .bool false, .bool false, .bool false, .bool false].set m0 (.bool true)).toArray 173)).alloc (.cells #[.int .i64 m0] 3)).frozen? ⟨w.heap.size + 1, j, none⟩ = false := by
      clear HP HR HR3 h2 h3 HMM hM1 hM2
      have e8 : m0 = 0 ∨ m0 = 1 ∨ m0 = 2 ∨ m0 = 3 ∨ m0 = 4 ∨ m0 = 5 ∨ m0 = 6 ∨ m0 = 7 := by omega
      intro j hj
      have f8 : j = 0 ∨ j = 1 ∨ j = 2 ∨ j = 3 ∨ j = 4 ∨ j = 5 ∨ j = 6 ∨ j = 7 := by omega
      rcases e8 with rfl | rfl | rfl | rfl | rfl | rfl | rfl | rfl
      all_goals
        rcases f8 with rfl | rfl | rfl | rfl | rfl | rfl | rfl | rfl
        all_goals exact ⟨by simp [go_sem, hasP], by simp [go_sem]⟩
    have HO0 := own_one ((w.alloc (.cells #[.slice A1 c.points.length c1, .slice A2 c.segs.length c2] 49)).alloc (.cells ([.bool false, .bool false, .bool false, .bool false, .bool false, .bool false, .bool false, .bool false].set m0 (.bool true)).toArray 173)) 3 (m0 : Int)
    simp only [World.size_alloc] at HO0
    have HWW := hide hW; clear hW
    go_loopw [1, 9, 24] (fun fv u i wr => ∃ (k : Nat) (ps : List Int), k ≤ r.length ∧ i = .int .i64 k ∧ fv = .int .i64 (lastP ps) ∧ Hid (ps.length = k + 1) ∧ Own wr (w.heap.size + 1 + 1) 3 1 encI u ps ∧ Hid (rtPts c ps (r.drop k) = rtPts c [(m0 : Int)] r) ∧ wr.cell? ⟨w.heap.size, 0, none⟩ = some (.slice A1 c.points.length c1) ∧ wr.cell? ⟨w.heap.size, 1, none⟩ = some (.slice A2 c.segs.length c2) ∧ w.heap.size + 1 < wr.heap.size ∧ Hid (∀ j : Nat, j < 8 → wr.cell? ⟨w.heap.size + 1, j, none⟩ = some (.bool (hasP ps (j : Int))) ∧ wr.frozen? ⟨w.heap.size + 1, j, none⟩ = false) ∧ Below w.heap.size w wr) (fun _ _ i _ => r.length - (intOf i).toNat)
    case atStart => exact ⟨0, [(m0 : Int)], Nat.zero_le _, rfl, rfl, hide rfl, HO0, hide rfl, by simp [go_sem], by simp [go_sem], by simp, HWW, (by repeat (first | exact Below.refl _ _ | assumption | refine Below.setCell ?_ (by first | omega | (simp <;> omega)) _ | refine Below.alloc ?_ (by first | omega | (simp <;> omega)) _ | refine below_drewN ?_ _ | refine Below.drew ?_ | refine Below.trans ?_ (Below.mono (by assumption) (by first | omega | (simp <;> omega)))))⟩
    case round =>
      clear HO0 HWW
      obtain ⟨k, ps, hk, rfl, rfl, HL, HO, HN, y0, y1, hl0, HMT, hb0⟩ := hrel
      obtain ⟨wo, rfl⟩ : ∃ wo : World, wo = wr := ⟨_, rfl⟩
      have hbs := hb0.size
      by_cases hlt : k < r.length
      · obtain ⟨b3, o3, rfl, hb3, hcell3⟩ := h3 (by omega)
        have e0 : wo.cell? ⟨b3, o3 + k, none⟩ = some (.int .i64 (r[k])) := by
          rw [hb0.cell (p := ⟨b3, _, none⟩) hb3]; have := hcell3 k r[k] (List.getElem?_eq_getElem hlt) 0 _ rfl; simpa using this
        have hz3 : b3 < wo.heap.size := by omega
        have hSO := hide (show stepOk c ps r[k] = (inB r[k] 0 ((c.segs.length : Int) - 1) && !(decide (nextP c ps r[k] < 0) || hasP ps (nextP c ps r[k]))) from rfl)
        clear h3 hcell3
        rcases ch1 (inB r[k] 0 ((c.segs.length : Int) - 1)) with q1 | q1
        · have HQ1 := hide q1
          obtain ⟨a, ha, ha2⟩ := idx_nat q1
          obtain ⟨b2, o2, rfl, hb2, hcell2⟩ := h2 (by omega)
          have f0 : wo.cell? ⟨b2, o2 + a * 5, none⟩ = some (.int .i64 c.segs[a].a) := by
            rw [hb0.cell (p := ⟨b2, _, none⟩) hb2]; have := hcell2 a c.segs[a] (List.getElem?_eq_getElem ha2) 0 _ rfl; simpa using this
          have f1 : wo.cell? ⟨b2, o2 + a * 5 + 1, none⟩ = some (.int .i64 c.segs[a].b) := by
            rw [hb0.cell (p := ⟨b2, _, none⟩) hb2]; have := hcell2 a c.segs[a] (List.getElem?_eq_getElem ha2) 1 _ rfl; simpa using this
          have f2 : wo.cell? ⟨b2, o2 + a * 5 + 2, none⟩ = some (.int .i64 c.segs[a].depth) := by
            rw [hb0.cell (p := ⟨b2, _, none⟩) hb2]; have := hcell2 a c.segs[a] (List.getElem?_eq_getElem ha2) 2 _ rfl; simpa using this
          have f3 : wo.cell? ⟨b2, o2 + a * 5 + 3, none⟩ = some (.int .i64 c.segs[a].minutes) := by
            rw [hb0.cell (p := ⟨b2, _, none⟩) hb2]; have := hcell2 a c.segs[a] (List.getElem?_eq_getElem ha2) 3 _ rfl; simpa using this
          have f4 : wo.cell? ⟨b2, o2 + a * 5 + 4, none⟩ = some (.bool c.segs[a].meet) := by
            rw [hb0.cell (p := ⟨b2, _, none⟩) hb2]; have := hcell2 a c.segs[a] (List.getElem?_eq_getElem ha2) 4 _ rfl; simpa using this
          have hz2' : b2 < wo.heap.size := by omega
          have ha3 : (a : Int) < c.segs.length := by omega
          have HNX := hide (show nextP c ps r[k] = otherEnd c.segs[a] (lastP ps) by unfold nextP; rw [ha, segAt_nat ha2])
          have hrange := otherEnd_range HC0.out ha2 (p := lastP ps)
          rw [← HNX.out] at hrange
          rw [ha] at e0 q1
          have HBAD := hide (fun h => rtPts_bad HN.out hlt h)
          have HGOOD := hide (fun h => rtPts_step HN.out hlt h)
          clear hcell2 h2 ha
          generalize hnx : nextP c ps r[k] = nx at *
          clear hnx
          have hl00 : w.heap.size < wo.heap.size := by omega
          rcases hrange with q2 | ⟨m, rfl, hm8n⟩
          · have HS := hide (HBAD.out (show stepOk c ps r[k] = false by rw [hSO.out]; simp [q2]))
            have hnlt : decide (nx < 0) = true := by simpa using q2
            have hb := Below.refl wo.heap.size wo
            go_wp2_with (first
              | (go_at_call 89; refine (isIndexB _ _ ((c.segs.length : Int) - 1) _ (by omega)).mono ?_; rintro e w1 ⟨rfl, hw⟩; obtain rfl := hw.symm)
              | (go_at_call 145; with_reducible refine (calls_int (end__any c.segs[a] (lastP ps) _) HNX.out.symm).mono ?_; rintro e w1 ⟨rfl, hb'⟩; (first | have hb := bnext hb hb' | have hb := bnextA hb hb' | have hb := hb'); clear hb'; obtain ⟨hc, hf⟩ := bcell hb; have hz := hb.size; (try simp at hz)))
            go_ret2
            exact ⟨_, by rw [HP.out, HS.out]; rfl, (fun qs hq => by rw [HP.out, HS.out] at hq; cases hq), (fun _ => rfl), hb0.trans (hb.mono hbs)⟩
          · have hmi : (m : Int) < 8 := by omega
            have hnlt : decide ((m : Int) < 0) = false := by simp
            have hb := Below.refl wo.heap.size wo
            obtain ⟨t0, t1⟩ := HMT.out m hm8n
            rcases ch1 (hasP ps (m : Int)) with q3 | q3
            · have HS := hide (HBAD.out (show stepOk c ps r[k] = false by rw [hSO.out]; simp [q3]))
              rw [q3] at t0
              go_wp2_with (first
                | (go_at_call 89; refine (isIndexB _ _ ((c.segs.length : Int) - 1) _ (by omega)).mono ?_; rintro e w1 ⟨rfl, hw⟩; obtain rfl := hw.symm)
                | (go_at_call 145; with_reducible refine (calls_int (end__any c.segs[a] (lastP ps) _) HNX.out.symm).mono ?_; rintro e w1 ⟨rfl, hb'⟩; (first | have hb := bnext hb hb' | have hb := bnextA hb hb' | have hb := hb'); clear hb'; obtain ⟨hc, hf⟩ := bcell hb; have hz := hb.size; (try simp at hz)))
              go_ret2
              exact ⟨_, by rw [HP.out, HS.out]; rfl, (fun qs hq => by rw [HP.out, HS.out] at hq; cases hq), (fun _ => rfl), hb0.trans (hb.mono hbs)⟩
            · have HS := hide (show stepOk c ps r[k] = true by rw [hSO.out, HQ1.out]; simp [q3])
              rw [q3] at t0
              have HNEo := hide (show ∀ g, u9.ownBlock = some g → w.heap.size + 1 + 1 ≤ g from fun g hg => (World.ownsRow.lt HO g hg).1)
              have HNE := hide (show u9.ownBlock ≠ some (w.heap.size + 1) from fun e => by have := HNEo.out _ e; omega)
              go_wp2_with (first
                | (go_at_call 89; refine (isIndexB _ _ ((c.segs.length : Int) - 1) _ (by omega)).mono ?_; rintro e w1 ⟨rfl, hw⟩; obtain rfl := hw.symm)
                | (go_at_call 145; with_reducible refine (calls_int (end__any c.segs[a] (lastP ps) _) HNX.out.symm).mono ?_; rintro e w1 ⟨rfl, hb'⟩; have HO1 := HO.below hb'; have hB1 := hb'; have hs1 := hb'.size; (first | have hb := bnext hb hb' | have hb := bnextA hb hb' | have hb := hb'); clear hb'; obtain ⟨hc, hf⟩ := bcell hb; have hz := hb.size; (try simp at hz))
                | (at_builtin; refine wpList_append_rd _ encI_len encI_one (by rfl) _ _ 71 (by rfl) (w.heap.size + 1 + 1) 3 i0 (.int .i64 0) 8 Tryz.underlying71 hi hz0 hz1 hz2 rfl (by decide) _ _ (by rfl) ((HO1.setFar (p := ⟨w.heap.size + 1, m, none⟩) HNE.out _).below (by repeat (first | exact Below.refl _ _ | assumption | refine Below.setCell ?_ (by first | omega | (simp <;> omega)) _ | refine Below.alloc ?_ (by first | omega | (simp <;> omega)) _ | refine below_drewN ?_ _ | refine Below.drew ?_ | refine Below.trans ?_ (Below.mono (by assumption) (by first | omega | (simp <;> omega)))))) _ (.slice (some ⟨_, 0, none⟩) 1 1) [(m : Int)] (by rfl) (rd_intS _ _ _ 3 _) (by unfold maxLen; have := HL.out; simp; omega) (by have := HL.out; simp; omega) (by first | omega | (simp [World.setCell]; omega)) ?_; intro v' w3 hown3 hgrow hblk))
              go_roundw
              case rel =>
                have hB2 : Below (w.heap.size + 1 + 1) (w1.setCell ⟨w.heap.size + 1, m, none⟩ (.bool true)) w3 := Below.trans (b := (w1.setCell ⟨w.heap.size + 1, m, none⟩ (.bool true)).alloc (.cells #[.int .i64 m] 3)) ((Below.refl _ _).alloc (by simp [World.setCell]; omega) _) (Own.belowGrown (B := w.heap.size + 1 + 1) ((HO1.setFar (p := ⟨w.heap.size + 1, m, none⟩) HNE.out _).below (by repeat (first | exact Below.refl _ _ | assumption | refine Below.setCell ?_ (by first | omega | (simp <;> omega)) _ | refine Below.alloc ?_ (by first | omega | (simp <;> omega)) _ | refine below_drewN ?_ _ | refine Below.drew ?_ | refine Below.trans ?_ (Below.mono (by assumption) (by first | omega | (simp <;> omega)))))) hgrow (Nat.le_refl _) (by simp [World.setCell]; omega))
                have hs3 := hB2.size
                rw [show (w1.setCell ⟨w.heap.size + 1, m, none⟩ (.bool true)).heap.size = w1.heap.size by simp [World.setCell]] at hs3
                have hB01 : Below w.heap.size w w1 := hb0.trans (hB1.mono hbs)
                have hB12 : Below w.heap.size w1 (w1.setCell ⟨w.heap.size + 1, m, none⟩ (.bool true)) := (by repeat (first | exact Below.refl _ _ | assumption | refine Below.setCell ?_ (by first | omega | (simp <;> omega)) _ | refine Below.alloc ?_ (by first | omega | (simp <;> omega)) _ | refine below_drewN ?_ _ | refine Below.drew ?_ | refine Below.trans ?_ (Below.mono (by assumption) (by first | omega | (simp <;> omega)))))
                have hBA : Below w.heap.size w w3 := (hB01.trans hB12).trans (hB2.mono (by omega))
                have hb13 : Below (w.heap.size + 1) w1 w3 := Below.trans (b := w1.setCell ⟨w.heap.size + 1, m, none⟩ (.bool true)) (by repeat (first | exact Below.refl _ _ | assumption | refine Below.setCell ?_ (by first | omega | (simp <;> omega)) _ | refine Below.alloc ?_ (by first | omega | (simp <;> omega)) _ | refine below_drewN ?_ _ | refine Below.drew ?_ | refine Below.trans ?_ (Below.mono (by assumption) (by first | omega | (simp <;> omega))))) (hB2.mono (by omega))
                have ym : ∀ j : Nat, j < 8 → w3.cell? ⟨w.heap.size + 1, j, none⟩ = some (.bool (hasP (ps ++ [(m : Int)]) (j : Int))) ∧ w3.frozen? ⟨w.heap.size + 1, j, none⟩ = false := by
                  intro j hj
                  obtain ⟨s0, s1⟩ := HMT.out j hj
                  have s2 := cellKeep hB1 s0 (by omega)
                  have s3 : w1.frozen? ⟨w.heap.size + 1, j, none⟩ = false := by rw [(bcell hB1).2 _ _ (by omega)]; exact s1
                  rw [hB2.cell (p := ⟨w.heap.size + 1, j, none⟩) (by show w.heap.size + 1 < w.heap.size + 1 + 1; omega), (bcell hB2).2 _ _ (by omega), hasP_snoc]
                  by_cases e : m = j
                  · subst e
                    refine ⟨?_, ?_⟩
                    · rw [World.cell?_setCell_same _ _ _ (by rw [s2])]; simp
                    · simp [go_sem, s3]
                  · refine ⟨?_, ?_⟩
                    · rw [World.cell?_setCell_other _ _ _ _ (fun h => e (by (try simp at h); first | done | exact h))]
                      rw [s2]; simp; intro h; omega
                    · simp [go_sem, s3]
                exact ⟨k + 1, ps ++ [(m : Int)], by omega, by go_num, by unfold lastP; simp, hide (by have := HL.out; simp; omega), hown3, hide (HGOOD.out HS.out), cellKeep hb13 (cellKeep hB1 y0 hl00) (by omega), cellKeep hb13 (cellKeep hB1 y1 hl00) (by omega), by omega, hide ym, hBA⟩
              case measure => simp [intOf]; omega
        · have HS := hide (rtPts_bad HN.out hlt (by unfold stepOk; rw [q1]; rfl))
          clear h2
          go_wp2_with (go_at_call 89; refine (isIndexB _ _ ((c.segs.length : Int) - 1) _ (by omega)).mono ?_; rintro e w1 ⟨rfl, hw⟩; obtain rfl := hw.symm)
          go_ret2
          exact ⟨_, by rw [HP.out, HS.out]; rfl, (fun qs hq => by rw [HP.out, HS.out] at hq; cases hq), (fun _ => rfl), hb0⟩
      · obtain rfl : k = r.length := by omega
        have HS := hide (rtPts_end HN.out)
        go_wp2
        go_ret2
        exact ⟨_, by rw [HP.out, HS.out]; rfl, (fun qs hq => by rw [HP.out, HS.out] at hq; have := Option.some.inj hq; subst this; exact HO.mono (by omega)), (fun hq => by rw [HP.out, HS.out] at hq; cases hq), hb0⟩
  · have HP := hide (show ptsRes c p r = none by unfold ptsRes; rw [if_neg (by rw [g]; simp)])
    go_enter Tryz.func140, Tryz.ntmps140
    go_wp2_with (go_at_call 89; refine (isIndexB _ _ ((c.points.length : Int) - 1) _ (by omega)).mono ?_; rintro e w1 ⟨rfl, hw⟩; obtain rfl := hw.symm)
    go_ret2
    exact ⟨_, by rw [HP.out]; rfl, (fun qs hq => by rw [HP.out] at hq; cases hq), (fun _ => rfl), (by repeat (first | exact Below.refl _ _ | assumption | refine Below.setCell ?_ (by first | omega | (simp <;> omega)) _ | refine Below.alloc ?_ (by first | omega | (simp <;> omega)) _ | refine below_drewN ?_ _ | refine Below.drew ?_ | refine Below.trans ?_ (Below.mono (by assumption) (by first | omega | (simp <;> omega)))))⟩
end Go.Proofs.YtpbcbdjjpkenjaaGreat
