/- Sailing a route with known windows, in plain words. No condition. -/
import Derived.Test.YtpbcbdjjpkenjaaGreatStarts2
import Derived.Test.YtpbcbdjjpkenjaaGreatPaso
namespace Go.Proofs.YtpbcbdjjpkenjaaGreat
open Go.RowKit
set_option linter.unusedVariables false
/-- the next minute in windows from m on, or -1 -/
def nextMin : List WindowD → Int → Int
  | [], _ => -1
  | x :: xs, m => if m ≤ x.fin then max x.start m else nextMin xs m
theorem nextMin_step {xs : List WindowD} {m : Int} {k : Nat} (h : k < xs.length) : nextMin (xs.drop k) m = if m ≤ xs[k].fin then max xs[k].start m else nextMin (xs.drop (k + 1)) m := by
  rw [List.drop_eq_getElem_cons h]; rfl
theorem nextMin_range {xs : List WindowD} {m : Int} (hx : ∀ x ∈ xs, 0 ≤ x.start ∧ x.start ≤ x.fin ∧ x.fin ≤ 2880) : nextMin xs m = -1 ∨ (m ≤ nextMin xs m ∧ 0 ≤ nextMin xs m ∧ nextMin xs m ≤ 2880) := by
  induction xs with
  | nil => exact .inl rfl
  | cons x xs ih =>
    rw [nextMin]
    have h1 := hx x List.mem_cons_self
    split
    · exact .inr (by omega)
    · exact ih (fun y hy => hx y (List.mem_cons_of_mem _ hy))
theorem shrinkL_sub (n : Int) (xs : List WindowD) : ∀ y ∈ shrinkL n xs, ∃ x ∈ xs, y.start = x.start ∧ y.fin = x.fin - n ∧ n ≤ x.fin - x.start := by
  intro y hy
  unfold shrinkL at hy
  obtain ⟨x, hx, rfl⟩ := List.mem_map.1 hy
  rw [List.mem_filter] at hx
  exact ⟨x, hx.1, rfl, rfl, by simpa using hx.2⟩
theorem winOk_pair {xs : List WindowD} {B : Int} (h : WinOk xs B) : xs.Pairwise fun a b => a.fin + 1 < b.start := by
  rw [List.pairwise_iff_getElem]
  intro i j hi hj hij
  induction j with
  | zero => omega
  | succ j ih =>
    by_cases e : i = j
    · subst e; exact h.2 i hj
    · have h1 := ih (by omega) (by omega)
      have h2 := h.2 j hj
      have h3 := h.1 j (by omega)
      omega
theorem winOk_of {xs : List WindowD} {B : Int} (h1 : ∀ x ∈ xs, 0 ≤ x.start ∧ x.start ≤ x.fin ∧ x.fin < B) (h2 : xs.Pairwise fun a b => a.fin + 1 < b.start) : WinOk xs B :=
  ⟨fun i hi => h1 _ (List.getElem_mem hi), fun i hi => (List.pairwise_iff_getElem.1 h2) i (i + 1) (by omega) hi (by omega)⟩
theorem shrinkL_ok {n : Int} {xs : List WindowD} {B : Int} (hn : 0 ≤ n) (h : WinOk xs B) : WinOk (shrinkL n xs) B := by
  refine winOk_of (fun y hy => ?_) ?_
  · obtain ⟨x, hx, e1, e2, e3⟩ := shrinkL_sub n xs y hy
    obtain ⟨i, hi, rfl⟩ := List.getElem_of_mem hx
    have := h.1 i hi
    omega
  · unfold shrinkL
    rw [List.pairwise_map]
    refine ((winOk_pair h).filter _).imp ?_
    intro a b hab
    show a.fin - n + 1 < b.start
    omega
theorem startsOf_ok (hi : Bool) (f : ForeD) (c : ChartD) (k : Int) (s : ShipD) : WinOk (startsOf hi f c k s) 2881 := by
  unfold startsOf
  split
  · rename_i h
    have hm := minutes_range c k s
    obtain ⟨h1, h2⟩ := wins_ok (accL hi f (levelFor c k s))
    exact shrinkL_ok hm.1 ⟨h1, h2⟩
  · exact ⟨fun i h => by simp at h, fun i h => by simp at h⟩
/-- the minutes at which the first i + 1 segments begin -/
def sailTo (ws : Nat → List WindowD) (mins : Nat → Int) (waits : Nat → Bool) (start : Int) : Nat → Option (List Int)
  | 0 => if hasMin (ws 0) start = true then some [start] else none
  | i + 1 => match sailTo ws mins waits start i with
    | none => none
    | some l => if nextMin (ws (i + 1)) (lastP l + mins i) < 0 ∨ (nextMin (ws (i + 1)) (lastP l + mins i) ≠ lastP l + mins i ∧ waits (i + 1) = false) then none else some (l ++ [nextMin (ws (i + 1)) (lastP l + mins i)])
theorem lastP_snoc (l : List Int) (x : Int) : lastP (l ++ [x]) = x := by unfold lastP; simp [List.getD]
theorem sailTo_none {ws : Nat → List WindowD} {mins : Nat → Int} {waits : Nat → Bool} {start : Int} {i : Nat} (h : sailTo ws mins waits start i = none) : ∀ {j : Nat}, i ≤ j → sailTo ws mins waits start j = none
  | 0, hj => by
    have e : i = 0 := by omega
    subst e; exact h
  | j + 1, hj => by
    by_cases e : i = j + 1
    · subst e; exact h
    · rw [sailTo, sailTo_none h (j := j) (by omega)]
theorem sailTo_len {ws : Nat → List WindowD} {mins : Nat → Int} {waits : Nat → Bool} {start : Int} : ∀ {i : Nat} {l : List Int}, sailTo ws mins waits start i = some l → l.length = i + 1
  | 0, l, h => by
    rw [sailTo] at h
    split at h
    · cases h; rfl
    · cases h
  | i + 1, l, h => by
    rw [sailTo] at h
    cases e : sailTo ws mins waits start i with
    | none => rw [e] at h; cases h
    | some q =>
      rw [e] at h
      simp only at h
      split at h
      · cases h
      · cases h; rw [List.length_append, sailTo_len e]; rfl
/-- the windows, the minutes and the waits of a route -/
def rWins (f : ForeD) (c : ChartD) (s : ShipD) (r : List Int) (i : Nat) : List WindowD := startsOf false f c (r.getD i default) s
def rMins (c : ChartD) (s : ShipD) (r : List Int) (i : Nat) : Int := shipMinutes (segAt c (r.getD i default)) s
def rWait (c : ChartD) (pts : List Int) (i : Nat) : Bool := (c.points.getD (pts.getD i default).toNat default).wait
def sailOk (f : ForeD) (c : ChartD) (s : ShipD) (p : Int) (r : List Int) : Bool := foreOk f && shipOk s && routeOk c p r && !decide (r.length = 0)
def sailFrom (f : ForeD) (c : ChartD) (s : ShipD) (p : Int) (r : List Int) (start : Int) : Option (List Int) := sailTo (rWins f c s r) (rMins c s r) (rWait c (routePts c p r)) start (r.length - 1)
def sailRoute (f : ForeD) (c : ChartD) (s : ShipD) (p : Int) (r : List Int) (start : Int) : Option (List Int) := if sailOk f c s p r = true then sailFrom f c s p r start else none
/-- the first that sails among m, m + 1, .. (n of them) -/
def firstFrom (g : Int → Option (List Int)) (m : Int) : Nat → Option (List Int)
  | 0 => none
  | n + 1 => match g m with
    | some l => some l
    | none => firstFrom g (m + 1) n
def firstSail (f : ForeD) (c : ChartD) (s : ShipD) (p : Int) (r : List Int) (ready : Int) : Option (List Int) := if sailOk f c s p r = true then firstFrom (sailFrom f c s p r) (max 0 ready) (2881 - max 0 ready).toNat else none
theorem rt_pts {c : ChartD} (hc : chartOk c = true) : ∀ {r ps qs : List Int}, rtPts c ps r = some qs → (∀ x ∈ ps, 0 ≤ x ∧ x < c.points.length) → ∀ x ∈ qs, 0 ≤ x ∧ x < c.points.length
  | [], ps, qs, h, hp => by rw [rtPts] at h; cases h; exact hp
  | k :: r, ps, qs, h, hp => by
    rw [rtPts] at h
    split at h
    · rename_i hs
      refine rt_pts hc h ?_
      intro x hx
      rcases List.mem_append.1 hx with hx | hx
      · exact hp x hx
      · simp at hx; subst hx
        unfold stepOk at hs
        simp only [Bool.and_eq_true, Bool.not_eq_true', Bool.or_eq_false_iff, decide_eq_false_iff_not] at hs
        obtain ⟨a, rfl, ha⟩ := idx_nat hs.1
        obtain ⟨q0, q1, q2, q3, -⟩ := chart_seg hc ha
        have h0 := hs.2.1
        unfold nextP otherEnd at h0 ⊢
        rw [segAt_nat ha] at h0 ⊢
        split
        · exact ⟨q2, q3⟩
        · rename_i e1
          rw [if_neg e1] at h0
          split
          · exact ⟨q0, q1⟩
          · rename_i e2
            rw [if_neg e2] at h0
            exact absurd (by omega : (-1 : Int) < 0) h0
    · cases h
theorem route_pts {c : ChartD} {p : Int} {r : List Int} (h : routeOk c p r = true) : ∀ x ∈ routePts c p r, 0 ≤ x ∧ x < c.points.length := by
  have h' := h
  unfold routeOk at h
  simp only [Bool.and_eq_true, inB, decide_eq_true_eq] at h
  obtain ⟨⟨hc, hp0, hp1⟩, hs⟩ := h
  cases e : rtPts c [p] r with
  | none => rw [e] at hs; cases hs
  | some qs =>
    have : routePts c p r = qs := by unfold routePts; rw [if_pos h', e]; rfl
    rw [this]
    exact rt_pts hc e (by intro x hx; simp at hx; omega)
/-! ### slices of slices of windows -/
structure WinR where
  v : Value
  xs : List WindowD
def WinR.enc (x : WinR) : List Value := [x.v]
theorem WinR.enc_len (x : WinR) : x.enc.length = 1 := rfl
def RdWW (w : World) (B : Nat) (v : Value) (rs : List WinR) : Prop := RdB w B 1 WinR.enc v rs ∧ ∀ r ∈ rs, RdB w B 2 WindowD.enc r.v r.xs
theorem RdWW.keep {w w' : World} {B B' : Nat} {v : Value} {rs : List WinR} (h : RdWW w B v rs) (hb : Below B' w w') (hB : B ≤ B') : RdWW w' B v rs := ⟨h.1.keep hb hB, fun r hr => (h.2 r hr).keep hb hB⟩
theorem RdWW.mono {w : World} {B B' : Nat} {v : Value} {rs : List WinR} (h : RdWW w B v rs) (hB : B ≤ B') : RdWW w B' v rs := ⟨h.1.mono hB, fun r hr => (h.2 r hr).mono hB⟩
def OwnWW (w : World) (base : Nat) (v : Value) (rs : List WinR) : Prop := Own w base 37 1 WinR.enc v rs ∧ ∀ r ∈ rs, Own w base 94 2 WindowD.enc r.v r.xs
theorem OwnWW.rd {w : World} {base : Nat} {v : Value} {rs : List WinR} (h : OwnWW w base v rs) : RdWW w w.heap.size v rs := ⟨Own.rd WinR.enc_len h.1, fun r hr => Own.rd WindowD.enc_len (h.2 r hr)⟩
theorem OwnWW.below {w w' : World} {base : Nat} {v : Value} {rs : List WinR} (h : OwnWW w base v rs) (hb : Below w.heap.size w w') : OwnWW w' base v rs := ⟨h.1.below hb, fun r hr => (h.2 r hr).below hb⟩
theorem OwnWW.mono {w : World} {base base' : Nat} {v : Value} {rs : List WinR} (h : OwnWW w base v rs) (hb : base' ≤ base) : OwnWW w base' v rs := ⟨h.1.mono hb, fun r hr => (h.2 r hr).mono hb⟩
theorem rowKeepW {w w' : World} {base sz n : Nat} {T : TypeId} {v : Value} {cs : List Value} {r : Option Nat} (h : w.ownsRow base T sz v n cs) (hg : w.grownBy w' r) (hne : ∀ g, v.ownBlock = some g → r ≠ some g) : w'.ownsRow base T sz v n cs :=
  World.ownsRow.kept h hg (by cases hv : v.ownBlock with | none => exact .inl rfl | some g => exact .inr (fun e => hne g hv e.symm))
theorem types_neW {w : World} {base base' sz sz' n n' : Nat} {T T' : TypeId} {v v' : Value} {cs cs' : List Value} (h : w.ownsRow base T sz v n cs) (h' : w.ownsRow base' T' sz' v' n' cs') (hT : T ≠ T') : ∀ g, v.ownBlock = some g → v'.ownBlock ≠ some g := by
  intro g hg hg'
  rcases h.2 with ⟨rfl, _⟩ | ⟨g1, _, cur1, rfl, _, e1, _⟩
  · simp [Value.ownBlock] at hg
  rcases h'.2 with ⟨rfl, _⟩ | ⟨g2, _, cur2, rfl, _, e2, _⟩
  · simp [Value.ownBlock] at hg'
  simp [Value.ownBlock] at hg hg'
  subst hg; subst hg'
  rw [e1] at e2
  simp at e2
  exact hT e2.2
theorem OwnWW.snoc {w w' : World} {base : Nat} {v v' : Value} {rs : List WinR} {r : WinR} (h : OwnWW w base v rs) (hr : Own w base 94 2 WindowD.enc r.v r.xs)
    (ho : Own w' base 37 1 WinR.enc v' (rs ++ [r])) (hg : w.grownBy w' v.ownBlock) : OwnWW w' base v' (rs ++ [r]) := by
  refine ⟨ho, fun a ha => ?_⟩
  have key : ∀ a : WinR, Own w base 94 2 WindowD.enc a.v a.xs → Own w' base 94 2 WindowD.enc a.v a.xs := fun a h2 => rowKeepW h2 hg (types_neW h2 h.1 (by decide))
  rcases List.mem_append.1 ha with ha | ha
  · exact key a (h.2 a ha)
  · simp at ha; subst ha; exact key a hr
theorem winr_one (x : WinR) (hv : ∃ A n c, x.v = .slice A n c) : ∀ u ∈ WinR.enc x, u.oneCell' = true := by
  obtain ⟨A, n, c, hv⟩ := hv
  intro u hu; simp [WinR.enc] at hu; subst hu; rw [hv]; rfl
theorem winr_info : (Tryz.prog.info? 37).map (fun i => (i.zero, i.size, i.bytes)) = some (some (.slice none 0 0), 1, 24) := by kernel_rfl
set_option maxRecDepth 100000 in
set_option maxHeartbeats 8000000 in
theorem spec_NextMinute_any (v : Value) (xs : List WindowD) (m : Int) (w : World) (h1 : RdWindow w v xs) (hok : WinOk xs 2881) :
    Calls Tryz.prog 115 #[v, .int .i64 m] w fun e w' => e = .returned (.int .i64 (nextMin xs m)) ∧ Below w.heap.size w w' := by
  have HR1 := hide h1
  obtain ⟨A1, c1, rfl, hc1, hm1, h1⟩ := h1
  unfold maxLen at hm1
  have H1 := hide h1; clear h1
  have HW := hide hok; clear hok
  go_enter Tryz.func115, Tryz.ntmps115
  go_wp2_with (go_at_call 119; with_reducible refine (spec_WindowsOk_any _ xs _ ((RdB.keep HR1.out (B' := w.heap.size) (by repeat (first | exact Below.refl _ _ | assumption | refine Below.setCell ?_ (by first | omega | (simp <;> omega)) _ | refine Below.alloc ?_ (by first | omega | (simp <;> omega)) _ | refine below_drewN ?_ _ | refine Below.drew ?_ | refine Below.trans ?_ (Below.mono (by assumption) (by first | omega | (simp <;> omega))))) (Nat.le_refl _)).mono (by first | omega | (simp <;> omega))) HW.out).mono ?_; rintro e w1 ⟨rfl, hb'⟩; (first | have hb := bnext hb hb' | have hb := bnextA hb hb' | have hb := hb'); clear hb'; obtain ⟨hc, hf⟩ := bcell hb; have hz := hb.size; (try simp at hz))
  clear hc hf hz
  go_loopw [12] (fun s wr => ∃ k : Nat, k ≤ xs.length ∧ s = .int .i64 k ∧ Hid (nextMin (xs.drop k) m = nextMin xs m) ∧ Below w.heap.size w wr) (fun s _ => xs.length - (intOf s).toNat)
  case atStart => exact ⟨0, Nat.zero_le _, rfl, hide rfl, hb⟩
  case round =>
    clear hb
    obtain ⟨k, hk, rfl, HN, hbk⟩ := hrel
    obtain ⟨wo, rfl⟩ : ∃ wo : World, wo = wr := ⟨_, rfl⟩
    have hbs := hbk.size
    by_cases hlt : k < xs.length
    · obtain ⟨b1, o1, rfl, hb1, hcell1⟩ := H1.out (by omega)
      have e0 : wo.cell? ⟨b1, o1 + k * 2, none⟩ = some (.int .i64 xs[k].start) := by
        rw [hbk.cell (p := ⟨b1, _, none⟩) hb1]; have := hcell1 k xs[k] (List.getElem?_eq_getElem hlt) 0 _ rfl; simpa using this
      have e1 : wo.cell? ⟨b1, o1 + k * 2 + 1, none⟩ = some (.int .i64 xs[k].fin) := by
        rw [hbk.cell (p := ⟨b1, _, none⟩) hb1]; have := hcell1 k xs[k] (List.getElem?_eq_getElem hlt) 1 _ rfl; simpa using this
      have HT := hide (nextMin_step (m := m) hlt)
      obtain ⟨x, hxe⟩ : ∃ x, xs[k] = x := ⟨_, rfl⟩
      simp only [hxe] at e0 e1 HT
      clear hcell1 hxe
      have hB0 : Below wo.heap.size wo (wo.alloc (.cells #[.int .i64 x.start, .int .i64 x.fin] 94)) := (Below.refl _ _).alloc (Nat.le_refl _) _
      by_cases hfit : m ≤ x.fin
      · have HE := hide (show nextMin xs m = max x.start m by rw [← HN.out, HT.out, if_pos hfit])
        rcases Int.lt_or_le x.start m with hmx | hmx
        · have HE2 := hide (show nextMin xs m = m by rw [HE.out]; omega)
          have hmx2 : ¬ m ≤ x.start := by omega
          go_wp2
          all_goals first
            | (exfalso; omega)
            | (go_ret; exact ⟨by rw [HE2.out]; first | done | rfl, bnext hbk hB0 (Nat.le_refl _)⟩)
        · have HE2 := hide (show nextMin xs m = x.start by rw [HE.out]; omega)
          have hmx2 : ¬ x.start < m := by omega
          by_cases heq : x.start = m
          · subst heq
            go_wp2
            all_goals first
              | (go_ret; exact ⟨by rw [HE2.out]; first | done | rfl, bnext hbk hB0 (Nat.le_refl _)⟩)
              | (exfalso; omega)
          · have hmx3 : m < x.start := by omega
            have HNE := hide heq; clear heq
            go_wp2
            all_goals first
              | (exfalso; omega)
              | (go_ret; exact ⟨by rw [HE2.out]; first | done | rfl, bnext hbk hB0 (Nat.le_refl _)⟩)
      · have HE := hide (show nextMin (xs.drop (k + 1)) m = nextMin xs m by rw [← HN.out, HT.out, if_neg hfit])
        go_wp2
        go_roundw
        case rel => exact ⟨k + 1, by omega, by go_num, HE, bnext hbk hB0 (Nat.le_refl _)⟩
        case measure => simp [intOf]; omega
    · obtain rfl : k = xs.length := by omega
      have HE := hide (show nextMin xs m = -1 by rw [← HN.out, List.drop_length]; rfl)
      go_wp2
      go_ret
      exact ⟨by rw [HE.out]; first | done | rfl, hbk⟩
set_option maxRecDepth 100000 in
set_option maxHeartbeats 8000000 in
theorem impl_NextMinute_any (v : Value) (xs : List WindowD) (m : Int) (w : World) (h1 : RdWindow w v xs) (hok : WinOk xs 2881) :
    Calls Tryz.prog 118 #[v, .int .i64 m] w fun e w' => e = .returned (.int .i64 (nextMin xs m)) ∧ Below w.heap.size w w' := by
  have HR1 := hide h1
  obtain ⟨A1, c1, rfl, hc1, hm1, h1⟩ := h1
  unfold maxLen at hm1
  have H1 := hide h1; clear h1
  have HW := hide hok; clear hok
  go_enter Tryz.func118, Tryz.ntmps118
  go_wp2_with (go_at_call 90; with_reducible refine (impl_WindowsOk_any _ xs _ ((RdB.keep HR1.out (B' := w.heap.size) (by repeat (first | exact Below.refl _ _ | assumption | refine Below.setCell ?_ (by first | omega | (simp <;> omega)) _ | refine Below.alloc ?_ (by first | omega | (simp <;> omega)) _ | refine below_drewN ?_ _ | refine Below.drew ?_ | refine Below.trans ?_ (Below.mono (by assumption) (by first | omega | (simp <;> omega))))) (Nat.le_refl _)).mono (by first | omega | (simp <;> omega))) HW.out).mono ?_; rintro e w1 ⟨rfl, hb'⟩; (first | have hb := bnext hb hb' | have hb := bnextA hb hb' | have hb := hb'); clear hb'; obtain ⟨hc, hf⟩ := bcell hb; have hz := hb.size; (try simp at hz))
  clear hc hf hz
  go_loopw [12] (fun s wr => ∃ k : Nat, k ≤ xs.length ∧ s = .int .i64 k ∧ Hid (nextMin (xs.drop k) m = nextMin xs m) ∧ Below w.heap.size w wr) (fun s _ => xs.length - (intOf s).toNat)
  case atStart => exact ⟨0, Nat.zero_le _, rfl, hide rfl, hb⟩
  case round =>
    clear hb
    obtain ⟨k, hk, rfl, HN, hbk⟩ := hrel
    obtain ⟨wo, rfl⟩ : ∃ wo : World, wo = wr := ⟨_, rfl⟩
    have hbs := hbk.size
    by_cases hlt : k < xs.length
    · obtain ⟨b1, o1, rfl, hb1, hcell1⟩ := H1.out (by omega)
      have e0 : wo.cell? ⟨b1, o1 + k * 2, none⟩ = some (.int .i64 xs[k].start) := by
        rw [hbk.cell (p := ⟨b1, _, none⟩) hb1]; have := hcell1 k xs[k] (List.getElem?_eq_getElem hlt) 0 _ rfl; simpa using this
      have e1 : wo.cell? ⟨b1, o1 + k * 2 + 1, none⟩ = some (.int .i64 xs[k].fin) := by
        rw [hbk.cell (p := ⟨b1, _, none⟩) hb1]; have := hcell1 k xs[k] (List.getElem?_eq_getElem hlt) 1 _ rfl; simpa using this
      have HT := hide (nextMin_step (m := m) hlt)
      obtain ⟨x, hxe⟩ : ∃ x, xs[k] = x := ⟨_, rfl⟩
      simp only [hxe] at e0 e1 HT
      clear hcell1 hxe
      have hB0 : Below wo.heap.size wo (wo.alloc (.cells #[.int .i64 x.start, .int .i64 x.fin] 94)) := (Below.refl _ _).alloc (Nat.le_refl _) _
      by_cases hfit : m ≤ x.fin
      · have HE := hide (show nextMin xs m = max x.start m by rw [← HN.out, HT.out, if_pos hfit])
        rcases Int.lt_or_le x.start m with hmx | hmx
        · have HE2 := hide (show nextMin xs m = m by rw [HE.out]; omega)
          have hmx2 : ¬ m ≤ x.start := by omega
          go_wp2
          all_goals first
            | (exfalso; omega)
            | (go_ret; exact ⟨by rw [HE2.out]; first | done | rfl, bnext hbk hB0 (Nat.le_refl _)⟩)
        · have HE2 := hide (show nextMin xs m = x.start by rw [HE.out]; omega)
          have hmx2 : ¬ x.start < m := by omega
          by_cases heq : x.start = m
          · subst heq
            go_wp2
            all_goals first
              | (go_ret; exact ⟨by rw [HE2.out]; first | done | rfl, bnext hbk hB0 (Nat.le_refl _)⟩)
              | (exfalso; omega)
          · have hmx3 : m < x.start := by omega
            have HNE := hide heq; clear heq
            go_wp2
            all_goals first
              | (exfalso; omega)
              | (go_ret; exact ⟨by rw [HE2.out]; first | done | rfl, bnext hbk hB0 (Nat.le_refl _)⟩)
      · have HE := hide (show nextMin (xs.drop (k + 1)) m = nextMin xs m by rw [← HN.out, HT.out, if_neg hfit])
        go_wp2
        go_roundw
        case rel => exact ⟨k + 1, by omega, by go_num, HE, bnext hbk hB0 (Nat.le_refl _)⟩
        case measure => simp [intOf]; omega
    · obtain rfl : k = xs.length := by omega
      have HE := hide (show nextMin xs m = -1 by rw [← HN.out, List.drop_length]; rfl)
      go_wp2
      go_ret
      exact ⟨by rw [HE.out]; first | done | rfl, hbk⟩
end Go.Proofs.YtpbcbdjjpkenjaaGreat
