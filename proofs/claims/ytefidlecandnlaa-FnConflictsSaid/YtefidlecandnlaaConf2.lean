/- Conflicts of two passages, the first conflict of a list, clashes. No condition. -/
import Derived.Test.YtefidlecandnlaaConfS
namespace Go.Proofs.Ytefidlecandnlaa
open Go.RowKit
set_option linter.unusedVariables false

def hitB (c : ChartD) (r0 : Int) (r1 : Bool) (p q : PassageD) : Bool := decide (conflictOf c r0 r1 p q ≠ 0)
def rowHit (c : ChartD) (r0 : Int) (r1 : Bool) (xs : List PassageD) (k : Nat) : Int := firstUpTo (fun i => hitB c r0 r1 (xs.getD i default) (xs.getD k default)) k
def rowHas (c : ChartD) (r0 : Int) (r1 : Bool) (xs : List PassageD) (k : Nat) : Bool := decide (0 ≤ rowHit c r0 r1 xs k)
def firstK (c : ChartD) (r0 : Int) (r1 : Bool) (xs : List PassageD) : Int := firstUpTo (rowHas c r0 r1 xs) xs.length
def fcI (c : ChartD) (r0 : Int) (r1 : Bool) (xs : List PassageD) : Int := if firstK c r0 r1 xs < 0 then -1 else rowHit c r0 r1 xs (firstK c r0 r1 xs).toNat
def fcK (c : ChartD) (r0 : Int) (r1 : Bool) (xs : List PassageD) : Int := firstK c r0 r1 xs
def fcN (c : ChartD) (r0 : Int) (r1 : Bool) (xs : List PassageD) : Int := if firstK c r0 r1 xs < 0 then 0 else conflictOf c r0 r1 (xs.getD (fcI c r0 r1 xs).toNat default) (xs.getD (firstK c r0 r1 xs).toNat default)
theorem fc_hit {c : ChartD} {r0 : Int} {r1 : Bool} {xs : List PassageD} {i k : Nat} (hk : k < xs.length) (hi : i < k) (hj : ∀ j, j < k → rowHas c r0 r1 xs j = false) (h : ∀ j, j < i → hitB c r0 r1 (xs.getD j default) (xs.getD k default) = false) (hh : hitB c r0 r1 (xs.getD i default) (xs.getD k default) = true) :
    fcI c r0 r1 xs = i ∧ fcK c r0 r1 xs = k ∧ fcN c r0 r1 xs = conflictOf c r0 r1 (xs.getD i default) (xs.getD k default) := by
  have e1 : rowHit c r0 r1 xs k = i := firstUpTo_hit (f := fun i => hitB c r0 r1 (xs.getD i default) (xs.getD k default)) h hh hi
  have e2 : firstK c r0 r1 xs = k := firstUpTo_hit hj (by unfold rowHas; rw [e1]; simp) hk
  have e3 : fcI c r0 r1 xs = i := by unfold fcI; rw [e2, if_neg (by omega), Int.toNat_natCast, e1]
  exact ⟨e3, e2, by unfold fcN; rw [e2, if_neg (by omega), e3, Int.toNat_natCast, Int.toNat_natCast]⟩
theorem fc_none {c : ChartD} {r0 : Int} {r1 : Bool} {xs : List PassageD} (hj : ∀ j, j < xs.length → rowHas c r0 r1 xs j = false) : fcI c r0 r1 xs = -1 ∧ fcK c r0 r1 xs = -1 ∧ fcN c r0 r1 xs = 0 := by
  have e2 : firstK c r0 r1 xs = -1 := firstUpTo_none hj
  exact ⟨by unfold fcI; rw [e2]; simp, e2, by unfold fcN; rw [e2]; simp⟩
theorem row_none {c : ChartD} {r0 : Int} {r1 : Bool} {xs : List PassageD} {k : Nat} (h : ∀ j, j < k → hitB c r0 r1 (xs.getD j default) (xs.getD k default) = false) : rowHas c r0 r1 xs k = false := by
  unfold rowHas rowHit; rw [firstUpTo_none h]; rfl
theorem conf_bad {c : ChartD} {r0 : Int} {r1 : Bool} {p q : PassageD} (h : (chartOk c && inB r0 0 60) = false) : conflictOf c r0 r1 p q = 0 := by
  unfold conflictOf; rw [if_neg]; intro e; simp [e.1, e.2] at h
theorem fc_bad {c : ChartD} {r0 : Int} {r1 : Bool} {xs : List PassageD} (h : (chartOk c && inB r0 0 60) = false) : fcI c r0 r1 xs = -1 ∧ fcK c r0 r1 xs = -1 ∧ fcN c r0 r1 xs = 0 :=
  fc_none fun k _ => row_none fun j _ => by unfold hitB; rw [conf_bad h]; rfl
def clashesB (c : ChartD) (r0 : Int) (r1 : Bool) (xs ys : List PassageD) : Bool := xs.any fun p => ys.any fun q => hitB c r0 r1 p q
theorem calls_intC {P : Program} {f : FuncId} {args : Array Value} {w : World} {R : World → Prop} {b c : Int} (h : Calls P f args w fun e w' => e = .returned (.int .i64 b) ∧ R w') (hb : b = c) : Calls P f args w fun e w' => e = .returned (.int .i64 c) ∧ R w' := hb ▸ h
set_option maxRecDepth 100000 in
set_option maxHeartbeats 8000000 in
theorem spec_ConflictOf_any (v1 v2 : Value) (c : ChartD) (r0 : Int) (r1 : Bool) (p q : PassageD) (w : World) (h : RdChart w w.heap.size v1 v2 c) (hp : p.ok) (hq : q.ok) (hok : ∀ x ∈ c.points, x.name.size ≤ maxLen) :
    Calls Try.prog 26 #[.agg #[v1, v2], .agg #[.int .i64 r0, .bool r1], p.val, q.val] w fun e w' => e = .returned (.int .i64 (conflictOf c r0 r1 p q)) ∧ Below w.heap.size w w' := by
  rcases ch2 (chartOk c) (inB r0 0 60) with ⟨g1, g2⟩ | g1 | ⟨g1, g2⟩
  · exact calls_intC (spec_ConflictOf_v v1 v2 c r0 r1 p q w h g1 g2 hp hq hok) (by unfold conflictOf; rw [if_pos ⟨g1, g2⟩])
  all_goals
    have HV := hide (show conflictOf c r0 r1 p q = 0 from conf_bad (by simp [*]))
    obtain ⟨x0, x1, x2, x3, x4⟩ := p
    obtain ⟨y0, y1, y2, y3, y4⟩ := q
    have HR := hide h
    obtain ⟨h1, h2⟩ := h
    obtain ⟨A1, c1, rfl, hc1, hm1, h1⟩ := h1
    obtain ⟨A2, c2, rfl, hc2, hm2, h2⟩ := h2
    unfold maxLen at hm1 hm2
    clear h1 h2
    go_enter Try.func26, Try.ntmps26
    go_wp2_with (first
      | (go_at_call 64; refine (spec_ChartOk_any _ _ c _ ((HR.out.keep (B' := w.heap.size) (by repeat (first | exact Below.refl _ _ | assumption | refine Below.setCell ?_ (by first | omega | (simp <;> omega)) _ | refine Below.alloc ?_ (by first | omega | (simp <;> omega)) _ | refine below_drewN ?_ _ | refine Below.drew ?_ | refine Below.trans ?_ (Below.mono (by assumption) (by first | omega | (simp <;> omega))))) (Nat.le_refl _)).mono (by first | omega | (simp <;> omega))) hok).mono ?_; rintro e w1 ⟨rfl, hb'⟩; (first | have hb := bnext hb hb' | have hb := bnextA hb hb' | have hb := hb'); clear hb'; obtain ⟨hc, hf⟩ := bcell hb; have hz := hb.size; (try simp at hz))
      | (go_at_call 80; refine (spec_RegimeOk_any _ _ _).mono ?_; rintro e w1 ⟨rfl, hb'⟩; (first | have hb := bnext hb hb' | have hb := bnextA hb hb' | have hb := hb'); clear hb'; obtain ⟨hc, hf⟩ := bcell hb; have hz := hb.size; (try simp at hz)))
    go_ret
    exact ⟨by rw [HV.out]; first | done | rfl, (by repeat (first | exact Below.refl _ _ | assumption | refine Below.setCell ?_ (by first | omega | (simp <;> omega)) _ | refine Below.alloc ?_ (by first | omega | (simp <;> omega)) _ | refine below_drewN ?_ _ | refine Below.drew ?_ | refine Below.trans ?_ (Below.mono (by assumption) (by first | omega | (simp <;> omega)))))⟩
set_option maxRecDepth 100000 in
set_option maxHeartbeats 8000000 in
theorem impl_ConflictOf_any (v1 v2 : Value) (c : ChartD) (r0 : Int) (r1 : Bool) (p q : PassageD) (w : World) (h : RdChart w w.heap.size v1 v2 c) (hp : p.ok) (hq : q.ok) (hok : ∀ x ∈ c.points, x.name.size ≤ maxLen) :
    Calls Try.prog 29 #[.agg #[v1, v2], .agg #[.int .i64 r0, .bool r1], p.val, q.val] w fun e w' => e = .returned (.int .i64 (conflictOf c r0 r1 p q)) ∧ Below w.heap.size w w' := by
  rcases ch2 (chartOk c) (inB r0 0 60) with ⟨g1, g2⟩ | g1 | ⟨g1, g2⟩
  · have HV := hide (show conflictOf c r0 r1 p q = conflictV c r0 r1 p q by unfold conflictOf; rw [if_pos ⟨g1, g2⟩])
    have G1 := hide g1; have G2 := hide g2
    obtain ⟨x0, x1, x2, x3, x4⟩ := p
    obtain ⟨y0, y1, y2, y3, y4⟩ := q
    have HR := hide h
    obtain ⟨h1, h2⟩ := h
    obtain ⟨A1, c1, rfl, hc1, hm1, h1⟩ := h1
    obtain ⟨A2, c2, rfl, hc2, hm2, h2⟩ := h2
    unfold maxLen at hm1 hm2
    clear h1 h2
    go_enter Try.func29, Try.ntmps29
    go_wp2_with (first
      | (go_at_call 70; refine (impl_ChartOk_any _ _ c _ ((HR.out.keep (B' := w.heap.size) (by repeat (first | exact Below.refl _ _ | assumption | refine Below.setCell ?_ (by first | omega | (simp <;> omega)) _ | refine Below.alloc ?_ (by first | omega | (simp <;> omega)) _ | refine below_drewN ?_ _ | refine Below.drew ?_ | refine Below.trans ?_ (Below.mono (by assumption) (by first | omega | (simp <;> omega))))) (Nat.le_refl _)).mono (by first | omega | (simp <;> omega))) hok).mono ?_; rintro e w1 ⟨rfl, hb'⟩; (first | have hb := bnext hb hb' | have hb := bnextA hb hb' | have hb := hb'); clear hb'; obtain ⟨hc, hf⟩ := bcell hb; have hz := hb.size; (try simp at hz))
      | (go_at_call 59; refine (impl_RegimeOk_any _ _ _).mono ?_; rintro e w1 ⟨rfl, hb'⟩; (first | have hb := bnext hb hb' | have hb := bnextA hb hb' | have hb := hb'); clear hb'; obtain ⟨hc, hf⟩ := bcell hb; have hz := hb.size; (try simp at hz))
      | (go_at_call 83; refine (conflict_v _ _ c r0 r1 ⟨x0, x1, x2, x3, x4⟩ ⟨y0, y1, y2, y3, y4⟩ _ ((HR.out.keep (B' := w.heap.size) (by repeat (first | exact Below.refl _ _ | assumption | refine Below.setCell ?_ (by first | omega | (simp <;> omega)) _ | refine Below.alloc ?_ (by first | omega | (simp <;> omega)) _ | refine below_drewN ?_ _ | refine Below.drew ?_ | refine Below.trans ?_ (Below.mono (by assumption) (by first | omega | (simp <;> omega))))) (Nat.le_refl _)).mono (by first | omega | (simp <;> omega))) G1.out G2.out hp hq).mono ?_; rintro e w1 ⟨rfl, hb'⟩; (first | have hb := bnext hb hb' | have hb := bnextA hb hb' | have hb := hb'); clear hb'; obtain ⟨hc, hf⟩ := bcell hb; have hz := hb.size; (try simp at hz)))
    go_ret
    exact ⟨by rw [HV.out]; first | done | rfl, (by repeat (first | exact Below.refl _ _ | assumption | refine Below.setCell ?_ (by first | omega | (simp <;> omega)) _ | refine Below.alloc ?_ (by first | omega | (simp <;> omega)) _ | refine below_drewN ?_ _ | refine Below.drew ?_ | refine Below.trans ?_ (Below.mono (by assumption) (by first | omega | (simp <;> omega)))))⟩
  all_goals
    have HV := hide (show conflictOf c r0 r1 p q = 0 from conf_bad (by simp [*]))
    obtain ⟨x0, x1, x2, x3, x4⟩ := p
    obtain ⟨y0, y1, y2, y3, y4⟩ := q
    have HR := hide h
    obtain ⟨h1, h2⟩ := h
    obtain ⟨A1, c1, rfl, hc1, hm1, h1⟩ := h1
    obtain ⟨A2, c2, rfl, hc2, hm2, h2⟩ := h2
    unfold maxLen at hm1 hm2
    clear h1 h2
    go_enter Try.func29, Try.ntmps29
    go_wp2_with (first
      | (go_at_call 70; refine (impl_ChartOk_any _ _ c _ ((HR.out.keep (B' := w.heap.size) (by repeat (first | exact Below.refl _ _ | assumption | refine Below.setCell ?_ (by first | omega | (simp <;> omega)) _ | refine Below.alloc ?_ (by first | omega | (simp <;> omega)) _ | refine below_drewN ?_ _ | refine Below.drew ?_ | refine Below.trans ?_ (Below.mono (by assumption) (by first | omega | (simp <;> omega))))) (Nat.le_refl _)).mono (by first | omega | (simp <;> omega))) hok).mono ?_; rintro e w1 ⟨rfl, hb'⟩; (first | have hb := bnext hb hb' | have hb := bnextA hb hb' | have hb := hb'); clear hb'; obtain ⟨hc, hf⟩ := bcell hb; have hz := hb.size; (try simp at hz))
      | (go_at_call 59; refine (impl_RegimeOk_any _ _ _).mono ?_; rintro e w1 ⟨rfl, hb'⟩; (first | have hb := bnext hb hb' | have hb := bnextA hb hb' | have hb := hb'); clear hb'; obtain ⟨hc, hf⟩ := bcell hb; have hz := hb.size; (try simp at hz)))
    go_ret
    exact ⟨by rw [HV.out]; first | done | rfl, (by repeat (first | exact Below.refl _ _ | assumption | refine Below.setCell ?_ (by first | omega | (simp <;> omega)) _ | refine Below.alloc ?_ (by first | omega | (simp <;> omega)) _ | refine below_drewN ?_ _ | refine Below.drew ?_ | refine Below.trans ?_ (Below.mono (by assumption) (by first | omega | (simp <;> omega)))))⟩
set_option maxRecDepth 100000 in
set_option maxHeartbeats 16000000 in
theorem spec_FirstConflict_any (v1 v2 v3 : Value) (c : ChartD) (r0 : Int) (r1 : Bool) (xs : List PassageD) (w : World) (h : RdChart w w.heap.size v1 v2 c) (h3 : RdPassage w v3 xs) (hxs : ∀ x ∈ xs, x.ok) (hok : ∀ x ∈ c.points, x.name.size ≤ maxLen) :
    Calls Try.prog 39 #[.agg #[v1, v2], .agg #[.int .i64 r0, .bool r1], v3] w fun e w' => e = .returned (.tuple #[.int .i64 (fcI c r0 r1 xs), .int .i64 (fcK c r0 r1 xs), .int .i64 (fcN c r0 r1 xs)]) ∧ Below w.heap.size w w' := by
  have HR := hide h
  obtain ⟨h1, h2⟩ := h
  obtain ⟨A1, c1, rfl, hc1, hm1, h1⟩ := h1
  obtain ⟨A2, c2, rfl, hc2, hm2, h2⟩ := h2
  unfold maxLen at hm1 hm2
  clear h1 h2
  obtain ⟨A3, c3, rfl, hc3, hm3, h3⟩ := h3
  unfold maxLen at hm3
  go_enter Try.func39, Try.ntmps39
  go_wp2
  go_loopw [14] (fun i wr => ∃ k : Nat, k ≤ xs.length ∧ i = .int .i64 k ∧ Hid (∀ j, j < k → rowHas c r0 r1 xs j = false) ∧ wr.cell? ⟨w.heap.size, 0, none⟩ = some (.slice A1 c.points.length c1) ∧ wr.cell? ⟨w.heap.size, 1, none⟩ = some (.slice A2 c.segs.length c2) ∧ wr.cell? ⟨w.heap.size + 1, 0, none⟩ = some (.int .i64 r0) ∧ wr.cell? ⟨w.heap.size + 1, 1, none⟩ = some (.bool r1) ∧ w.heap.size + 1 < wr.heap.size ∧ Below w.heap.size w wr) (fun i _ => xs.length - (intOf i).toNat)
  case atStart => exact ⟨0, Nat.zero_le _, rfl, hide (fun j hj => by omega), by simp [go_sem], by simp [go_sem], by simp [go_sem], by simp [go_sem], by simp, (by repeat (first | exact Below.refl _ _ | assumption | refine Below.setCell ?_ (by first | omega | (simp <;> omega)) _ | refine Below.alloc ?_ (by first | omega | (simp <;> omega)) _ | refine below_drewN ?_ _ | refine Below.drew ?_ | refine Below.trans ?_ (Below.mono (by assumption) (by first | omega | (simp <;> omega)))))⟩
  case round =>
    
    obtain ⟨k, hk, rfl, HN, y0, y1, y2, y3, hl0, hb0⟩ := hrel
    obtain ⟨wo, rfl⟩ : ∃ wo : World, wo = wr := ⟨_, rfl⟩
    have hbs := hb0.size
    by_cases hlt : k < xs.length
    · obtain ⟨b3, o3, rfl, hb3, hcell3⟩ := h3 (by omega)
      have hz3 : b3 < wo.heap.size := by omega
      have HC := hide hcell3
      have hlt' : (k : Int) < xs.length := by omega
      clear h3 hcell3
      go_wp2
      go_loopw [10] (fun i wr => ∃ j : Nat, j ≤ k ∧ i = .int .i64 j ∧ Hid (∀ m, m < j → hitB c r0 r1 (xs.getD m default) (xs.getD k default) = false) ∧ wr.cell? ⟨w.heap.size, 0, none⟩ = some (.slice A1 c.points.length c1) ∧ wr.cell? ⟨w.heap.size, 1, none⟩ = some (.slice A2 c.segs.length c2) ∧ wr.cell? ⟨w.heap.size + 1, 0, none⟩ = some (.int .i64 r0) ∧ wr.cell? ⟨w.heap.size + 1, 1, none⟩ = some (.bool r1) ∧ w.heap.size + 1 < wr.heap.size ∧ Below wo.heap.size wo wr) (fun i _ => k - (intOf i).toNat)
      case atStart => exact ⟨0, Nat.zero_le _, rfl, hide (fun m hm => by omega), y0, y1, y2, y3, hl0, Below.refl _ _⟩
      case round =>
        obtain ⟨j, hj, rfl, HJ, z0, z1, z2, z3, hl1, hbj⟩ := hrel
        have hbk := bnext hb0 hbj (Nat.le_refl _)
        have hbks := hbk.size
        by_cases hjk : j < k
        · have hjl : j < xs.length := by omega
          have hjl' : (j : Int) < xs.length := by omega
          have hcell := HC.out
          have e0 : wr.cell? ⟨b3, o3 + k * 5, none⟩ = some (.int .i64 xs[k].ship) := by
            rw [hbk.cell (p := ⟨b3, _, none⟩) hb3]; have := hcell k xs[k] (List.getElem?_eq_getElem hlt) 0 _ rfl; simpa using this
          have e1 : wr.cell? ⟨b3, o3 + k * 5 + 1, none⟩ = some (.int .i64 xs[k].segment) := by
            rw [hbk.cell (p := ⟨b3, _, none⟩) hb3]; have := hcell k xs[k] (List.getElem?_eq_getElem hlt) 1 _ rfl; simpa using this
          have e2 : wr.cell? ⟨b3, o3 + k * 5 + 2, none⟩ = some (.bool xs[k].toward) := by
            rw [hbk.cell (p := ⟨b3, _, none⟩) hb3]; have := hcell k xs[k] (List.getElem?_eq_getElem hlt) 2 _ rfl; simpa using this
          have e3 : wr.cell? ⟨b3, o3 + k * 5 + 3, none⟩ = some (.int .i64 xs[k].start) := by
            rw [hbk.cell (p := ⟨b3, _, none⟩) hb3]; have := hcell k xs[k] (List.getElem?_eq_getElem hlt) 3 _ rfl; simpa using this
          have e4 : wr.cell? ⟨b3, o3 + k * 5 + 4, none⟩ = some (.int .i64 xs[k].fin) := by
            rw [hbk.cell (p := ⟨b3, _, none⟩) hb3]; have := hcell k xs[k] (List.getElem?_eq_getElem hlt) 4 _ rfl; simpa using this
          have f0 : wr.cell? ⟨b3, o3 + j * 5, none⟩ = some (.int .i64 xs[j].ship) := by
            rw [hbk.cell (p := ⟨b3, _, none⟩) hb3]; have := hcell j xs[j] (List.getElem?_eq_getElem hjl) 0 _ rfl; simpa using this
          have f1 : wr.cell? ⟨b3, o3 + j * 5 + 1, none⟩ = some (.int .i64 xs[j].segment) := by
            rw [hbk.cell (p := ⟨b3, _, none⟩) hb3]; have := hcell j xs[j] (List.getElem?_eq_getElem hjl) 1 _ rfl; simpa using this
          have f2 : wr.cell? ⟨b3, o3 + j * 5 + 2, none⟩ = some (.bool xs[j].toward) := by
            rw [hbk.cell (p := ⟨b3, _, none⟩) hb3]; have := hcell j xs[j] (List.getElem?_eq_getElem hjl) 2 _ rfl; simpa using this
          have f3 : wr.cell? ⟨b3, o3 + j * 5 + 3, none⟩ = some (.int .i64 xs[j].start) := by
            rw [hbk.cell (p := ⟨b3, _, none⟩) hb3]; have := hcell j xs[j] (List.getElem?_eq_getElem hjl) 3 _ rfl; simpa using this
          have f4 : wr.cell? ⟨b3, o3 + j * 5 + 4, none⟩ = some (.int .i64 xs[j].fin) := by
            rw [hbk.cell (p := ⟨b3, _, none⟩) hb3]; have := hcell j xs[j] (List.getElem?_eq_getElem hjl) 4 _ rfl; simpa using this
          have hz3 : b3 < wr.heap.size := by omega
          have hz0 : w.heap.size < wr.heap.size := by omega
          have HP := hide (hxs xs[k] (List.getElem_mem hlt)); have HQ := hide (hxs xs[j] (List.getElem_mem hjl))
          have HB := hide (show hitB c r0 r1 (xs.getD j default) (xs.getD k default) = decide (conflictOf c r0 r1 xs[j] xs[k] ≠ 0) by unfold hitB; rw [getD_at hjl, getD_at hlt])
          have HRK := hide ((HR.out.keep hbk (Nat.le_refl _)).mono hbks)
          have HXS := hide hxs
          clear hcell hxs y0 y1 y2 y3
          by_cases hv : conflictOf c r0 r1 xs[j] xs[k] = 0
          · have hvb : (conflictOf c r0 r1 xs[j] xs[k] != 0) = false := by simp [hv]
            have HF := hide (show hitB c r0 r1 (xs.getD j default) (xs.getD k default) = false by rw [HB.out]; simp [hv])
            clear hv
            go_wp2
            refine wp_region_below (Below.refl wr.heap.size _) (by kernel_rfl) (by kernel_rfl) ?_
            repeat (first
              | go_big_quiet_skip
              | (go_big_quiet_want
                 first
                  | (refine quiet_value ?_; apply Exists.intro
                     refine ⟨fun wq hq => ?_, ?_⟩
                     · (obtain ⟨hc, hf⟩ := bcell hq; go_simp; first | done | rfl)
                     go_big_quiet_on
                     simp only [Act.put, List.setIfInBounds_toArray, List.set_cons_zero, List.set_cons_succ])
                  | (refine quiet_call ?_; apply Exists.intro; apply Exists.intro; apply Exists.intro
                     refine ⟨fun wq hq => ?_, fun wq hq => ?_, ?_⟩
                     · (obtain ⟨hc, hf⟩ := bcell hq; go_simp; exact ⟨rfl, rfl⟩)
                     · (first | with_reducible exact (spec_ConflictOf_any _ _ c r0 r1 xs[j] xs[k] _ ((HRK.out.keep hq (Nat.le_refl _)).mono hq.size) HQ.out HP.out hok).mono fun e w'' ⟨he, hw⟩ => ⟨he, hw ▸ hq⟩ | with_reducible exact (spec_ConflictOf_any _ _ c r0 r1 xs[j] xs[k] _ ((HRK.out.keep hq (Nat.le_refl _)).mono hq.size) HQ.out HP.out hok).mono fun e w'' ⟨he, hb'⟩ => ⟨he, bnext hq hb'⟩ |  exact (spec_ConflictOf_any _ _ c r0 r1 xs[j] xs[k] _ ((HRK.out.keep hq (Nat.le_refl _)).mono hq.size) HQ.out HP.out hok).mono fun e w'' ⟨he, hb'⟩ => ⟨he, bnext hq hb'⟩ |  exact (spec_ConflictOf_any _ _ c r0 r1 xs[j] xs[k] _ ((HRK.out.keep hq (Nat.le_refl _)).mono hq.size) HQ.out HP.out hok).mono fun e w'' ⟨he, hw⟩ => ⟨he, hw ▸ hq⟩)
                     go_big_quiet_on
                     simp only [Act.put, List.setIfInBounds_toArray, List.set_cons_zero, List.set_cons_succ])
                  | (go_big_quiet_op; go_big_quiet_on)
                 ))
            refine wpQuiet_nil (fun w1 hb' => ?_)
            obtain ⟨hc, hf⟩ := bcell hb'
            have hz := hb'.size; (try simp at hz)
            go_wp2
            go_roundw
            case rel => exact ⟨j + 1, by omega, by go_num, hide (none_succ HJ.out HF.out), cellKeep (B := wr.heap.size) (w1 := wr) (by repeat (first | exact Below.refl _ _ | assumption | refine Below.setCell ?_ (by first | omega | (simp <;> omega)) _ | refine Below.alloc ?_ (by first | omega | (simp <;> omega)) _ | refine below_drewN ?_ _ | refine Below.drew ?_ | refine Below.trans ?_ (Below.mono (by assumption) (by first | omega | (simp <;> omega))))) z0 (by omega), cellKeep (B := wr.heap.size) (w1 := wr) (by repeat (first | exact Below.refl _ _ | assumption | refine Below.setCell ?_ (by first | omega | (simp <;> omega)) _ | refine Below.alloc ?_ (by first | omega | (simp <;> omega)) _ | refine below_drewN ?_ _ | refine Below.drew ?_ | refine Below.trans ?_ (Below.mono (by assumption) (by first | omega | (simp <;> omega))))) z1 (by omega), cellKeep (B := wr.heap.size) (w1 := wr) (by repeat (first | exact Below.refl _ _ | assumption | refine Below.setCell ?_ (by first | omega | (simp <;> omega)) _ | refine Below.alloc ?_ (by first | omega | (simp <;> omega)) _ | refine below_drewN ?_ _ | refine Below.drew ?_ | refine Below.trans ?_ (Below.mono (by assumption) (by first | omega | (simp <;> omega))))) z2 (by omega), cellKeep (B := wr.heap.size) (w1 := wr) (by repeat (first | exact Below.refl _ _ | assumption | refine Below.setCell ?_ (by first | omega | (simp <;> omega)) _ | refine Below.alloc ?_ (by first | omega | (simp <;> omega)) _ | refine below_drewN ?_ _ | refine Below.drew ?_ | refine Below.trans ?_ (Below.mono (by assumption) (by first | omega | (simp <;> omega))))) z3 (by omega), by first | omega | (simp <;> omega), bnext hbj (w1 := wr) (by repeat (first | exact Below.refl _ _ | assumption | refine Below.setCell ?_ (by first | omega | (simp <;> omega)) _ | refine Below.alloc ?_ (by first | omega | (simp <;> omega)) _ | refine below_drewN ?_ _ | refine Below.drew ?_ | refine Below.trans ?_ (Below.mono (by assumption) (by first | omega | (simp <;> omega))))) (Nat.le_refl _)⟩
            case measure => simp [intOf]; omega
          · have hvb : (conflictOf c r0 r1 xs[j] xs[k] != 0) = true := by simpa using hv
            have HF := hide (fc_hit hlt hjk HN.out HJ.out (by rw [HB.out]; simpa using hv))
            clear hv
            go_wp2
            refine wp_region_below (Below.refl wr.heap.size _) (by kernel_rfl) (by kernel_rfl) ?_
            repeat (first
              | go_big_quiet_skip
              | (go_big_quiet_want
                 first
                  | (refine quiet_value ?_; apply Exists.intro
                     refine ⟨fun wq hq => ?_, ?_⟩
                     · (obtain ⟨hc, hf⟩ := bcell hq; go_simp; first | done | rfl)
                     go_big_quiet_on
                     simp only [Act.put, List.setIfInBounds_toArray, List.set_cons_zero, List.set_cons_succ])
                  | (refine quiet_call ?_; apply Exists.intro; apply Exists.intro; apply Exists.intro
                     refine ⟨fun wq hq => ?_, fun wq hq => ?_, ?_⟩
                     · (obtain ⟨hc, hf⟩ := bcell hq; go_simp; exact ⟨rfl, rfl⟩)
                     · (first | with_reducible exact (spec_ConflictOf_any _ _ c r0 r1 xs[j] xs[k] _ ((HRK.out.keep hq (Nat.le_refl _)).mono hq.size) HQ.out HP.out hok).mono fun e w'' ⟨he, hw⟩ => ⟨he, hw ▸ hq⟩ | with_reducible exact (spec_ConflictOf_any _ _ c r0 r1 xs[j] xs[k] _ ((HRK.out.keep hq (Nat.le_refl _)).mono hq.size) HQ.out HP.out hok).mono fun e w'' ⟨he, hb'⟩ => ⟨he, bnext hq hb'⟩ |  exact (spec_ConflictOf_any _ _ c r0 r1 xs[j] xs[k] _ ((HRK.out.keep hq (Nat.le_refl _)).mono hq.size) HQ.out HP.out hok).mono fun e w'' ⟨he, hb'⟩ => ⟨he, bnext hq hb'⟩ |  exact (spec_ConflictOf_any _ _ c r0 r1 xs[j] xs[k] _ ((HRK.out.keep hq (Nat.le_refl _)).mono hq.size) HQ.out HP.out hok).mono fun e w'' ⟨he, hw⟩ => ⟨he, hw ▸ hq⟩)
                     go_big_quiet_on
                     simp only [Act.put, List.setIfInBounds_toArray, List.set_cons_zero, List.set_cons_succ])
                  | (go_big_quiet_op; go_big_quiet_on)
                 ))
            refine wpQuiet_nil (fun w1 hb' => ?_)
            obtain ⟨hc, hf⟩ := bcell hb'
            have hz := hb'.size; (try simp at hz)
            go_wp2
            go_ret3
            have hfc := HF.out
            rw [getD_at hjl, getD_at hlt] at hfc
            exact ⟨by rw [hfc.1, hfc.2.1, hfc.2.2]; first | done | rfl, (by repeat (first | exact Below.refl _ _ | assumption | refine Below.setCell ?_ (by first | omega | (simp <;> omega)) _ | refine Below.alloc ?_ (by first | omega | (simp <;> omega)) _ | refine below_drewN ?_ _ | refine Below.drew ?_ | refine Below.trans ?_ (Below.mono (by assumption) (by first | omega | (simp <;> omega)))))⟩
        · obtain rfl : j = k := by omega
          have HT := hide (row_none HJ.out)
          go_wp2
          go_roundw
          case rel => exact ⟨j + 1, by omega, by go_num, hide (none_succ HN.out HT.out), cellKeep hbj y0 (by omega), cellKeep hbj y1 (by omega), cellKeep hbj y2 (by omega), cellKeep hbj y3 (by omega), by omega, hbk⟩
          case measure => simp [intOf]; omega
    · obtain rfl : k = xs.length := by omega
      have HF := hide (fc_none HN.out)
      go_wp2
      go_ret3
      have hfc := HF.out
      exact ⟨by rw [hfc.1, hfc.2.1, hfc.2.2]; first | done | rfl, (by repeat (first | exact Below.refl _ _ | assumption | refine Below.setCell ?_ (by first | omega | (simp <;> omega)) _ | refine Below.alloc ?_ (by first | omega | (simp <;> omega)) _ | refine below_drewN ?_ _ | refine Below.drew ?_ | refine Below.trans ?_ (Below.mono (by assumption) (by first | omega | (simp <;> omega)))))⟩
set_option maxRecDepth 100000 in
set_option maxHeartbeats 16000000 in
theorem impl_FirstConflict_any (v1 v2 v3 : Value) (c : ChartD) (r0 : Int) (r1 : Bool) (xs : List PassageD) (w : World) (h : RdChart w w.heap.size v1 v2 c) (h3 : RdPassage w v3 xs) (hxs : ∀ x ∈ xs, x.ok) (hok : ∀ x ∈ c.points, x.name.size ≤ maxLen) :
    Calls Try.prog 40 #[.agg #[v1, v2], .agg #[.int .i64 r0, .bool r1], v3] w fun e w' => e = .returned (.tuple #[.int .i64 (fcI c r0 r1 xs), .int .i64 (fcK c r0 r1 xs), .int .i64 (fcN c r0 r1 xs)]) ∧ Below w.heap.size w w' := by
  have HR := hide h
  obtain ⟨h1, h2⟩ := h
  obtain ⟨A1, c1, rfl, hc1, hm1, h1⟩ := h1
  obtain ⟨A2, c2, rfl, hc2, hm2, h2⟩ := h2
  unfold maxLen at hm1 hm2
  clear h1 h2
  obtain ⟨A3, c3, rfl, hc3, hm3, h3⟩ := h3
  unfold maxLen at hm3
  rcases ch2 (chartOk c) (inB r0 0 60) with ⟨g1, g2⟩ | g1 | ⟨g1, g2⟩
  · have G1 := hide g1; have G2 := hide g2
    go_enter Try.func40, Try.ntmps40
    go_wp2_with (first
      | (go_at_call 70; refine (impl_ChartOk_any _ _ c _ ((HR.out.keep (B' := w.heap.size) (by repeat (first | exact Below.refl _ _ | assumption | refine Below.setCell ?_ (by first | omega | (simp <;> omega)) _ | refine Below.alloc ?_ (by first | omega | (simp <;> omega)) _ | refine below_drewN ?_ _ | refine Below.drew ?_ | refine Below.trans ?_ (Below.mono (by assumption) (by first | omega | (simp <;> omega))))) (Nat.le_refl _)).mono (by first | omega | (simp <;> omega))) hok).mono ?_; rintro e w1 ⟨rfl, hb'⟩; (first | have hb := bnext hb hb' | have hb := bnextA hb hb' | have hb := hb'); clear hb'; obtain ⟨hc, hf⟩ := bcell hb; have hz := hb.size; (try simp at hz))
      | (go_at_call 59; refine (impl_RegimeOk_any _ _ _).mono ?_; rintro e w1 ⟨rfl, hb'⟩; (first | have hb := bnext hb hb' | have hb := bnextA hb hb' | have hb := hb'); clear hb'; obtain ⟨hc, hf⟩ := bcell hb; have hz := hb.size; (try simp at hz)))
    clear g1 g2
    go_loopw [22] (fun i wr => ∃ k : Nat, k ≤ xs.length ∧ i = .int .i64 k ∧ Hid (∀ j, j < k → rowHas c r0 r1 xs j = false) ∧ wr.cell? ⟨w.heap.size, 0, none⟩ = some (.slice A1 c.points.length c1) ∧ wr.cell? ⟨w.heap.size, 1, none⟩ = some (.slice A2 c.segs.length c2) ∧ wr.cell? ⟨w.heap.size + 1, 0, none⟩ = some (.int .i64 r0) ∧ wr.cell? ⟨w.heap.size + 1, 1, none⟩ = some (.bool r1) ∧ w.heap.size + 1 < wr.heap.size ∧ Below w.heap.size w wr) (fun i _ => xs.length - (intOf i).toNat)
    case atStart => exact ⟨0, Nat.zero_le _, rfl, hide (fun j hj => by omega), cellKeep hb (by simp [go_sem]) (by simp <;> omega), cellKeep hb (by simp [go_sem]) (by simp <;> omega), cellKeep hb (by simp [go_sem]) (by simp <;> omega), cellKeep hb (by simp [go_sem]) (by simp <;> omega), by omega, (by repeat (first | exact Below.refl _ _ | assumption | refine Below.setCell ?_ (by first | omega | (simp <;> omega)) _ | refine Below.alloc ?_ (by first | omega | (simp <;> omega)) _ | refine below_drewN ?_ _ | refine Below.drew ?_ | refine Below.trans ?_ (Below.mono (by assumption) (by first | omega | (simp <;> omega)))))⟩
    case round =>
      clear hb hc hf hz
      obtain ⟨k, hk, rfl, HN, y0, y1, y2, y3, hl0, hb0⟩ := hrel
      obtain ⟨wo, rfl⟩ : ∃ wo : World, wo = wr := ⟨_, rfl⟩
      have hbs := hb0.size
      by_cases hlt : k < xs.length
      · obtain ⟨b3, o3, rfl, hb3, hcell3⟩ := h3 (by omega)
        have hz3 : b3 < wo.heap.size := by omega
        have HC := hide hcell3
        have hlt' : (k : Int) < xs.length := by omega
        clear h3
        have e0 : wo.cell? ⟨b3, o3 + k * 5, none⟩ = some (.int .i64 xs[k].ship) := by
          rw [hb0.cell (p := ⟨b3, _, none⟩) hb3]; have := hcell3 k xs[k] (List.getElem?_eq_getElem hlt) 0 _ rfl; simpa using this
        have e1 : wo.cell? ⟨b3, o3 + k * 5 + 1, none⟩ = some (.int .i64 xs[k].segment) := by
          rw [hb0.cell (p := ⟨b3, _, none⟩) hb3]; have := hcell3 k xs[k] (List.getElem?_eq_getElem hlt) 1 _ rfl; simpa using this
        have e2 : wo.cell? ⟨b3, o3 + k * 5 + 2, none⟩ = some (.bool xs[k].toward) := by
          rw [hb0.cell (p := ⟨b3, _, none⟩) hb3]; have := hcell3 k xs[k] (List.getElem?_eq_getElem hlt) 2 _ rfl; simpa using this
        have e3 : wo.cell? ⟨b3, o3 + k * 5 + 3, none⟩ = some (.int .i64 xs[k].start) := by
          rw [hb0.cell (p := ⟨b3, _, none⟩) hb3]; have := hcell3 k xs[k] (List.getElem?_eq_getElem hlt) 3 _ rfl; simpa using this
        have e4 : wo.cell? ⟨b3, o3 + k * 5 + 4, none⟩ = some (.int .i64 xs[k].fin) := by
          rw [hb0.cell (p := ⟨b3, _, none⟩) hb3]; have := hcell3 k xs[k] (List.getElem?_eq_getElem hlt) 4 _ rfl; simpa using this
        clear hcell3
        go_wp2
        go_loopw [31] (fun i wr => ∃ j : Nat, j ≤ k ∧ i = .int .i64 j ∧ Hid (∀ m, m < j → hitB c r0 r1 (xs.getD m default) (xs.getD k default) = false) ∧ wr.cell? ⟨w.heap.size, 0, none⟩ = some (.slice A1 c.points.length c1) ∧ wr.cell? ⟨w.heap.size, 1, none⟩ = some (.slice A2 c.segs.length c2) ∧ wr.cell? ⟨w.heap.size + 1, 0, none⟩ = some (.int .i64 r0) ∧ wr.cell? ⟨w.heap.size + 1, 1, none⟩ = some (.bool r1) ∧ w.heap.size + 1 < wr.heap.size ∧ wr.cell? ⟨wo.heap.size, 0, none⟩ = some (.int .i64 xs[k].ship) ∧ wr.cell? ⟨wo.heap.size, 1, none⟩ = some (.int .i64 xs[k].segment) ∧ wr.cell? ⟨wo.heap.size, 2, none⟩ = some (.bool xs[k].toward) ∧ wr.cell? ⟨wo.heap.size, 3, none⟩ = some (.int .i64 xs[k].start) ∧ wr.cell? ⟨wo.heap.size, 4, none⟩ = some (.int .i64 xs[k].fin) ∧ wo.heap.size < wr.heap.size ∧ Below wo.heap.size wo wr) (fun i _ => k - (intOf i).toNat)
        case atStart => exact ⟨0, Nat.zero_le _, rfl, hide (fun m hm => by omega), cellKeep (B := wo.heap.size) (w1 := wo) (by repeat (first | exact Below.refl _ _ | assumption | refine Below.setCell ?_ (by first | omega | (simp <;> omega)) _ | refine Below.alloc ?_ (by first | omega | (simp <;> omega)) _ | refine below_drewN ?_ _ | refine Below.drew ?_ | refine Below.trans ?_ (Below.mono (by assumption) (by first | omega | (simp <;> omega))))) y0 (by omega), cellKeep (B := wo.heap.size) (w1 := wo) (by repeat (first | exact Below.refl _ _ | assumption | refine Below.setCell ?_ (by first | omega | (simp <;> omega)) _ | refine Below.alloc ?_ (by first | omega | (simp <;> omega)) _ | refine below_drewN ?_ _ | refine Below.drew ?_ | refine Below.trans ?_ (Below.mono (by assumption) (by first | omega | (simp <;> omega))))) y1 (by omega), cellKeep (B := wo.heap.size) (w1 := wo) (by repeat (first | exact Below.refl _ _ | assumption | refine Below.setCell ?_ (by first | omega | (simp <;> omega)) _ | refine Below.alloc ?_ (by first | omega | (simp <;> omega)) _ | refine below_drewN ?_ _ | refine Below.drew ?_ | refine Below.trans ?_ (Below.mono (by assumption) (by first | omega | (simp <;> omega))))) y2 (by omega), cellKeep (B := wo.heap.size) (w1 := wo) (by repeat (first | exact Below.refl _ _ | assumption | refine Below.setCell ?_ (by first | omega | (simp <;> omega)) _ | refine Below.alloc ?_ (by first | omega | (simp <;> omega)) _ | refine below_drewN ?_ _ | refine Below.drew ?_ | refine Below.trans ?_ (Below.mono (by assumption) (by first | omega | (simp <;> omega))))) y3 (by omega), by first | omega | (simp <;> omega), by simp [go_sem], by simp [go_sem], by simp [go_sem], by simp [go_sem], by simp [go_sem], by simp, (by repeat (first | exact Below.refl _ _ | assumption | refine Below.setCell ?_ (by first | omega | (simp <;> omega)) _ | refine Below.alloc ?_ (by first | omega | (simp <;> omega)) _ | refine below_drewN ?_ _ | refine Below.drew ?_ | refine Below.trans ?_ (Below.mono (by assumption) (by first | omega | (simp <;> omega)))))⟩
        case round =>
          obtain ⟨j, hj, rfl, HJ, z0, z1, z2, z3, hl1, q0, q1, q2, q3, q4, hl2, hbj⟩ := hrel
          have hbk := bnext hb0 hbj (Nat.le_refl _)
          have hbks := hbk.size
          by_cases hjk : j < k
          · have hjl : j < xs.length := by omega
            have hcell := HC.out
            have f0 : wr.cell? ⟨b3, o3 + j * 5, none⟩ = some (.int .i64 xs[j].ship) := by
              rw [hbk.cell (p := ⟨b3, _, none⟩) hb3]; have := hcell j xs[j] (List.getElem?_eq_getElem hjl) 0 _ rfl; simpa using this
            have f1 : wr.cell? ⟨b3, o3 + j * 5 + 1, none⟩ = some (.int .i64 xs[j].segment) := by
              rw [hbk.cell (p := ⟨b3, _, none⟩) hb3]; have := hcell j xs[j] (List.getElem?_eq_getElem hjl) 1 _ rfl; simpa using this
            have f2 : wr.cell? ⟨b3, o3 + j * 5 + 2, none⟩ = some (.bool xs[j].toward) := by
              rw [hbk.cell (p := ⟨b3, _, none⟩) hb3]; have := hcell j xs[j] (List.getElem?_eq_getElem hjl) 2 _ rfl; simpa using this
            have f3 : wr.cell? ⟨b3, o3 + j * 5 + 3, none⟩ = some (.int .i64 xs[j].start) := by
              rw [hbk.cell (p := ⟨b3, _, none⟩) hb3]; have := hcell j xs[j] (List.getElem?_eq_getElem hjl) 3 _ rfl; simpa using this
            have f4 : wr.cell? ⟨b3, o3 + j * 5 + 4, none⟩ = some (.int .i64 xs[j].fin) := by
              rw [hbk.cell (p := ⟨b3, _, none⟩) hb3]; have := hcell j xs[j] (List.getElem?_eq_getElem hjl) 4 _ rfl; simpa using this
            have hz3 : b3 < wr.heap.size := by omega
            have hz0 : w.heap.size < wr.heap.size := by omega
            have HP := hide (hxs xs[k] (List.getElem_mem hlt)); have HQ := hide (hxs xs[j] (List.getElem_mem hjl))
            have HB := hide (show hitB c r0 r1 (xs.getD j default) (xs.getD k default) = decide (conflictOf c r0 r1 xs[j] xs[k] ≠ 0) by unfold hitB; rw [getD_at hjl, getD_at hlt])
            have HXS := hide hxs
            have HV2 := hide (show conflictV c r0 r1 xs[j] xs[k] = conflictOf c r0 r1 xs[j] xs[k] by unfold conflictOf; rw [if_pos ⟨G1.out, G2.out⟩])
            clear hcell hxs y0 y1 y2 y3 e0 e1 e2 e3 e4
            by_cases hv : conflictOf c r0 r1 xs[j] xs[k] = 0
            · have hvb : (conflictOf c r0 r1 xs[j] xs[k] != 0) = false := by simp [hv]
              have HF := hide (show hitB c r0 r1 (xs.getD j default) (xs.getD k default) = false by rw [HB.out]; simp [hv])
              clear hv
              go_wp2_with (go_at_call 83; refine (calls_intC (conflict_v _ _ c r0 r1 xs[j] xs[k] _ ((HR.out.keep (B' := w.heap.size) (by repeat (first | exact Below.refl _ _ | assumption | refine Below.setCell ?_ (by first | omega | (simp <;> omega)) _ | refine Below.alloc ?_ (by first | omega | (simp <;> omega)) _ | refine below_drewN ?_ _ | refine Below.drew ?_ | refine Below.trans ?_ (Below.mono (by assumption) (by first | omega | (simp <;> omega))))) (Nat.le_refl _)).mono (by first | omega | (simp <;> omega))) G1.out G2.out HQ.out HP.out) HV2.out).mono ?_; rintro e w1 ⟨rfl, hb'⟩; (first | have hb := bnext hb hb' | have hb := bnextA hb hb' | have hb := hb'); clear hb'; obtain ⟨hc, hf⟩ := bcell hb; have hz := hb.size; (try simp at hz))
              go_roundw
              case rel => exact ⟨j + 1, by omega, by go_num, hide (none_succ HJ.out HF.out), cellKeep (B := wr.heap.size) (w1 := wr) (by repeat (first | exact Below.refl _ _ | assumption | refine Below.setCell ?_ (by first | omega | (simp <;> omega)) _ | refine Below.alloc ?_ (by first | omega | (simp <;> omega)) _ | refine below_drewN ?_ _ | refine Below.drew ?_ | refine Below.trans ?_ (Below.mono (by assumption) (by first | omega | (simp <;> omega))))) z0 (by omega), cellKeep (B := wr.heap.size) (w1 := wr) (by repeat (first | exact Below.refl _ _ | assumption | refine Below.setCell ?_ (by first | omega | (simp <;> omega)) _ | refine Below.alloc ?_ (by first | omega | (simp <;> omega)) _ | refine below_drewN ?_ _ | refine Below.drew ?_ | refine Below.trans ?_ (Below.mono (by assumption) (by first | omega | (simp <;> omega))))) z1 (by omega), cellKeep (B := wr.heap.size) (w1 := wr) (by repeat (first | exact Below.refl _ _ | assumption | refine Below.setCell ?_ (by first | omega | (simp <;> omega)) _ | refine Below.alloc ?_ (by first | omega | (simp <;> omega)) _ | refine below_drewN ?_ _ | refine Below.drew ?_ | refine Below.trans ?_ (Below.mono (by assumption) (by first | omega | (simp <;> omega))))) z2 (by omega), cellKeep (B := wr.heap.size) (w1 := wr) (by repeat (first | exact Below.refl _ _ | assumption | refine Below.setCell ?_ (by first | omega | (simp <;> omega)) _ | refine Below.alloc ?_ (by first | omega | (simp <;> omega)) _ | refine below_drewN ?_ _ | refine Below.drew ?_ | refine Below.trans ?_ (Below.mono (by assumption) (by first | omega | (simp <;> omega))))) z3 (by omega), by first | omega | (simp <;> omega), cellKeep (B := wr.heap.size) (w1 := wr) (by repeat (first | exact Below.refl _ _ | assumption | refine Below.setCell ?_ (by first | omega | (simp <;> omega)) _ | refine Below.alloc ?_ (by first | omega | (simp <;> omega)) _ | refine below_drewN ?_ _ | refine Below.drew ?_ | refine Below.trans ?_ (Below.mono (by assumption) (by first | omega | (simp <;> omega))))) q0 hl2, cellKeep (B := wr.heap.size) (w1 := wr) (by repeat (first | exact Below.refl _ _ | assumption | refine Below.setCell ?_ (by first | omega | (simp <;> omega)) _ | refine Below.alloc ?_ (by first | omega | (simp <;> omega)) _ | refine below_drewN ?_ _ | refine Below.drew ?_ | refine Below.trans ?_ (Below.mono (by assumption) (by first | omega | (simp <;> omega))))) q1 hl2, cellKeep (B := wr.heap.size) (w1 := wr) (by repeat (first | exact Below.refl _ _ | assumption | refine Below.setCell ?_ (by first | omega | (simp <;> omega)) _ | refine Below.alloc ?_ (by first | omega | (simp <;> omega)) _ | refine below_drewN ?_ _ | refine Below.drew ?_ | refine Below.trans ?_ (Below.mono (by assumption) (by first | omega | (simp <;> omega))))) q2 hl2, cellKeep (B := wr.heap.size) (w1 := wr) (by repeat (first | exact Below.refl _ _ | assumption | refine Below.setCell ?_ (by first | omega | (simp <;> omega)) _ | refine Below.alloc ?_ (by first | omega | (simp <;> omega)) _ | refine below_drewN ?_ _ | refine Below.drew ?_ | refine Below.trans ?_ (Below.mono (by assumption) (by first | omega | (simp <;> omega))))) q3 hl2, cellKeep (B := wr.heap.size) (w1 := wr) (by repeat (first | exact Below.refl _ _ | assumption | refine Below.setCell ?_ (by first | omega | (simp <;> omega)) _ | refine Below.alloc ?_ (by first | omega | (simp <;> omega)) _ | refine below_drewN ?_ _ | refine Below.drew ?_ | refine Below.trans ?_ (Below.mono (by assumption) (by first | omega | (simp <;> omega))))) q4 hl2, by first | omega | (simp <;> omega), bnext hbj (w1 := wr) (by repeat (first | exact Below.refl _ _ | assumption | refine Below.setCell ?_ (by first | omega | (simp <;> omega)) _ | refine Below.alloc ?_ (by first | omega | (simp <;> omega)) _ | refine below_drewN ?_ _ | refine Below.drew ?_ | refine Below.trans ?_ (Below.mono (by assumption) (by first | omega | (simp <;> omega))))) (Nat.le_refl _)⟩
              case measure => simp [intOf]; omega
            · have hvb : (conflictOf c r0 r1 xs[j] xs[k] != 0) = true := by simpa using hv
              have HF := hide (fc_hit hlt hjk HN.out HJ.out (by rw [HB.out]; simpa using hv))
              clear hv
              go_wp2_with (go_at_call 83; refine (calls_intC (conflict_v _ _ c r0 r1 xs[j] xs[k] _ ((HR.out.keep (B' := w.heap.size) (by repeat (first | exact Below.refl _ _ | assumption | refine Below.setCell ?_ (by first | omega | (simp <;> omega)) _ | refine Below.alloc ?_ (by first | omega | (simp <;> omega)) _ | refine below_drewN ?_ _ | refine Below.drew ?_ | refine Below.trans ?_ (Below.mono (by assumption) (by first | omega | (simp <;> omega))))) (Nat.le_refl _)).mono (by first | omega | (simp <;> omega))) G1.out G2.out HQ.out HP.out) HV2.out).mono ?_; rintro e w1 ⟨rfl, hb'⟩; (first | have hb := bnext hb hb' | have hb := bnextA hb hb' | have hb := hb'); clear hb'; obtain ⟨hc, hf⟩ := bcell hb; have hz := hb.size; (try simp at hz))
              go_ret3
              have hfc := HF.out
              rw [getD_at hjl, getD_at hlt] at hfc
              exact ⟨by rw [hfc.1, hfc.2.1, hfc.2.2]; first | done | rfl, (by repeat (first | exact Below.refl _ _ | assumption | refine Below.setCell ?_ (by first | omega | (simp <;> omega)) _ | refine Below.alloc ?_ (by first | omega | (simp <;> omega)) _ | refine below_drewN ?_ _ | refine Below.drew ?_ | refine Below.trans ?_ (Below.mono (by assumption) (by first | omega | (simp <;> omega)))))⟩
          · obtain rfl : j = k := by omega
            have HT := hide (row_none HJ.out)
            go_wp2
            go_roundw
            case rel => exact ⟨j + 1, by omega, by go_num, hide (none_succ HN.out HT.out), cellKeep hbj y0 (by omega), cellKeep hbj y1 (by omega), cellKeep hbj y2 (by omega), cellKeep hbj y3 (by omega), by omega, hbk⟩
            case measure => simp [intOf]; omega
      · obtain rfl : k = xs.length := by omega
        have HF := hide (fc_none HN.out)
        go_wp2
        go_ret3
        have hfc := HF.out
        exact ⟨by rw [hfc.1, hfc.2.1, hfc.2.2]; first | done | rfl, (by repeat (first | exact Below.refl _ _ | assumption | refine Below.setCell ?_ (by first | omega | (simp <;> omega)) _ | refine Below.alloc ?_ (by first | omega | (simp <;> omega)) _ | refine below_drewN ?_ _ | refine Below.drew ?_ | refine Below.trans ?_ (Below.mono (by assumption) (by first | omega | (simp <;> omega)))))⟩
  all_goals
    have HF := hide (fc_bad (c := c) (r0 := r0) (r1 := r1) (xs := xs) (by simp [*]))
    clear h3
    go_enter Try.func40, Try.ntmps40
    go_wp2_with (first
      | (go_at_call 70; refine (impl_ChartOk_any _ _ c _ ((HR.out.keep (B' := w.heap.size) (by repeat (first | exact Below.refl _ _ | assumption | refine Below.setCell ?_ (by first | omega | (simp <;> omega)) _ | refine Below.alloc ?_ (by first | omega | (simp <;> omega)) _ | refine below_drewN ?_ _ | refine Below.drew ?_ | refine Below.trans ?_ (Below.mono (by assumption) (by first | omega | (simp <;> omega))))) (Nat.le_refl _)).mono (by first | omega | (simp <;> omega))) hok).mono ?_; rintro e w1 ⟨rfl, hb'⟩; (first | have hb := bnext hb hb' | have hb := bnextA hb hb' | have hb := hb'); clear hb'; obtain ⟨hc, hf⟩ := bcell hb; have hz := hb.size; (try simp at hz))
      | (go_at_call 59; refine (impl_RegimeOk_any _ _ _).mono ?_; rintro e w1 ⟨rfl, hb'⟩; (first | have hb := bnext hb hb' | have hb := bnextA hb hb' | have hb := hb'); clear hb'; obtain ⟨hc, hf⟩ := bcell hb; have hz := hb.size; (try simp at hz)))
    go_ret3
    have hfc := HF.out
    exact ⟨by rw [hfc.1, hfc.2.1, hfc.2.2]; first | done | rfl, (by repeat (first | exact Below.refl _ _ | assumption | refine Below.setCell ?_ (by first | omega | (simp <;> omega)) _ | refine Below.alloc ?_ (by first | omega | (simp <;> omega)) _ | refine below_drewN ?_ _ | refine Below.drew ?_ | refine Below.trans ?_ (Below.mono (by assumption) (by first | omega | (simp <;> omega)))))⟩
end Go.Proofs.Ytefidlecandnlaa
