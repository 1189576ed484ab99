/- Routes and the passages of routes. No condition. -/
import Derived.Test.YtpbcbdjjpkenjaaGreatPts
import Derived.Test.YtpbcbdjjpkenjaaGreatPass
import Derived.Deep.RegionHeld3
namespace Go.Proofs.YtpbcbdjjpkenjaaGreat
open Go.RowKit
set_option linter.unusedVariables false

theorem routeOk_res {c : ChartD} {p : Int} {r : List Int} : routeOk c p r = (chartOk c && (ptsRes c p r).isSome) := by
  unfold routeOk ptsRes; cases hc : chartOk c <;> cases hp : inB p 0 ((c.points.length : Int) - 1) <;> simp
theorem routePts_res {c : ChartD} {p : Int} {r : List Int} (h : chartOk c = true) : routePts c p r = (ptsRes c p r).getD [] := by
  unfold routePts; rw [routeOk_res, h, Bool.true_and]; unfold ptsRes
  cases hp : inB p 0 ((c.points.length : Int) - 1)
  · simp
  · simp; cases rtPts c [p] r <;> simp
def stIn (st : List Int) (i : Nat) : Bool := inB (st.getD i default) 0 2880
def pasRow (c : ChartD) (ship : Int) (s : ShipD) (pts r st : List Int) (i : Nat) : PassageD := ⟨ship, r.getD i default, (segAt c (r.getD i default)).a == pts.getD i default, st.getD i default, st.getD i default + shipMinutes (segAt c (r.getD i default)) s⟩
def pasList (c : ChartD) (ship : Int) (s : ShipD) (pts r st : List Int) (n : Nat) : List PassageD := (List.range n).map (pasRow c ship s pts r st)
def pasOk (c : ChartD) (s : ShipD) (p : Int) (r st : List Int) : Bool := routeOk c p r && shipOk s && decide ((r.length : Int) = st.length) && allUpTo (stIn st) r.length
def passagesOf (c : ChartD) (ship : Int) (s : ShipD) (p : Int) (r st : List Int) : List PassageD := if pasOk c s p r st = true then pasList c ship s (routePts c p r) r st r.length else []
theorem pasList_succ {c : ChartD} {ship : Int} {s : ShipD} {pts r st : List Int} {k : Nat} : pasList c ship s pts r st (k + 1) = pasList c ship s pts r st k ++ [pasRow c ship s pts r st k] := by unfold pasList; rw [List.range_succ]; simp
theorem pasList_len {c : ChartD} {ship : Int} {s : ShipD} {pts r st : List Int} {k : Nat} : (pasList c ship s pts r st k).length = k := by unfold pasList; simp
theorem pas_len (c : ChartD) (ship : Int) (s : ShipD) (p : Int) (r st : List Int) : (passagesOf c ship s p r st).length ≤ r.length := by unfold passagesOf; split; rw [pasList_len]; exact Nat.le_refl _; simp
theorem pass_one (x : PassageD) : ∀ u ∈ PassageD.enc x, u.oneCell' = true := by
  intro u hu; simp [PassageD.enc] at hu; rcases hu with rfl | rfl | rfl | rfl | rfl <;> rfl
theorem rdP (W : World) (T : TypeId) (a b : Int) (t : Bool) (d e : Int) : Rd (W.alloc (.cells #[.int .i64 a, .int .i64 b, .bool t, .int .i64 d, .int .i64 e] T)) 5 PassageD.enc (.slice (some ⟨W.heap.size, 0, none⟩) 1 1) [⟨a, b, t, d, e⟩] := rd_new (enc := PassageD.enc) (sz := 5) W ⟨a, b, t, d, e⟩ T
theorem rd_grownP {α : Type} {w w' : World} {sz : Nat} {enc : α → List Value} {v : Value} {xs : List α} {row : Option Nat} (h : Rd w sz enc v xs) (hg : w.grownBy w' row) (hne : ∀ g, v.ownBlock = some g → row = some g → False) : Rd w' sz enc v xs := by
  obtain ⟨A, c, rfl, hc, hm, h⟩ := h
  refine ⟨A, c, rfl, hc, hm, fun h0 => ?_⟩
  obtain ⟨b, off, rfl, hlt, hcell⟩ := h h0
  exact ⟨b, off, rfl, Nat.lt_of_lt_of_le hlt hg.size, fun i x hx j u hu => (World.cell?_of_block (hg.block b hlt (fun e => hne b rfl e.symm))).trans (hcell i x hx j u hu)⟩
theorem rt_seg {c : ChartD} : ∀ {r ps qs : List Int}, rtPts c ps r = some qs → ∀ (k : Nat) (hk : k < r.length), inB r[k] 0 ((c.segs.length : Int) - 1) = true
  | [], _, _, _, k, hk => by simp at hk
  | x :: r, ps, qs, h, k, hk => by
    rw [rtPts] at h; split at h
    · rename_i hs
      cases k with
      | zero => unfold stepOk at hs; simp only [Bool.and_eq_true] at hs; exact hs.1
      | succ k => exact rt_seg h k (by simpa using hk)
    · cases h
theorem route_ok {c : ChartD} {p : Int} {r : List Int} (h : routeOk c p r = true) : chartOk c = true ∧ (routePts c p r).length = r.length + 1 ∧ ∀ (k : Nat) (hk : k < r.length), inB r[k] 0 ((c.segs.length : Int) - 1) = true := by
  have h' := h
  unfold routeOk at h
  simp only [Bool.and_eq_true] at h
  obtain ⟨qs, hq⟩ := Option.isSome_iff_exists.1 h.2
  refine ⟨h.1.1, ?_, rt_seg hq⟩
  unfold routePts; rw [if_pos h', hq]; have := rtPts_len hq; simp at this ⊢; omega
set_option maxRecDepth 100000 in
set_option maxHeartbeats 4000000 in
theorem spec_RouteOk_any (v1 v2 v3 : Value) (c : ChartD) (p : Int) (r : List Int) (w : World) (h : RdChart w w.heap.size v1 v2 c) (h3 : RdI w v3 r) (hn : r.length ≤ 1048576) (hok : ∀ x ∈ c.points, x.name.size ≤ maxLen) :
    Calls Tryz.prog 67 #[.agg #[v1, v2], .int .i64 p, v3] w fun e w' => e = .returned (.bool (routeOk c p r)) ∧ Below w.heap.size w w' := by
  have HR := hide h; have HR3 := hide h3
  obtain ⟨h1, h2⟩ := h
  obtain ⟨A1, c1, rfl, hc1, hm1, h1⟩ := h1
  obtain ⟨A2, c2, rfl, hc2, hm2, h2⟩ := h2
  obtain ⟨A3, c3, rfl, hc3, hm3, h3⟩ := h3
  unfold maxLen at hm1 hm2 hm3
  clear h1 h2 h3
  have hl1 : (c.points.length : Int) ≤ 9223372036854775807 := by omega
  rcases ch2 (chartOk c) (inB p 0 ((c.points.length : Int) - 1)) with ⟨g1, g2⟩ | g1 | ⟨g1, g2⟩
  all_goals
    have HV := hide (show routeOk c p r = (chartOk c && inB p 0 ((c.points.length : Int) - 1) && (rtPts c [p] r).isSome) from rfl)
    go_enter Tryz.func67, Tryz.ntmps67
    go_wp2_with (first | (go_at_call 103; refine (spec_ChartOk_any _ _ c _ ((HR.out.keep (B' := w.heap.size) (by repeat (first | exact Below.refl _ _ | assumption | refine Below.setCell ?_ (by first | omega | (simp <;> omega)) _ | refine Below.alloc ?_ (by first | omega | (simp <;> omega)) _ | refine below_drewN ?_ _ | refine Below.drew ?_ | refine Below.trans ?_ (Below.mono (by assumption) (by first | omega | (simp <;> omega))))) (Nat.le_refl _)).mono (by first | omega | (simp <;> omega))) hok).mono ?_; rintro e w1 ⟨rfl, hb'⟩; (first | have hb := bnext hb hb' | have hb := bnextA hb hb' | have hb := hb'); clear hb'; obtain ⟨hc, hf⟩ := bcell hb; have hz := hb.size; (try simp at hz)) | (go_at_call 105; refine (l01In_any _ _ _ _).mono ?_; rintro e w1 ⟨rfl, hw⟩; obtain rfl := hw.symm) | (go_at_call 113; refine (l05Points_any _ _ _ c p r _ ((HR.out.keep (B' := w.heap.size) (by repeat (first | exact Below.refl _ _ | assumption | refine Below.setCell ?_ (by first | omega | (simp <;> omega)) _ | refine Below.alloc ?_ (by first | omega | (simp <;> omega)) _ | refine below_drewN ?_ _ | refine Below.drew ?_ | refine Below.trans ?_ (Below.mono (by assumption) (by first | omega | (simp <;> omega))))) (Nat.le_refl _)).mono (by first | omega | (simp <;> omega))) ((HR3.out.keep (B' := w.heap.size) (by repeat (first | exact Below.refl _ _ | assumption | refine Below.setCell ?_ (by first | omega | (simp <;> omega)) _ | refine Below.alloc ?_ (by first | omega | (simp <;> omega)) _ | refine below_drewN ?_ _ | refine Below.drew ?_ | refine Below.trans ?_ (Below.mono (by assumption) (by first | omega | (simp <;> omega))))) (Nat.le_refl _)).mono (by first | omega | (simp <;> omega))) hn).mono ?_; rintro e w1 ⟨v', rfl, hres, hb'⟩; have HB := hide hb'; (first | have hb := bnext hb hb' | have hb := bnextA hb hb' | have hb := hb'); clear hb'; obtain ⟨hc, hf⟩ := bcell hb; have hz := hb.size; (try simp at hz)))
    go_ret
    exact ⟨by rw [HV.out]; simp [*], (by repeat (first | exact Below.refl _ _ | assumption | refine Below.setCell ?_ (by first | omega | (simp <;> omega)) _ | refine Below.alloc ?_ (by first | omega | (simp <;> omega)) _ | refine below_drewN ?_ _ | refine Below.drew ?_ | refine Below.trans ?_ (Below.mono (by assumption) (by first | omega | (simp <;> omega)))))⟩
set_option maxRecDepth 100000 in
set_option maxHeartbeats 4000000 in
theorem impl_RouteOk_any (v1 v2 v3 : Value) (c : ChartD) (p : Int) (r : List Int) (w : World) (h : RdChart w w.heap.size v1 v2 c) (h3 : RdI w v3 r) (hn : r.length ≤ 1048576) (hok : ∀ x ∈ c.points, x.name.size ≤ maxLen) :
    Calls Tryz.prog 116 #[.agg #[v1, v2], .int .i64 p, v3] w fun e w' => e = .returned (.bool (routeOk c p r)) ∧ Below w.heap.size w w' := by
  have HR := hide h; have HR3 := hide h3
  obtain ⟨h1, h2⟩ := h
  obtain ⟨A1, c1, rfl, hc1, hm1, h1⟩ := h1
  obtain ⟨A2, c2, rfl, hc2, hm2, h2⟩ := h2
  obtain ⟨A3, c3, rfl, hc3, hm3, h3⟩ := h3
  unfold maxLen at hm1 hm2 hm3
  clear h1 h2 h3
  have hl1 : (c.points.length : Int) ≤ 9223372036854775807 := by omega
  rcases ch1 (chartOk c) with g1 | g1
  all_goals
    have G1 := hide g1
    have HV := hide (routeOk_res (c := c) (p := p) (r := r))
    go_enter Tryz.func116, Tryz.ntmps116
    go_wp2_with (first | (go_at_call 87; refine (impl_ChartOk_any _ _ c _ ((HR.out.keep (B' := w.heap.size) (by repeat (first | exact Below.refl _ _ | assumption | refine Below.setCell ?_ (by first | omega | (simp <;> omega)) _ | refine Below.alloc ?_ (by first | omega | (simp <;> omega)) _ | refine below_drewN ?_ _ | refine Below.drew ?_ | refine Below.trans ?_ (Below.mono (by assumption) (by first | omega | (simp <;> omega))))) (Nat.le_refl _)).mono (by first | omega | (simp <;> omega))) hok).mono ?_; rintro e w1 ⟨rfl, hb'⟩; (first | have hb := bnext hb hb' | have hb := bnextA hb hb' | have hb := hb'); clear hb'; obtain ⟨hc, hf⟩ := bcell hb; have hz := hb.size; (try simp at hz)) | (go_at_call 140; refine (points_any _ _ _ c p r _ ((HR.out.keep (B' := w.heap.size) (by repeat (first | exact Below.refl _ _ | assumption | refine Below.setCell ?_ (by first | omega | (simp <;> omega)) _ | refine Below.alloc ?_ (by first | omega | (simp <;> omega)) _ | refine below_drewN ?_ _ | refine Below.drew ?_ | refine Below.trans ?_ (Below.mono (by assumption) (by first | omega | (simp <;> omega))))) (Nat.le_refl _)).mono (by first | omega | (simp <;> omega))) ((HR3.out.keep (B' := w.heap.size) (by repeat (first | exact Below.refl _ _ | assumption | refine Below.setCell ?_ (by first | omega | (simp <;> omega)) _ | refine Below.alloc ?_ (by first | omega | (simp <;> omega)) _ | refine below_drewN ?_ _ | refine Below.drew ?_ | refine Below.trans ?_ (Below.mono (by assumption) (by first | omega | (simp <;> omega))))) (Nat.le_refl _)).mono (by first | omega | (simp <;> omega))) hn G1.out).mono ?_; rintro e w1 ⟨v', rfl, hres, hnil, hb'⟩; have HB := hide hb'; (first | have hb := bnext hb hb' | have hb := bnextA hb hb' | have hb := hb'); clear hb'; obtain ⟨hc, hf⟩ := bcell hb; have hz := hb.size; (try simp at hz)))
    go_ret
    exact ⟨by rw [HV.out]; simp [G1.out], (by repeat (first | exact Below.refl _ _ | assumption | refine Below.setCell ?_ (by first | omega | (simp <;> omega)) _ | refine Below.alloc ?_ (by first | omega | (simp <;> omega)) _ | refine below_drewN ?_ _ | refine Below.drew ?_ | refine Below.trans ?_ (Below.mono (by assumption) (by first | omega | (simp <;> omega)))))⟩
set_option maxRecDepth 100000 in
set_option maxHeartbeats 4000000 in
theorem spec_RoutePoints_any (v1 v2 v3 : Value) (c : ChartD) (p : Int) (r : List Int) (w : World) (h : RdChart w w.heap.size v1 v2 c) (h3 : RdI w v3 r) (hn : r.length ≤ 1048576) (hok : ∀ x ∈ c.points, x.name.size ≤ maxLen) :
    Calls Tryz.prog 69 #[.agg #[v1, v2], .int .i64 p, v3] w fun e w' => ∃ v, e = .returned v ∧ Own w' w.heap.size 3 1 encI v (routePts c p r) ∧ Below w.heap.size w w' := by
  have HR := hide h; have HR3 := hide h3
  obtain ⟨h1, h2⟩ := h
  obtain ⟨A1, c1, rfl, hc1, hm1, h1⟩ := h1
  obtain ⟨A2, c2, rfl, hc2, hm2, h2⟩ := h2
  obtain ⟨A3, c3, rfl, hc3, hm3, h3⟩ := h3
  unfold maxLen at hm1 hm2 hm3
  clear h1 h2 h3
  have hl1 : (c.points.length : Int) ≤ 9223372036854775807 := by omega
  rcases ch1 (routeOk c p r) with g1 | g1
  · have HV := hide (show routePts c p r = (rtPts c [p] r).getD [] by unfold routePts; rw [if_pos g1])
    have hsome : (rtPts c [p] r).isSome = true := by unfold routeOk at g1; simp only [Bool.and_eq_true] at g1; exact g1.2
    obtain ⟨qs, hqs⟩ := Option.isSome_iff_exists.1 hsome
    have HQ := hide hqs; clear hqs hsome
    go_enter Tryz.func69, Tryz.ntmps69
    go_wp2_with (first | (go_at_call 67; refine (spec_RouteOk_any _ _ _ c p r _ ((HR.out.keep (B' := w.heap.size) (by repeat (first | exact Below.refl _ _ | assumption | refine Below.setCell ?_ (by first | omega | (simp <;> omega)) _ | refine Below.alloc ?_ (by first | omega | (simp <;> omega)) _ | refine below_drewN ?_ _ | refine Below.drew ?_ | refine Below.trans ?_ (Below.mono (by assumption) (by first | omega | (simp <;> omega))))) (Nat.le_refl _)).mono (by first | omega | (simp <;> omega))) ((HR3.out.keep (B' := w.heap.size) (by repeat (first | exact Below.refl _ _ | assumption | refine Below.setCell ?_ (by first | omega | (simp <;> omega)) _ | refine Below.alloc ?_ (by first | omega | (simp <;> omega)) _ | refine below_drewN ?_ _ | refine Below.drew ?_ | refine Below.trans ?_ (Below.mono (by assumption) (by first | omega | (simp <;> omega))))) (Nat.le_refl _)).mono (by first | omega | (simp <;> omega))) hn hok).mono ?_; rintro e w1 ⟨rfl, hb'⟩; (first | have hb := bnext hb hb' | have hb := bnextA hb hb' | have hb := hb'); clear hb'; obtain ⟨hc, hf⟩ := bcell hb; have hz := hb.size; (try simp at hz)) | (go_at_call 113; refine (l05Points_any _ _ _ c p r _ ((HR.out.keep (B' := w.heap.size) (by repeat (first | exact Below.refl _ _ | assumption | refine Below.setCell ?_ (by first | omega | (simp <;> omega)) _ | refine Below.alloc ?_ (by first | omega | (simp <;> omega)) _ | refine below_drewN ?_ _ | refine Below.drew ?_ | refine Below.trans ?_ (Below.mono (by assumption) (by first | omega | (simp <;> omega))))) (Nat.le_refl _)).mono (by first | omega | (simp <;> omega))) ((HR3.out.keep (B' := w.heap.size) (by repeat (first | exact Below.refl _ _ | assumption | refine Below.setCell ?_ (by first | omega | (simp <;> omega)) _ | refine Below.alloc ?_ (by first | omega | (simp <;> omega)) _ | refine below_drewN ?_ _ | refine Below.drew ?_ | refine Below.trans ?_ (Below.mono (by assumption) (by first | omega | (simp <;> omega))))) (Nat.le_refl _)).mono (by first | omega | (simp <;> omega))) hn).mono ?_; rintro e w1 ⟨v', rfl, hres, hb'⟩; have HB := hide hb'; (first | have hb := bnext hb hb' | have hb := bnextA hb hb' | have hb := hb'); clear hb'; obtain ⟨hc, hf⟩ := bcell hb; have hz := hb.size; (try simp at hz)))
    go_ret
    exact ⟨_, rfl, by rw [HV.out, HQ.out]; exact (hres _ HQ.out).mono (by first | omega | (have := HB.out.size; simp at hz; omega)), (by repeat (first | exact Below.refl _ _ | assumption | refine Below.setCell ?_ (by first | omega | (simp <;> omega)) _ | refine Below.alloc ?_ (by first | omega | (simp <;> omega)) _ | refine below_drewN ?_ _ | refine Below.drew ?_ | refine Below.trans ?_ (Below.mono (by assumption) (by first | omega | (simp <;> omega)))))⟩
  · have HV := hide (show routePts c p r = [] by unfold routePts; rw [if_neg (by rw [g1]; simp)])
    go_enter Tryz.func69, Tryz.ntmps69
    go_wp2_with (go_at_call 67; refine (spec_RouteOk_any _ _ _ c p r _ ((HR.out.keep (B' := w.heap.size) (by repeat (first | exact Below.refl _ _ | assumption | refine Below.setCell ?_ (by first | omega | (simp <;> omega)) _ | refine Below.alloc ?_ (by first | omega | (simp <;> omega)) _ | refine below_drewN ?_ _ | refine Below.drew ?_ | refine Below.trans ?_ (Below.mono (by assumption) (by first | omega | (simp <;> omega))))) (Nat.le_refl _)).mono (by first | omega | (simp <;> omega))) ((HR3.out.keep (B' := w.heap.size) (by repeat (first | exact Below.refl _ _ | assumption | refine Below.setCell ?_ (by first | omega | (simp <;> omega)) _ | refine Below.alloc ?_ (by first | omega | (simp <;> omega)) _ | refine below_drewN ?_ _ | refine Below.drew ?_ | refine Below.trans ?_ (Below.mono (by assumption) (by first | omega | (simp <;> omega))))) (Nat.le_refl _)).mono (by first | omega | (simp <;> omega))) hn hok).mono ?_; rintro e w1 ⟨rfl, hb'⟩; (first | have hb := bnext hb hb' | have hb := bnextA hb hb' | have hb := hb'); clear hb'; obtain ⟨hc, hf⟩ := bcell hb; have hz := hb.size; (try simp at hz))
    go_ret
    exact ⟨_, rfl, by rw [HV.out]; exact Own.nil_, (by repeat (first | exact Below.refl _ _ | assumption | refine Below.setCell ?_ (by first | omega | (simp <;> omega)) _ | refine Below.alloc ?_ (by first | omega | (simp <;> omega)) _ | refine below_drewN ?_ _ | refine Below.drew ?_ | refine Below.trans ?_ (Below.mono (by assumption) (by first | omega | (simp <;> omega)))))⟩
set_option maxRecDepth 100000 in
set_option maxHeartbeats 4000000 in
theorem impl_RoutePoints_any (v1 v2 v3 : Value) (c : ChartD) (p : Int) (r : List Int) (w : World) (h : RdChart w w.heap.size v1 v2 c) (h3 : RdI w v3 r) (hn : r.length ≤ 1048576) (hok : ∀ x ∈ c.points, x.name.size ≤ maxLen) :
    Calls Tryz.prog 117 #[.agg #[v1, v2], .int .i64 p, v3] w fun e w' => ∃ v, e = .returned v ∧ Own w' w.heap.size 3 1 encI v (routePts c p r) ∧ Below w.heap.size w w' := by
  have HR := hide h; have HR3 := hide h3
  obtain ⟨h1, h2⟩ := h
  obtain ⟨A1, c1, rfl, hc1, hm1, h1⟩ := h1
  obtain ⟨A2, c2, rfl, hc2, hm2, h2⟩ := h2
  obtain ⟨A3, c3, rfl, hc3, hm3, h3⟩ := h3
  unfold maxLen at hm1 hm2 hm3
  clear h1 h2 h3
  have hl1 : (c.points.length : Int) ≤ 9223372036854775807 := by omega
  rcases ch1 (chartOk c) with g1 | g1
  · have G1 := hide g1
    have HV := hide (routePts_res (p := p) (r := r) g1)
    go_enter Tryz.func117, Tryz.ntmps117
    go_wp2_with (first | (go_at_call 87; refine (impl_ChartOk_any _ _ c _ ((HR.out.keep (B' := w.heap.size) (by repeat (first | exact Below.refl _ _ | assumption | refine Below.setCell ?_ (by first | omega | (simp <;> omega)) _ | refine Below.alloc ?_ (by first | omega | (simp <;> omega)) _ | refine below_drewN ?_ _ | refine Below.drew ?_ | refine Below.trans ?_ (Below.mono (by assumption) (by first | omega | (simp <;> omega))))) (Nat.le_refl _)).mono (by first | omega | (simp <;> omega))) hok).mono ?_; rintro e w1 ⟨rfl, hb'⟩; (first | have hb := bnext hb hb' | have hb := bnextA hb hb' | have hb := hb'); clear hb'; obtain ⟨hc, hf⟩ := bcell hb; have hz := hb.size; (try simp at hz)) | (go_at_call 140; refine (points_any _ _ _ c p r _ ((HR.out.keep (B' := w.heap.size) (by repeat (first | exact Below.refl _ _ | assumption | refine Below.setCell ?_ (by first | omega | (simp <;> omega)) _ | refine Below.alloc ?_ (by first | omega | (simp <;> omega)) _ | refine below_drewN ?_ _ | refine Below.drew ?_ | refine Below.trans ?_ (Below.mono (by assumption) (by first | omega | (simp <;> omega))))) (Nat.le_refl _)).mono (by first | omega | (simp <;> omega))) ((HR3.out.keep (B' := w.heap.size) (by repeat (first | exact Below.refl _ _ | assumption | refine Below.setCell ?_ (by first | omega | (simp <;> omega)) _ | refine Below.alloc ?_ (by first | omega | (simp <;> omega)) _ | refine below_drewN ?_ _ | refine Below.drew ?_ | refine Below.trans ?_ (Below.mono (by assumption) (by first | omega | (simp <;> omega))))) (Nat.le_refl _)).mono (by first | omega | (simp <;> omega))) hn G1.out).mono ?_; rintro e w1 ⟨v', rfl, hres, hnil, hb'⟩; have HB := hide hb'; (first | have hb := bnext hb hb' | have hb := bnextA hb hb' | have hb := hb'); clear hb'; obtain ⟨hc, hf⟩ := bcell hb; have hz := hb.size; (try simp at hz)))
    go_ret
    refine ⟨_, rfl, ?_, (by repeat (first | exact Below.refl _ _ | assumption | refine Below.setCell ?_ (by first | omega | (simp <;> omega)) _ | refine Below.alloc ?_ (by first | omega | (simp <;> omega)) _ | refine below_drewN ?_ _ | refine Below.drew ?_ | refine Below.trans ?_ (Below.mono (by assumption) (by first | omega | (simp <;> omega)))))⟩
    rw [HV.out]
    cases hq : ptsRes c p r with
    | none => have hv := hnil hq; (try simp only [go_sem]); first | (rw [hv]; exact Own.nil_) | (subst hv; exact Own.nil_)
    | some qs => exact (hres _ hq).mono (by first | omega | (have := HB.out.size; simp at hz; omega))
  · have HV := hide (show routePts c p r = [] by unfold routePts; rw [if_neg (by unfold routeOk; rw [g1]; simp)])
    go_enter Tryz.func117, Tryz.ntmps117
    go_wp2_with (go_at_call 87; refine (impl_ChartOk_any _ _ c _ ((HR.out.keep (B' := w.heap.size) (by repeat (first | exact Below.refl _ _ | assumption | refine Below.setCell ?_ (by first | omega | (simp <;> omega)) _ | refine Below.alloc ?_ (by first | omega | (simp <;> omega)) _ | refine below_drewN ?_ _ | refine Below.drew ?_ | refine Below.trans ?_ (Below.mono (by assumption) (by first | omega | (simp <;> omega))))) (Nat.le_refl _)).mono (by first | omega | (simp <;> omega))) hok).mono ?_; rintro e w1 ⟨rfl, hb'⟩; (first | have hb := bnext hb hb' | have hb := bnextA hb hb' | have hb := hb'); clear hb'; obtain ⟨hc, hf⟩ := bcell hb; have hz := hb.size; (try simp at hz))
    go_ret
    exact ⟨_, rfl, by rw [HV.out]; exact Own.nil_, (by repeat (first | exact Below.refl _ _ | assumption | refine Below.setCell ?_ (by first | omega | (simp <;> omega)) _ | refine Below.alloc ?_ (by first | omega | (simp <;> omega)) _ | refine below_drewN ?_ _ | refine Below.drew ?_ | refine Below.trans ?_ (Below.mono (by assumption) (by first | omega | (simp <;> omega)))))⟩
end Go.Proofs.YtpbcbdjjpkenjaaGreat
