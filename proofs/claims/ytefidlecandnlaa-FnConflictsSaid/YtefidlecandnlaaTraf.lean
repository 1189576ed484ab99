/- Passages drawn out of bytes, with their chart, their fleet and their regime. No condition. -/
import Derived.Test.YtefidlecandnlaaChDraw
import Derived.Test.YtefidlecandnlaaFleetOk
import Derived.Test.YtefidlecandnlaaRegDraw
import Derived.Test.YtefidlecandnlaaAfloat
import Derived.Test.YtefidlecandnlaaSPassage
import Derived.Deep.RegionHeld3
namespace Go.Proofs.Ytefidlecandnlaa
open Go.RowKit
set_option linter.unusedVariables false
/-- a passage's variable, just made -/
def VarZ (g : Nat) (w : World) (X : Nat) : Prop := w.cell? ⟨X, 0, none⟩ = some (.int .i64 0) ∧ w.cell? ⟨X, 1, none⟩ = some (.int .i64 0) ∧ w.cell? ⟨X, 2, none⟩ = some (.bool false) ∧ w.cell? ⟨X, 3, none⟩ = some (.int .i64 0) ∧ w.cell? ⟨X, 4, none⟩ = some (.int .i64 0) ∧
  w.frozen? ⟨X, 0, none⟩ = false ∧ w.frozen? ⟨X, 1, none⟩ = false ∧ w.frozen? ⟨X, 2, none⟩ = false ∧ w.frozen? ⟨X, 3, none⟩ = false ∧ w.frozen? ⟨X, 4, none⟩ = false ∧ X < w.heap.size ∧ ¬ X = g
theorem VarZ.out {g : Nat} {w : World} {X : Nat} (h : VarZ g w X) : w.cell? ⟨X, 0, none⟩ = some (.int .i64 0) ∧ w.cell? ⟨X, 1, none⟩ = some (.int .i64 0) ∧ w.cell? ⟨X, 2, none⟩ = some (.bool false) ∧ w.cell? ⟨X, 3, none⟩ = some (.int .i64 0) ∧ w.cell? ⟨X, 4, none⟩ = some (.int .i64 0) ∧
  w.frozen? ⟨X, 0, none⟩ = false ∧ w.frozen? ⟨X, 1, none⟩ = false ∧ w.frozen? ⟨X, 2, none⟩ = false ∧ w.frozen? ⟨X, 3, none⟩ = false ∧ w.frozen? ⟨X, 4, none⟩ = false ∧ X < w.heap.size ∧ ¬ X = g := h
theorem VarZ.ne {g : Nat} {w : World} {X : Nat} (h : VarZ g w X) : ¬ X = g := h.2.2.2.2.2.2.2.2.2.2.2
theorem VarZ.new {g : Nat} (w : World) (T : TypeId) : ¬ w.heap.size = g → VarZ g (w.alloc (.cells #[.int .i64 0, .int .i64 0, .bool false, .int .i64 0, .int .i64 0] T)) w.heap.size :=
  fun hn => ⟨by simp [go_sem], by simp [go_sem], by simp [go_sem], by simp [go_sem], by simp [go_sem], by simp [go_sem], by simp [go_sem], by simp [go_sem], by simp [go_sem], by simp [go_sem], by simp, hn⟩
theorem VarZ.newD {g : Nat} (w : World) (T : TypeId) : ¬ w.heap.size = g → VarZ g (w.alloc (.cells #[.int .i64 0, .int .i64 0, .bool false, .int .i64 0, .int .i64 0] T)).drew w.heap.size :=
  fun hn => VarZ.new w T hn
theorem VarZ.call {g : Nat} {w w' : World} {X : Nat} (h : ¬ X = g → VarZ g w X) (hw : CurW g w w') (hn : ¬ X = g) : VarZ g w' X := by
  obtain ⟨e0, e1, e2, e3, e4, f0, f1, f2, f3, f4, el, -⟩ := h hn
  have hb := hw.block X el (fun e => hn (Option.some.inj e))
  exact ⟨(World.cell?_of_block (a := ⟨X, 0, none⟩) hb).trans e0, (World.cell?_of_block (a := ⟨X, 1, none⟩) hb).trans e1, (World.cell?_of_block (a := ⟨X, 2, none⟩) hb).trans e2, (World.cell?_of_block (a := ⟨X, 3, none⟩) hb).trans e3, (World.cell?_of_block (a := ⟨X, 4, none⟩) hb).trans e4,
    (World.frozen?_of_block (a := ⟨X, 0, none⟩) hb).trans f0, (World.frozen?_of_block (a := ⟨X, 1, none⟩) hb).trans f1, (World.frozen?_of_block (a := ⟨X, 2, none⟩) hb).trans f2, (World.frozen?_of_block (a := ⟨X, 3, none⟩) hb).trans f3, (World.frozen?_of_block (a := ⟨X, 4, none⟩) hb).trans f4, Nat.lt_of_lt_of_le el hw.size, hn⟩
def PassRes (B g : Nat) (v : Value) (bs : List Int) (n m : Nat) (w : World) (e : Ending) (w' : World) : Prop := ∃ p : PassageD, e = .returned p.val ∧ p.ok ∧ (0 ≤ p.ship ∧ p.ship < n) ∧ (0 ≤ p.segment ∧ p.segment < m) ∧ Cur w' B g v bs ∧ CurW g w w'
set_option maxRecDepth 100000 in
set_option maxHeartbeats 32000000 in
theorem l08Passage_any (B g base : Nat) (v : Value) (bs : List Int) (vp vs vf : Value) (pts : List PointD) (segs : List SegmentD) (fl : List ShipD) (w : World) (h : Cur w B g v bs)
    (hp : Own w base 133 2 PointD.enc vp pts) (hs : Own w base 98 5 SegmentD.enc vs segs) (hf : Own w base 36 6 ShipD.enc vf fl) (hgb : g < base)
    (hs0 : 1 ≤ segs.length) (hs1 : segs.length ≤ 10) (hf0 : 1 ≤ fl.length) (hf1 : fl.length ≤ 6) (hm : ∀ x ∈ segs, 1 ≤ x.minutes ∧ x.minutes ≤ 240) :
    Calls Try.prog 106 #[.pointer (some ⟨g, 0, none⟩), .agg #[vp, vs], vf] w (PassRes B g v bs fl.length segs.length w) := by
  have hg := h.lt
  have HC := hide h; clear h
  obtain ⟨A1, c1, rfl, -, -, -⟩ := Own.rd PointD.enc_len hp
  obtain ⟨A2, c2, rfl, -, -, -⟩ := Own.rd SegmentD.enc_len hs
  obtain ⟨A3, c3, rfl, hc3, hm3, -⟩ := Own.rd ShipD.enc_len hf
  unfold maxLen at hm3
  have HS := hide hs; have HF := hide hf; have HM := hide hm
  clear hs hf hp hm
  go_enter Try.func106, Try.ntmps106
  go_wp2_with fail
  generalize hW0 : (w.alloc (.cells #[.slice A1 pts.length c1, .slice A2 segs.length c2] 34)).alloc (.cells #[.int .i64 0, .int .i64 0, .bool false, .int .i64 0, .int .i64 0] 49) = W0
  have hb0 : Below w.heap.size w W0 := by rw [← hW0]; exact (by repeat (first | exact Below.refl _ _ | assumption | refine Below.setCell ?_ (by first | omega | (simp <;> omega)) _ | refine Below.alloc ?_ (by first | omega | (simp <;> omega)) _ | refine below_drewN ?_ _ | refine Below.drew ?_ | refine Below.trans ?_ (Below.mono (by assumption) (by first | omega | (simp <;> omega)))))
  have hs0' : w.heap.size + 2 ≤ W0.heap.size := by rw [← hW0]; simp
  have b0 : W0.cell? ⟨w.heap.size, 1, none⟩ = some (.slice A2 segs.length c2) := by rw [← hW0]; simp [go_sem]
  have B0 := hide b0
  have Z := hide (show (W0.cell? ⟨w.heap.size + 1, 0, none⟩ = some (.int .i64 0) ∧ W0.cell? ⟨w.heap.size + 1, 1, none⟩ = some (.int .i64 0) ∧ W0.cell? ⟨w.heap.size + 1, 2, none⟩ = some (.bool false) ∧ W0.cell? ⟨w.heap.size + 1, 3, none⟩ = some (.int .i64 0) ∧ W0.cell? ⟨w.heap.size + 1, 4, none⟩ = some (.int .i64 0)) ∧ W0.frozen? ⟨w.heap.size + 1, 0, none⟩ = false ∧ W0.frozen? ⟨w.heap.size + 1, 1, none⟩ = false ∧ W0.frozen? ⟨w.heap.size + 1, 2, none⟩ = false ∧ W0.frozen? ⟨w.heap.size + 1, 3, none⟩ = false ∧ W0.frozen? ⟨w.heap.size + 1, 4, none⟩ = false by rw [← hW0]; exact ⟨⟨by simp [go_sem], by simp [go_sem], by simp [go_sem], by simp [go_sem], by simp [go_sem]⟩, by simp [go_sem], by simp [go_sem], by simp [go_sem], by simp [go_sem], by simp [go_sem]⟩)
  have HCD := hide (HC.out.keep hb0 hg)
  clear hW0
  have hgW0 : g < W0.heap.size := by omega
  have hgw : ¬ (w.heap.size = g) := by omega
  have hgW0n : ¬ W0.heap.size = g := by omega
  have keepS : ∀ w', Cur w' B g v bs → CurW g W0 w' → w'.cell? ⟨w.heap.size, 1, none⟩ = some (.slice A2 segs.length c2) ∧ Cur w' B g v bs ∧ CurW g W0 w' := fun w' hC hB =>
    ⟨(World.cell?_of_block (a := ⟨w.heap.size, 1, none⟩) (hB.block w.heap.size (by omega) (fun e => by have := Option.some.inj e; omega))).trans B0.out, hC, hB⟩
  go_cut [7] (fun s7 wx => ∃ (X : Nat) (i k s : Int) (tw : Bool), s7 = .pointer (some ⟨X, 0, none⟩) ∧ w.heap.size + 2 ≤ X ∧ X < wx.heap.size ∧ ((0 ≤ i ∧ i < fl.length) ∧ (0 ≤ k ∧ k < segs.length) ∧ (0 ≤ s ∧ s < 200)) ∧
    Hid (wx.cell? ⟨X, 0, none⟩ = some (.int .i64 i) ∧ wx.cell? ⟨X, 1, none⟩ = some (.int .i64 k) ∧ wx.cell? ⟨X, 2, none⟩ = some (.bool tw) ∧ wx.cell? ⟨X, 3, none⟩ = some (.int .i64 s) ∧ wx.cell? ⟨X, 4, none⟩ = some (.int .i64 0)) ∧ Hid (wx.frozen? ⟨X, 4, none⟩ = false) ∧ Hid (Cur wx B g v bs) ∧ Hid (CurW g W0 wx))
  case first =>
    go_region_held3 (fun w' => w'.cell? ⟨w.heap.size, 1, none⟩ = some (.slice A2 segs.length c2) ∧ Cur w' B g v bs ∧ CurW g W0 w')
      (first
        | with_reducible exact keepS w14 hc14 hw14
        | with_reducible exact keepS w13 hc13 hw13
        | with_reducible exact keepS w12 hc12 hw12
        | with_reducible exact keepS w11 hc11 hw11
        | ((with_reducible refine keepS (World.drew W0) ?_ ?_); exact HCD.out.keep (Below.drew (Below.refl _ _)) hgW0; exact CurW.ofBelow (Below.drew (Below.refl _ _)))
        | ((with_reducible refine keepS (World.drew (World.alloc W0 _)) ?_ ?_); exact HCD.out.keep (Below.drew ((Below.refl _ _).alloc (Nat.le_refl _) _)) hgW0; exact CurW.ofBelow (Below.drew ((Below.refl _ _).alloc (Nat.le_refl _) _)))
        | ((with_reducible refine keepS (World.setCell _ _ _) ?_ ?_); exact (hc14.keep (show Below (w.heap.size + 2) w14 _ from (by repeat (first | exact Below.refl _ _ | assumption | refine Below.setCell ?_ (by first | omega | (simp <;> omega)) _ | refine Below.alloc ?_ (by first | omega | (simp <;> omega)) _ | refine below_drewN ?_ _ | refine Below.drew ?_ | refine Below.trans ?_ (Below.mono (by assumption) (by first | omega | (simp <;> omega)))))) (by omega)); exact (hw14.fresh (show Below W0.heap.size w14 _ from (by repeat (first | exact Below.refl _ _ | assumption | refine Below.setCell ?_ (by first | omega | (simp <;> omega)) _ | refine Below.alloc ?_ (by first | omega | (simp <;> omega)) _ | refine below_drewN ?_ _ | refine Below.drew ?_ | refine Below.trans ?_ (Below.mono (by assumption) (by first | omega | (simp <;> omega))))))))
        | ((with_reducible refine keepS (World.alloc w14 _) ?_ ?_); exact (hc14.keep ((Below.refl _ _).alloc (Nat.le_refl _) _) hc14.lt); exact (hw14.alloc _))
        | ((with_reducible refine keepS (World.alloc w13 _) ?_ ?_); exact (hc13.keep ((Below.refl _ _).alloc (Nat.le_refl _) _) hc13.lt); exact (hw13.alloc _))
        | ((with_reducible refine keepS (World.alloc w12 _) ?_ ?_); exact (hc12.keep ((Below.refl _ _).alloc (Nat.le_refl _) _) hc12.lt); exact (hw12.alloc _))
        | ((with_reducible refine keepS (World.alloc w11 _) ?_ ?_); exact (hc11.keep ((Below.refl _ _).alloc (Nat.le_refl _) _) hc11.lt); exact (hw11.alloc _)))
      (first
        | (go_at_call 105; obtain ⟨_, qC, qW⟩ := (by with_reducible assumption : _ ∧ _); (with_reducible refine (l01Below_any B g _ bs (fl.length : Int) _ qC (by omega)).mono ?_); rintro e w11 ⟨x11, rfl, y110, -, -, y111, hc11, hw11'⟩; replace y111 := y111 (by omega); (first | (with_reducible have V := VarZ.call (VarZ.newD _ _) hw11' hgW0n) | (with_reducible have V := VarZ.call (fun _ => V) hw11' V.ne) | skip); have hw11 := CurW.trans qW hw11'; have rs11 := hw11.size; have rn11 : ¬ w11.heap.size = g := (by omega))
        | (go_at_call 105; obtain ⟨_, qC, qW⟩ := (by with_reducible assumption : _ ∧ _); (with_reducible refine (l01Below_any B g _ bs (segs.length : Int) _ qC (by omega)).mono ?_); rintro e w12 ⟨x12, rfl, y120, -, -, y121, hc12, hw12'⟩; replace y121 := y121 (by omega); (first | (with_reducible have V := VarZ.call (VarZ.new _ _) hw12' rn11) | (with_reducible have V := VarZ.call (fun _ => V) hw12' V.ne) | skip); have hw12 := CurW.trans qW hw12'; have rs12 := hw12.size; have rn12 : ¬ w12.heap.size = g := (by omega))
        | (go_at_call 107; obtain ⟨_, qC, qW⟩ := (by with_reducible assumption : _ ∧ _); (with_reducible refine (l01Once_any B g _ bs 2 _ qC (by omega)).mono ?_); rintro e w13 ⟨b13, rfl, hc13, hw13'⟩; (first | (with_reducible have V := VarZ.call (VarZ.new _ _) hw13' rn12) | (with_reducible have V := VarZ.call (fun _ => V) hw13' V.ne) | skip); have hw13 := CurW.trans qW hw13'; have rs13 := hw13.size; have rn13 : ¬ w13.heap.size = g := (by omega))
        | (go_at_call 105; obtain ⟨_, qC, qW⟩ := (by with_reducible assumption : _ ∧ _); (with_reducible refine (l01Below_any B g _ bs 200 _ qC (by omega)).mono ?_); rintro e w14 ⟨x14, rfl, y140, -, -, y141, hc14, hw14'⟩; replace y141 := y141 (by omega); (first | (with_reducible have V := VarZ.call (VarZ.new _ _) hw14' rn13) | (with_reducible have V := VarZ.call (fun _ => V) hw14' V.ne) | skip); have hw14 := CurW.trans qW hw14'; have rs14 := hw14.size; have rn14 : ¬ w14.heap.size = g := (by omega); (try (obtain ⟨e0, e1, e2, e3, e4, f0, f1, f2, f3, f4, el, en⟩ := V.out))))
    all_goals
      go_wp2_with fail
      go_meet
      refine ⟨_, x11, x12, x14, b13, rfl, (by first | omega | (simp <;> omega)), (by first | omega | (simp <;> omega)), ⟨⟨y110, y111⟩, ⟨y120, y121⟩, ⟨y140, y141⟩⟩, hide ?_, hide ?_, hide (by obtain ⟨_, qC, qW⟩ := (by with_reducible assumption : _ ∧ _); exact qC), hide (by obtain ⟨_, qC, qW⟩ := (by with_reducible assumption : _ ∧ _); exact qW)⟩
      · simp [go_sem, *]
      · simp [go_sem, *]
  case rest =>
    obtain ⟨X, i0, k0, s, tw, rfl, hX0, hX1, ⟨⟨i1, i2⟩, ⟨k1, k2⟩, ⟨s0, s1⟩⟩, HV, HFZ, HC2, HW⟩ := hcut
    obtain ⟨i, rfl⟩ : ∃ n : Nat, i0 = n := ⟨i0.toNat, by omega⟩
    obtain ⟨k, rfl⟩ : ∃ n : Nat, k0 = n := ⟨k0.toNat, by omega⟩
    have hil : i < fl.length := by omega
    have hkl : k < segs.length := by omega
    have hwf : CurW g w wc := (CurW.ofBelow hb0).trans HW.out
    have HO2 := HS.out.curw hwf hgb; have HO3 := HF.out.curw hwf hgb
    have hbb2 := fun b e => (World.ownsRow.lt HS.out b e).2; have hbb3 := fun b e => (World.ownsRow.lt HF.out b e).2
    rcases Own.cases HO2 with ⟨-, e⟩ | ⟨b2, c2', e2, -, hb2, -, -⟩
    · subst e; simp at hs0
    rcases Own.cases HO3 with ⟨-, e⟩ | ⟨b3, c3', e3, -, hb3, -, -⟩
    · subst e; simp at hf0
    obtain ⟨rfl, rfl⟩ : A2 = some ⟨b2, 0, none⟩ ∧ c2 = c2' := by injection e2 with e1 _ e3; exact ⟨e1, e3⟩
    obtain ⟨rfl, rfl⟩ : A3 = some ⟨b3, 0, none⟩ ∧ c3 = c3' := by injection e3 with e1 _ e3; exact ⟨e1, e3⟩
    have hb2w := hbb2 b2 rfl; have hb3w := hbb3 b3 rfl
    clear e2 e3 hbb2 hbb3
    have bx : wc.cell? ⟨w.heap.size, 1, none⟩ = some (.slice (some ⟨b2, 0, none⟩) segs.length c2) := (keepS wc HC2.out HW.out).1
    have hMin := HM.out segs[k] (List.getElem_mem hkl)
    obtain ⟨gs, hgs⟩ : ∃ x, segs[k] = x := ⟨_, rfl⟩
    obtain ⟨sh, hsh⟩ : ∃ x, fl[i] = x := ⟨_, rfl⟩
    have q0 : wc.cell? ⟨b2, k * 5, none⟩ = some (.int .i64 gs.a) := by rw [← hgs]; exact (Own.cells SegmentD.enc_len HO2 hkl (j := 0) rfl).1
    have q1 : wc.cell? ⟨b2, k * 5 + 1, none⟩ = some (.int .i64 gs.b) := by rw [← hgs]; exact (Own.cells SegmentD.enc_len HO2 hkl (j := 1) rfl).1
    have q2 : wc.cell? ⟨b2, k * 5 + 2, none⟩ = some (.int .i64 gs.depth) := by rw [← hgs]; exact (Own.cells SegmentD.enc_len HO2 hkl (j := 2) rfl).1
    have q3 : wc.cell? ⟨b2, k * 5 + 3, none⟩ = some (.int .i64 gs.minutes) := by rw [← hgs]; exact (Own.cells SegmentD.enc_len HO2 hkl (j := 3) rfl).1
    have q4 : wc.cell? ⟨b2, k * 5 + 4, none⟩ = some (.bool gs.meet) := by rw [← hgs]; exact (Own.cells SegmentD.enc_len HO2 hkl (j := 4) rfl).1
    have p0 : wc.cell? ⟨b3, i * 6, none⟩ = some (.string sh.name) := by rw [← hsh]; exact (Own.cells ShipD.enc_len HO3 hil (j := 0) rfl).1
    have p1 : wc.cell? ⟨b3, i * 6 + 1, none⟩ = some (.int .i64 sh.length) := by rw [← hsh]; exact (Own.cells ShipD.enc_len HO3 hil (j := 1) rfl).1
    have p2 : wc.cell? ⟨b3, i * 6 + 2, none⟩ = some (.int .i64 sh.draught) := by rw [← hsh]; exact (Own.cells ShipD.enc_len HO3 hil (j := 2) rfl).1
    have p3 : wc.cell? ⟨b3, i * 6 + 3, none⟩ = some (.int .i64 sh.line) := by rw [← hsh]; exact (Own.cells ShipD.enc_len HO3 hil (j := 3) rfl).1
    have p4 : wc.cell? ⟨b3, i * 6 + 4, none⟩ = some (.int .i64 sh.tugs) := by rw [← hsh]; exact (Own.cells ShipD.enc_len HO3 hil (j := 4) rfl).1
    have p5 : wc.cell? ⟨b3, i * 6 + 5, none⟩ = some (.bool sh.slow) := by rw [← hsh]; exact (Own.cells ShipD.enc_len HO3 hil (j := 5) rfl).1
    rw [hgs] at hMin
    obtain ⟨m0, m1⟩ := hMin
    have hmr := shipMinutes_range (s := sh) m0 m1
    obtain ⟨y0, y1, y2, y3, y4⟩ := HV.out
    have hf4 := HFZ.out
    have hbx : w.heap.size < wc.heap.size := by omega
    have hXbx : ¬ X = w.heap.size := by omega
    have hXb2 : ¬ X = b2 := by omega
    have hXb3 : ¬ X = b3 := by omega
    clear hgs hsh HO2 HO3 HV HFZ
    obtain ⟨mn, hmn⟩ : ∃ m, shipMinutes gs sh = m := ⟨_, rfl⟩
    rw [hmn] at hmr
    have HMN := hide hmn
    obtain ⟨mn0, mn1⟩ := hmr
    obtain ⟨f0, hf0'⟩ : ∃ y, IntKind.i64.wrap (s + mn) = y := ⟨_, rfl⟩
    have hfr : 1 ≤ f0 ∧ f0 ≤ 679 := by rw [← hf0', IntWalk.i64_in _ (by omega)]; omega
    clear hmn
    go_wp2_with fail
    go_region_held3 (fun w' => w'.cell? ⟨X, 0, none⟩ = some (.int .i64 i) ∧ w'.cell? ⟨X, 1, none⟩ = some (.int .i64 k) ∧ w'.cell? ⟨X, 3, none⟩ = some (.int .i64 s) ∧ w'.cell? ⟨w.heap.size, 1, none⟩ = some (.slice (some ⟨b2, 0, none⟩) segs.length c2) ∧ w'.cell? ⟨b2, k * 5, none⟩ = some (.int .i64 gs.a) ∧ w'.cell? ⟨b2, k * 5 + 1, none⟩ = some (.int .i64 gs.b) ∧ w'.cell? ⟨b2, k * 5 + 2, none⟩ = some (.int .i64 gs.depth) ∧ w'.cell? ⟨b2, k * 5 + 3, none⟩ = some (.int .i64 gs.minutes) ∧ w'.cell? ⟨b2, k * 5 + 4, none⟩ = some (.bool gs.meet) ∧ w'.cell? ⟨b3, i * 6, none⟩ = some (.string sh.name) ∧ w'.cell? ⟨b3, i * 6 + 1, none⟩ = some (.int .i64 sh.length) ∧ w'.cell? ⟨b3, i * 6 + 2, none⟩ = some (.int .i64 sh.draught) ∧ w'.cell? ⟨b3, i * 6 + 3, none⟩ = some (.int .i64 sh.line) ∧ w'.cell? ⟨b3, i * 6 + 4, none⟩ = some (.int .i64 sh.tugs) ∧ w'.cell? ⟨b3, i * 6 + 5, none⟩ = some (.bool sh.slow))
      (first
        | ((with_reducible refine (And.intro (show World.cell? (World.drew wc) _ = _ from ?_) ?_)); exact y0; exact ⟨y1, y3, bx, q0, q1, q2, q3, q4, p0, p1, p2, p3, p4, p5⟩)
        | with_reducible exact ⟨zy0, zy1, zy3, zbx, zq0, zq1, zq2, zq3, zq4, zp0, zp1, zp2, zp3, zp4, zp5⟩
        | exact ⟨(by simp [go_sem, zy0]), (by simp [go_sem, zy1]), (by simp [go_sem, zy3]), (World.cell?_setCell_far _ _ _ _ hXbx).trans zbx, (World.cell?_setCell_far _ _ _ _ hXb2).trans zq0, (World.cell?_setCell_far _ _ _ _ hXb2).trans zq1, (World.cell?_setCell_far _ _ _ _ hXb2).trans zq2, (World.cell?_setCell_far _ _ _ _ hXb2).trans zq3, (World.cell?_setCell_far _ _ _ _ hXb2).trans zq4, (World.cell?_setCell_far _ _ _ _ hXb3).trans zp0, (World.cell?_setCell_far _ _ _ _ hXb3).trans zp1, (World.cell?_setCell_far _ _ _ _ hXb3).trans zp2, (World.cell?_setCell_far _ _ _ _ hXb3).trans zp3, (World.cell?_setCell_far _ _ _ _ hXb3).trans zp4, (World.cell?_setCell_far _ _ _ _ hXb3).trans zp5⟩)
      (first
        | (go_at_call 67; refine (l06Minutes_any gs sh _ m0 m1).mono ?_; rintro e w21 ⟨rfl, hb21⟩; rw [HMN.out]; have zy0 := cellKeep hb21 y0 hX1; have zy1 := cellKeep hb21 y1 hX1; have zy3 := cellKeep hb21 y3 hX1; have zbx := cellKeep hb21 bx hbx; have zq0 := cellKeep hb21 q0 hb2; have zq1 := cellKeep hb21 q1 hb2; have zq2 := cellKeep hb21 q2 hb2; have zq3 := cellKeep hb21 q3 hb2; have zq4 := cellKeep hb21 q4 hb2; have zp0 := cellKeep hb21 p0 hb3; have zp1 := cellKeep hb21 p1 hb3; have zp2 := cellKeep hb21 p2 hb3; have zp3 := cellKeep hb21 p3 hb3; have zp4 := cellKeep hb21 p4 hb3; have zp5 := cellKeep hb21 p5 hb3; have zy2 := cellKeep hb21 y2 hX1; have zy4 := cellKeep hb21 y4 hX1; have zf4 := frozenKeep hb21 hf4 hX1; have HB21 := hide (show Below wc.heap.size wc w21 from (Below.drew (Below.refl _ _)).trans hb21); clear hb21))
    all_goals
      have hbk := HW.out.block (w.heap.size + 1) (by omega) (fun e => by have := Option.some.inj e; omega)
      have hrx : w.heap.size + 1 < wc.heap.size := by omega
      have r0 := cellKeep HB21.out ((World.cell?_of_block (a := ⟨w.heap.size + 1, 0, none⟩) hbk).trans Z.out.1.1) hrx
      have r1 := cellKeep HB21.out ((World.cell?_of_block (a := ⟨w.heap.size + 1, 1, none⟩) hbk).trans Z.out.1.2.1) hrx
      have r2 := cellKeep HB21.out ((World.cell?_of_block (a := ⟨w.heap.size + 1, 2, none⟩) hbk).trans Z.out.1.2.2.1) hrx
      have r3 := cellKeep HB21.out ((World.cell?_of_block (a := ⟨w.heap.size + 1, 3, none⟩) hbk).trans Z.out.1.2.2.2.1) hrx
      have r4 := cellKeep HB21.out ((World.cell?_of_block (a := ⟨w.heap.size + 1, 4, none⟩) hbk).trans Z.out.1.2.2.2.2) hrx
      have s0f := frozenKeep HB21.out ((World.frozen?_of_block (a := ⟨w.heap.size + 1, 0, none⟩) hbk).trans Z.out.2.1) hrx
      have s1f := frozenKeep HB21.out ((World.frozen?_of_block (a := ⟨w.heap.size + 1, 1, none⟩) hbk).trans Z.out.2.2.1) hrx
      have s2f := frozenKeep HB21.out ((World.frozen?_of_block (a := ⟨w.heap.size + 1, 2, none⟩) hbk).trans Z.out.2.2.2.1) hrx
      have s3f := frozenKeep HB21.out ((World.frozen?_of_block (a := ⟨w.heap.size + 1, 3, none⟩) hbk).trans Z.out.2.2.2.2.1) hrx
      have s4f := frozenKeep HB21.out ((World.frozen?_of_block (a := ⟨w.heap.size + 1, 4, none⟩) hbk).trans Z.out.2.2.2.2.2) hrx
      have hXr : ¬ X = w.heap.size + 1 := by omega
      have hXr' : ¬ w.heap.size + 1 = X := by omega
      clear hbk
      have hi0 : (0 : Int) ≤ (i : Int) := by omega
      have hk0 : (0 : Int) ≤ (k : Int) := by omega
      have hok : PassageD.ok ⟨i, k, tw, s, f0⟩ := ⟨i64_wf (x := (i : Int)) (by omega) (by omega), i64_wf (x := (k : Int)) (by omega) (by omega), i64_wf (x := s) (by omega) (by omega), i64_wf (x := f0) (by omega) (by omega)⟩
      have HOK := hide hok; clear hok
      go_wp2
      have s21 := HB21.out.size
      refine bodyPost_ret (v := .agg #[.int .i64 i, .int .i64 k, .bool tw, .int .i64 s, .int .i64 f0]) (by simp [results, Try.results106, go_sem, r0, r1, r2, r3, r4]) rfl ⟨⟨i, k, tw, s, f0⟩, rfl, HOK.out, ⟨hi0, i2⟩, ⟨hk0, k2⟩, ?_, ?_⟩
      · exact (HC2.out.keep (HB21.out.mono (show w.heap.size ≤ wc.heap.size by omega)) hg).keep (show Below w.heap.size w21 _ from (by repeat (first | exact Below.refl _ _ | assumption | refine Below.setCell ?_ (by first | omega | (simp <;> omega)) _ | refine Below.alloc ?_ (by first | omega | (simp <;> omega)) _ | refine below_drewN ?_ _ | refine Below.drew ?_ | refine Below.trans ?_ (Below.mono (by assumption) (by first | omega | (simp <;> omega)))))) hg
      · exact (hwf.fresh (HB21.out.mono (show w.heap.size ≤ wc.heap.size by omega))).fresh (show Below w.heap.size w21 _ from (by repeat (first | exact Below.refl _ _ | assumption | refine Below.setCell ?_ (by first | omega | (simp <;> omega)) _ | refine Below.alloc ?_ (by first | omega | (simp <;> omega)) _ | refine below_drewN ?_ _ | refine Below.drew ?_ | refine Below.trans ?_ (Below.mono (by assumption) (by first | omega | (simp <;> omega))))))
end Go.Proofs.Ytefidlecandnlaa
