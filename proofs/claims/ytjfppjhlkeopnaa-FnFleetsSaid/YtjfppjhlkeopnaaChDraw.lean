/- A chart drawn out of bytes. No condition. -/
import Derived.Test.YtjfppjhlkeopnaaStepCall
import Derived.Test.YtjfppjhlkeopnaaChartL
import Derived.Deep.DeepCutAuto
namespace Go.Proofs.Ytjfppjhlkeopnaa
open Go.RowKit
set_option linter.unusedVariables false
theorem SegmentD.enc_one (x : SegmentD) : ∀ u ∈ x.enc, u.oneCell' = true := by
  intro u hu
  simp only [SegmentD.enc, List.mem_cons, List.not_mem_nil, or_false] at hu
  rcases hu with rfl | rfl | rfl | rfl | rfl <;> rfl
theorem PointD.enc_one (x : PointD) : ∀ u ∈ x.enc, u.oneCell' = true := by
  intro u hu
  simp only [PointD.enc, List.mem_cons, List.not_mem_nil, or_false] at hu
  rcases hu with rfl | rfl <;> rfl
theorem own_fresh {α : Type} {enc : α → List Value} {sz : Nat} (w : World) (T : TypeId) (xs : List α) (he : ∀ x, (enc x).length = sz) (hm : xs.length ≤ maxLen) :
    Own (w.alloc (.cells ⟨xs.flatMap enc⟩ T)) w.heap.size T sz enc (.slice (some ⟨w.heap.size, 0, none⟩) xs.length xs.length) xs := by
  have hl : (xs.flatMap enc).length = xs.length * sz := by
    clear hm
    induction xs with
    | nil => simp
    | cons a l ih => rw [List.flatMap_cons, List.length_append, he, ih, List.length_cons, Nat.add_mul, Nat.one_mul, Nat.add_comm]
  refine ⟨hl, .inr ⟨w.heap.size, xs.length, ⟨xs.flatMap enc⟩, rfl, Nat.le_refl _, by show (w.heap.push _)[w.heap.size]? = _; simp, Nat.le_refl _, hm, by simpa using hl, ?_⟩⟩
  exact List.take_of_length_le (Nat.le_of_eq hl)
/-- a chart under construction, in block X -/
structure ChSt (w : World) (P X : Nat) (vp vs : Value) (pts : List PointD) (segs : List SegmentD) : Prop where
  c0 : w.cell? ⟨X, 0, none⟩ = some vp
  c1 : w.cell? ⟨X, 1, none⟩ = some vs
  f0 : w.frozen? ⟨X, 0, none⟩ = false
  f1 : w.frozen? ⟨X, 1, none⟩ = false
  hX : P ≤ X
  hl : X < w.heap.size
  op : Own w P 149 2 PointD.enc vp pts
  os : Own w P 151 5 SegmentD.enc vs segs
  np : vp.ownBlock ≠ some X
  ns : vs.ownBlock ≠ some X
  ne : ∀ b, vp.ownBlock = some b → vs.ownBlock ≠ some b
theorem ChSt.curw {w w' : World} {P X g : Nat} {vp vs : Value} {pts : List PointD} {segs : List SegmentD} (h : ChSt w P X vp vs pts segs) (hw : CurW g w w') (hg : g < P) : ChSt w' P X vp vs pts segs := by
  have hX := h.hX
  have hbk := hw.block X h.hl (fun e => by have := Option.some.inj e; omega)
  exact ⟨(World.cell?_of_block (a := ⟨X, 0, none⟩) hbk).trans h.c0, (World.cell?_of_block (a := ⟨X, 1, none⟩) hbk).trans h.c1, (World.frozen?_of_block (a := ⟨X, 0, none⟩) hbk).trans h.f0, (World.frozen?_of_block (a := ⟨X, 1, none⟩) hbk).trans h.f1, hX, Nat.lt_of_lt_of_le h.hl hw.size, h.op.curw hw hg, h.os.curw hw hg, h.np, h.ns, h.ne⟩
theorem ChSt.below {w w' : World} {P X : Nat} {vp vs : Value} {pts : List PointD} {segs : List SegmentD} (h : ChSt w P X vp vs pts segs) (hb : Below w.heap.size w w') : ChSt w' P X vp vs pts segs :=
  ⟨cellKeep hb h.c0 h.hl, cellKeep hb h.c1 h.hl, frozenKeep hb h.f0 h.hl, frozenKeep hb h.f1 h.hl, h.hX, Nat.lt_of_lt_of_le h.hl hb.size, h.op.below hb, h.os.below hb, h.np, h.ns, h.ne⟩
theorem Own.grownFar {α : Type} {w w' : World} {base sz : Nat} {T : TypeId} {enc : α → List Value} {v : Value} {xs : List α} {row : Option Nat} (h : Own w base T sz enc v xs) (hg : w.grownBy w' row) (hne : ∀ b, v.ownBlock = some b → row ≠ some b) : Own w' base T sz enc v xs :=
  World.ownsRow.kept h hg (by
    cases hv : v.ownBlock with
    | none => exact .inl rfl
    | some k => exact .inr (fun e => hne k hv e.symm))
/-- segments appended, ahead of the store -/
theorem ChSt.grownS {w w' : World} {P X : Nat} {vp vs : Value} {pts : List PointD} {segs : List SegmentD} (h : ChSt w P X vp vs pts segs) (hg : w.grownBy w' vs.ownBlock) :
    w'.cell? ⟨X, 0, none⟩ = some vp ∧ w'.cell? ⟨X, 1, none⟩ = some vs ∧ w'.frozen? ⟨X, 0, none⟩ = false ∧ w'.frozen? ⟨X, 1, none⟩ = false := by
  have hbk := hg.block X h.hl (fun e => h.ns e.symm)
  exact ⟨(World.cell?_of_block (a := ⟨X, 0, none⟩) hbk).trans h.c0, (World.cell?_of_block (a := ⟨X, 1, none⟩) hbk).trans h.c1, (World.frozen?_of_block (a := ⟨X, 0, none⟩) hbk).trans h.f0, (World.frozen?_of_block (a := ⟨X, 1, none⟩) hbk).trans h.f1⟩
theorem ChSt.storeS {w w' : World} {P X : Nat} {vp vs v' : Value} {pts : List PointD} {segs segs' : List SegmentD} (h : ChSt w P X vp vs pts segs) (hg : w.grownBy w' vs.ownBlock) (ho : Own w' P 151 5 SegmentD.enc v' segs') (hv : v'.ownBlock = vs.ownBlock ∨ v'.ownBlock = some w.heap.size) :
    ChSt (w'.setCell ⟨X, 1, none⟩ v') P X vp v' pts segs' := by
  obtain ⟨y0, y1, r0, r1⟩ := h.grownS hg
  have hl := h.hl
  have hns : v'.ownBlock ≠ some X := by
    rcases hv with e | e
    · rw [e]; exact h.ns
    · rw [e]; intro e2; have := Option.some.inj e2; omega
  refine ⟨by simp [go_sem, y0], by simp [go_sem, y1], by simp [go_sem, r0], by simp [go_sem, r1], h.hX, by simpa [World.setCell] using Nat.lt_of_lt_of_le h.hl hg.size, (h.op.grownFar hg (fun b hb => h.ne b hb)).setFar h.np _, ho.setFar hns _, h.np, hns, fun b hb => ?_⟩
  rcases hv with e | e
  · rw [e]; exact h.ne b hb
  · rw [e]; intro e2; have h1 := Option.some.inj e2; have := (World.ownsRow.lt h.op b hb).2; omega
theorem ChSt.grownP {w w' : World} {P X : Nat} {vp vs : Value} {pts : List PointD} {segs : List SegmentD} (h : ChSt w P X vp vs pts segs) (hg : w.grownBy w' vp.ownBlock) :
    w'.cell? ⟨X, 0, none⟩ = some vp ∧ w'.cell? ⟨X, 1, none⟩ = some vs ∧ w'.frozen? ⟨X, 0, none⟩ = false ∧ w'.frozen? ⟨X, 1, none⟩ = false := by
  have hbk := hg.block X h.hl (fun e => h.np e.symm)
  exact ⟨(World.cell?_of_block (a := ⟨X, 0, none⟩) hbk).trans h.c0, (World.cell?_of_block (a := ⟨X, 1, none⟩) hbk).trans h.c1, (World.frozen?_of_block (a := ⟨X, 0, none⟩) hbk).trans h.f0, (World.frozen?_of_block (a := ⟨X, 1, none⟩) hbk).trans h.f1⟩
theorem ChSt.storeP {w w' : World} {P X : Nat} {vp vs v' : Value} {pts pts' : List PointD} {segs : List SegmentD} (h : ChSt w P X vp vs pts segs) (hg : w.grownBy w' vp.ownBlock) (ho : Own w' P 149 2 PointD.enc v' pts') (hv : v'.ownBlock = vp.ownBlock ∨ v'.ownBlock = some w.heap.size) :
    ChSt (w'.setCell ⟨X, 0, none⟩ v') P X v' vs pts' segs := by
  obtain ⟨y0, y1, r0, r1⟩ := h.grownP hg
  have hl := h.hl
  have hns : v'.ownBlock ≠ some X := by
    rcases hv with e | e
    · rw [e]; exact h.np
    · rw [e]; intro e2; have := Option.some.inj e2; omega
  refine ⟨by simp [go_sem, y0], by simp [go_sem, y1], by simp [go_sem, r0], by simp [go_sem, r1], h.hX, by simpa [World.setCell] using Nat.lt_of_lt_of_le h.hl hg.size, ho.setFar hns _, (h.os.grownFar hg (fun b hb e => h.ne b e hb)).setFar h.ns _, hns, h.ns, fun b hb => ?_⟩
  rcases hv with e | e
  · rw [e] at hb; exact h.ne b hb
  · rw [e] at hb; have h1 := Option.some.inj hb; intro e2; have := (World.ownsRow.lt h.os b e2).2; omega
/-- behind the store, nothing else has turned -/
theorem CurW.grow {g : Nat} {w0 w w' : World} {base sz : Nat} {T : TypeId} {α : Type} {enc : α → List Value} {v : Value} {xs : List α} (h : CurW g w0 w) (ho : Own w base T sz enc v xs) (hb : w0.heap.size ≤ base) (hg : w.grownBy w' v.ownBlock) : CurW g w0 w' :=
  h.fresh (Own.belowGrown (B := w0.heap.size) ho hg hb h.size)
def basePts (b : Bool) : List PointD := [⟨⟨#[115, 101, 97]⟩, true⟩, ⟨⟨#[98, 97, 114]⟩, false⟩, ⟨⟨#[114, 111, 97, 100]⟩, b⟩, ⟨⟨#[113, 117, 97, 121]⟩, true⟩]
def dockPt : PointD := ⟨⟨#[100, 111, 99, 107]⟩, true⟩
def baseSegs (d1 m1 d2 m2 : Int) (mt : Bool) (d3 m3 : Int) : List SegmentD := [⟨0, 1, 900 + d1, 10 + m1, false⟩, ⟨1, 2, 800 + d2, 10 + m2, mt⟩, ⟨2, 3, 900 + d3, 5 + m3, false⟩]
def sideSeg (d m : Int) : SegmentD := ⟨3, 1, 700 + d, 20 + m, true⟩
def dockSeg (d : Int) : SegmentD := ⟨2, 4, 800 + d, 15, false⟩
/-- what a side channel adds -/
def SegsB (base segs : List SegmentD) : Prop := segs = base ∨ ∃ d m : Int, 700 ≤ d ∧ d ≤ 999 ∧ 20 ≤ m ∧ m ≤ 49 ∧ segs = base ++ [⟨3, 1, d, m, true⟩]
theorem SegsB.len {base segs : List SegmentD} (h : SegsB base segs) : base.length ≤ segs.length ∧ segs.length ≤ base.length + 1 := by
  rcases h with rfl | ⟨d, m, -, -, -, -, rfl⟩ <;> simp
/-- what a dock adds -/
def DockB (b : Bool) (segs0 : List SegmentD) (pts : List PointD) (segs : List SegmentD) : Prop := (pts = basePts b ∧ segs = segs0) ∨ ∃ d : Int, 800 ≤ d ∧ d ≤ 1099 ∧ pts = basePts b ++ [dockPt] ∧ segs = segs0 ++ [⟨2, 4, d, 15, false⟩]
/-- the drawn charts -/
def ChartIs (c : ChartD) : Prop := ∃ (b xe : Bool) (xa xb xc xd xf xg : Int) (segs0 : List SegmentD), ((0 ≤ xa ∧ xa < 300) ∧ (0 ≤ xb ∧ xb < 40) ∧ (0 ≤ xc ∧ xc < 300) ∧ (0 ≤ xd ∧ xd < 30) ∧ (0 ≤ xf ∧ xf < 200) ∧ (0 ≤ xg ∧ xg < 20)) ∧ SegsB (baseSegs xa xb xc xd xe xf xg) segs0 ∧ DockB b segs0 c.points c.segs
def ChartRes (B g : Nat) (v : Value) (bs : List Int) (w : World) (e : Ending) (w' : World) : Prop := ∃ (vp vs : Value) (c : ChartD), e = .returned (.agg #[vp, vs]) ∧ ChartIs c ∧ Own w' w.heap.size 149 2 PointD.enc vp c.points ∧ Own w' w.heap.size 151 5 SegmentD.enc vs c.segs ∧ Cur w' B g v bs ∧ CurW g w w'
set_option maxRecDepth 100000 in
set_option maxHeartbeats 16000000 in
theorem l05Draw_any (B g : Nat) (v : Value) (bs : List Int) (w : World) (h : Cur w B g v bs) :
    Calls Try.prog 102 #[.pointer (some ⟨g, 0, none⟩)] w (ChartRes B g v bs w) := by
  have hg := h.lt
  have HC := hide h; clear h
  go_enter Try.func102, Try.ntmps102
  go_wp2_with fail
  generalize hW0 : w.alloc (.cells #[.slice none 0 0, .slice none 0 0] 60) = W0
  have hb0 : Below w.heap.size w W0 := by rw [← hW0]; exact (Below.refl _ _).alloc (Nat.le_refl _) _
  have hl0 : w.heap.size < W0.heap.size := by rw [← hW0]; simp
  have Z := hide (show (W0.cell? ⟨w.heap.size, 0, none⟩ = some (.slice none 0 0) ∧ W0.cell? ⟨w.heap.size, 1, none⟩ = some (.slice none 0 0)) ∧ W0.frozen? ⟨w.heap.size, 0, none⟩ = false ∧ W0.frozen? ⟨w.heap.size, 1, none⟩ = false by rw [← hW0]; exact ⟨⟨by simp [go_sem], by simp [go_sem]⟩, by simp [go_sem], by simp [go_sem]⟩)
  clear hW0
  refine (l01Once_any B g v bs 2 _ (HC.out.keep hb0 hg) (by omega)).mono ?_
  rintro e w1 ⟨b1, rfl, hc1, hw1⟩
  have HC1 := hide hc1; clear hc1
  go_wp2_with fail
  have ho2 := own_fresh (enc := PointD.enc) (sz := 2) w1 149 (basePts b1) PointD.enc_len (by simp [basePts, maxLen])
  generalize hW2 : (w1.alloc (.cells #[.string ⟨#[115, 101, 97]⟩, .bool true, .string ⟨#[98, 97, 114]⟩, .bool false, .string ⟨#[114, 111, 97, 100]⟩, .bool b1, .string ⟨#[113, 117, 97, 121]⟩, .bool true] 149)).alloc (.cells #[.slice (some ⟨w1.heap.size, 0, none⟩) 4 4, .slice none 0 0] 60) = W2
  have hb2 : Below w1.heap.size w1 W2 := by rw [← hW2]; exact (by repeat (first | exact Below.refl _ _ | assumption | refine Below.setCell ?_ (by first | omega | (simp <;> omega)) _ | refine Below.alloc ?_ (by first | omega | (simp <;> omega)) _ | refine below_drewN ?_ _ | refine Below.drew ?_ | refine Below.trans ?_ (Below.mono (by assumption) (by first | omega | (simp <;> omega)))))
  have hs2 : W2.heap.size = w1.heap.size + 2 := by rw [← hW2]; simp
  have HO2 := hide (show Own W2 w1.heap.size 149 2 PointD.enc (.slice (some ⟨w1.heap.size, 0, none⟩) 4 4) (basePts b1) by rw [← hW2]; exact ho2.below ((Below.refl _ _).alloc (Nat.le_refl _) _))
  have p0 : W2.cell? ⟨w1.heap.size + 1, 0, none⟩ = some (.slice (some ⟨w1.heap.size, 0, none⟩) 4 4) := by rw [← hW2]; simp [go_sem]
  have p1 : W2.cell? ⟨w1.heap.size + 1, 1, none⟩ = some (.slice none 0 0) := by rw [← hW2]; simp [go_sem]
  have f0 : W2.frozen? ⟨w1.heap.size + 1, 0, none⟩ = false := by rw [← hW2]; simp [go_sem]
  have f1 : W2.frozen? ⟨w1.heap.size + 1, 1, none⟩ = false := by rw [← hW2]; simp [go_sem]
  clear hW2 ho2
  have HC2 := hide (HC1.out.keep hb2 HC1.out.lt)
  have hgw1 : g < w1.heap.size := HC1.out.lt
  refine (l01Below_any B g v bs 300 _ HC2.out (by omega)).mono ?_
  rintro e w3 ⟨xa, rfl, xa0, -, -, xa1, hc3, hw3⟩
  have HC3 := hide hc3; clear hc3
  replace xa1 := xa1 (by omega)
  go_wp2_with fail
  refine (l01Below_any B g v bs 40 _ HC3.out (by omega)).mono ?_
  rintro e w4 ⟨xb, rfl, xb0, -, -, xb1, hc4, hw4⟩
  have HC4 := hide hc4; clear hc4
  replace xb1 := xb1 (by omega)
  go_wp2_with fail
  refine (l01Below_any B g v bs 300 _ HC4.out (by omega)).mono ?_
  rintro e w5 ⟨xc, rfl, xc0, -, -, xc1, hc5, hw5⟩
  have HC5 := hide hc5; clear hc5
  replace xc1 := xc1 (by omega)
  go_wp2_with fail
  refine (l01Below_any B g v bs 30 _ HC5.out (by omega)).mono ?_
  rintro e w6 ⟨xd, rfl, xd0, -, -, xd1, hc6, hw6⟩
  have HC6 := hide hc6; clear hc6
  replace xd1 := xd1 (by omega)
  go_wp2_with fail
  refine (l01Once_any B g v bs 2 _ HC6.out (by omega)).mono ?_
  rintro e w7 ⟨xe, rfl, hc7, hw7⟩
  have HC7 := hide hc7; clear hc7
  go_wp2_with fail
  refine (l01Below_any B g v bs 200 _ HC7.out (by omega)).mono ?_
  rintro e w8 ⟨xf, rfl, xf0, -, -, xf1, hc8, hw8⟩
  have HC8 := hide hc8; clear hc8
  replace xf1 := xf1 (by omega)
  go_wp2_with fail
  refine (l01Below_any B g v bs 20 _ HC8.out (by omega)).mono ?_
  rintro e w9 ⟨xg, rfl, xg0, -, -, xg1, hc9, hw9⟩
  have HC9 := hide hc9; clear hc9
  replace xg1 := xg1 (by omega)
  have hw29 : CurW g W2 w9 := (((((hw3.trans hw4).trans hw5).trans hw6).trans hw7).trans hw8).trans hw9
  have hs9 := hw29.size
  have hbk := hw29.block (w1.heap.size + 1) (by omega) (fun e => by have := Option.some.inj e; omega)
  have y0 := (World.cell?_of_block (a := ⟨w1.heap.size + 1, 0, none⟩) hbk).trans p0
  have y1 := (World.cell?_of_block (a := ⟨w1.heap.size + 1, 1, none⟩) hbk).trans p1
  have r0 := (World.frozen?_of_block (a := ⟨w1.heap.size + 1, 0, none⟩) hbk).trans f0
  have r1 := (World.frozen?_of_block (a := ⟨w1.heap.size + 1, 1, none⟩) hbk).trans f1
  have HO9 := hide (Own.curw HO2.out hw29 hgw1)
  have hP9 : w1.heap.size + 1 < w9.heap.size := by omega
  have hw19 : CurW g W0 w9 := (hw1.fresh (hb2.mono hw1.size)).trans hw29
  have hW01 := hw1.size
  clear hbk p0 p1 f0 f1 hw3 hw4 hw5 hw6 hw7 hw8 hw9 hw29 HC1 HC2 HC3 HC4 HC5 HC6 HC7 HC8 HO2 hb2 hw1
  obtain ⟨P, hP⟩ : ∃ P, w1.heap.size = P := ⟨_, rfl⟩
  rw [hP] at y0 y1 r0 r1 HO9 hP9 hgw1 hs2 hW01 ⊢
  clear hP
  go_wp2_with fail
  have hosf := own_fresh (enc := SegmentD.enc) (sz := 5) (w9.setCell ⟨P + 1, 1, none⟩ (.slice (some ⟨w9.heap.size, 0, none⟩) 3 3)) 151 (baseSegs xa xb xc xd xe xf xg) SegmentD.enc_len (by simp [baseSegs, maxLen])
  generalize hW10 : (w9.setCell ⟨P + 1, 1, none⟩ (.slice (some ⟨w9.heap.size, 0, none⟩) 3 3)).alloc (.cells #[.int .i64 0, .int .i64 1, .int .i64 (900 + xa), .int .i64 (10 + xb), .bool false, .int .i64 1, .int .i64 2, .int .i64 (800 + xc), .int .i64 (10 + xd), .bool xe, .int .i64 2, .int .i64 3, .int .i64 (900 + xf), .int .i64 (5 + xg), .bool false] 151) = W10
  have hsz : (w9.setCell ⟨P + 1, 1, none⟩ (.slice (some ⟨w9.heap.size, 0, none⟩) 3 3)).heap.size = w9.heap.size := by simp [World.setCell]
  have hOS := hide (show Own W10 w9.heap.size 151 5 SegmentD.enc (.slice (some ⟨w9.heap.size, 0, none⟩) 3 3) (baseSegs xa xb xc xd xe xf xg) by rw [← hW10]; rw [hsz] at hosf; exact hosf)
  have hb10 : Below (P + 1) w9 W10 := by rw [← hW10]; exact ((Below.refl _ _).setCell (by simp) _).alloc (by rw [hsz]; omega) _
  have hOP := hide (show Own W10 P 149 2 PointD.enc (.slice (some ⟨P, 0, none⟩) 4 4) (basePts b1) by
    rw [← hW10]
    exact (Own.setFar HO9.out (fun e => by simp [Value.ownBlock] at e <;> omega) _).below ((Below.refl _ _).alloc (Nat.le_refl _) _))
  have hba : Below w9.heap.size (w9.setCell ⟨P + 1, 1, none⟩ (.slice (some ⟨w9.heap.size, 0, none⟩) 3 3)) W10 := by rw [← hW10]; exact (Below.refl _ _).alloc (by rw [hsz]; exact Nat.le_refl _) _
  have k0 : W10.cell? ⟨P + 1, 0, none⟩ = some (.slice (some ⟨P, 0, none⟩) 4 4) := cellKeep hba (by simp [go_sem, y0]) hP9
  have k1 : W10.cell? ⟨P + 1, 1, none⟩ = some (.slice (some ⟨w9.heap.size, 0, none⟩) 3 3) := cellKeep hba (by simp [go_sem, y1]) hP9
  have g0 : W10.frozen? ⟨P + 1, 0, none⟩ = false := frozenKeep hba (by simp [go_sem, r0]) hP9
  have g1 : W10.frozen? ⟨P + 1, 1, none⟩ = false := frozenKeep hba (by simp [go_sem, r1]) hP9
  clear hba
  clear hW10 hosf hsz y0 y1 r0 r1 HO9
  have HC10 := hide (HC9.out.keep hb10 (by omega))
  have hw10 : CurW g W0 W10 := hw19.fresh (hb10.mono (by omega))
  have s10 := hb10.size
  clear hw19 hb10 HC9
  refine (l01Once_any B g v bs 3 _ HC10.out (by omega)).mono ?_
  rintro e w11 ⟨side, rfl, hc11, hw11⟩
  have hgP : g < P := hgw1
  have st10 : ChSt W10 P (P + 1) (.slice (some ⟨P, 0, none⟩) 4 4) (.slice (some ⟨w9.heap.size, 0, none⟩) 3 3) (basePts b1) (baseSegs xa xb xc xd xe xf xg) :=
    ⟨k0, k1, g0, g1, by omega, by omega, hOP.out, hOS.out.mono (by omega), by simp [Value.ownBlock], by simp [Value.ownBlock]; omega, by intro b e; simp [Value.ownBlock] at e ⊢; omega⟩
  have ST := hide (st10.curw hw11 hgP)
  have HC11 := hide hc11
  have HW11 := hide (hw10.trans hw11)
  have s11 := hw11.size
  obtain ⟨vs, hvs⟩ : ∃ vs, Value.slice (some ⟨w9.heap.size, 0, none⟩) 3 3 = vs := ⟨_, rfl⟩
  rw [hvs] at ST
  have HVS := hide hvs
  have HBD := hide (show (0 ≤ xa ∧ xa < 300) ∧ (0 ≤ xb ∧ xb < 40) ∧ (0 ≤ xc ∧ xc < 300) ∧ (0 ≤ xd ∧ xd < 30) ∧ (0 ≤ xf ∧ xf < 200) ∧ (0 ≤ xg ∧ xg < 20) from ⟨⟨xa0, xa1⟩, ⟨xb0, xb1⟩, ⟨xc0, xc1⟩, ⟨xd0, xd1⟩, ⟨xf0, xf1⟩, ⟨xg0, xg1⟩⟩)
  clear xa0 xa1 xb0 xb1 xc0 xc1 xd0 xd1 xf0 xf1 xg0 xg1
  clear hc11 hw11 hw10 HC10 k0 k1 g0 g1 hOP hOS st10 hvs
  go_upto_if 38 with fail
  go_cut [] (fun wx => ∃ (vs : Value) (segs : List SegmentD), Hid (ChSt wx P (P + 1) (.slice (some ⟨P, 0, none⟩) 4 4) vs (basePts b1) segs) ∧ Hid (SegsB (baseSegs xa xb xc xd xe xf xg) segs) ∧ Hid (Cur wx B g v bs) ∧ Hid (CurW g W0 wx))
  case first =>
    have hgw11 : g < w11.heap.size := Nat.lt_of_lt_of_le hgP (by have := ST.out.hl; have := ST.out.hX; omega)
    cases side
    · go_wp2
      go_meet
      exact ⟨vs, _, ST, hide (.inl rfl), HC11, HW11⟩
    · have stD : ChSt w11.drew P (P + 1) (.slice (some ⟨P, 0, none⟩) 4 4) vs (basePts b1) (baseSegs xa xb xc xd xe xf xg) := ST.out.below (Below.drew (Below.refl _ _))
      have hcD : Cur w11.drew B g v bs := HC11.out.keep (Below.drew (Below.refl _ _)) hgw11
      have hwD : CurW g W0 w11.drew := HW11.out.fresh (Below.drew (Below.refl _ _))
      have zD := stD.c1
      have STD := hide stD; have HCD := hide hcD; have HWD := hide hwD
      clear stD hcD hwD
      obtain ⟨i0, hi, hz0, hz1, hz2⟩ := info_parts segment_info
      go_wp2_with fail
      go_region_law (first
        | (refine step_call (by rfl) (f := 98) (args := #[.pointer (some ⟨g, 0, none⟩), .int .i64 300]) (by first | (go_simp; done) | (go_simp; exact ⟨rfl, rfl⟩)) (l01Below_v B g v bs 300 _ HCD.out (by omega) (by omega)) ?_; rintro _ w12 ⟨x12, rfl, y120, y121, hc12, hw12'⟩; obtain ⟨d12, hd12⟩ : ∃ y, IntKind.i64.wrap (700 + x12) = y := ⟨_, rfl⟩; have HD12 := hide (show 700 ≤ d12 ∧ d12 ≤ 999 by (rw [← hd12, IntWalk.i64_in _ (by omega)]; omega)); have HW12 := hide (CurW.trans HWD.out hw12'); have ST12 := hide (ChSt.curw STD.out hw12' hgP); have z12 := ST12.out.c1; have HC12 := hide hc12; clear hc12 hw12')
        | (refine step_call (by rfl) (f := 98) (args := #[.pointer (some ⟨g, 0, none⟩), .int .i64 30]) (by first | (go_simp; done) | (go_simp; exact ⟨rfl, rfl⟩)) (l01Below_v B g v bs 30 _ HC12.out (by omega) (by omega)) ?_; rintro _ w13 ⟨x13, rfl, y130, y131, hc13, hw13'⟩; obtain ⟨d13, hd13⟩ : ∃ y, IntKind.i64.wrap (20 + x13) = y := ⟨_, rfl⟩; have HD13 := hide (show 20 ≤ d13 ∧ d13 ≤ 49 by (rw [← hd13, IntWalk.i64_in _ (by omega)]; omega)); have HW13 := hide (CurW.trans HW12.out hw13'); have ST13 := hide (ChSt.curw ST12.out hw13' hgP); have z13 := ST13.out.c1; have z13a : ∀ o, (w13.alloc o).cell? ⟨P + 1, 1, none⟩ = some vs := (fun o => (ST13.out.below ((Below.refl _ _).alloc (Nat.le_refl _) o)).c1); have HC13 := hide hc13; clear hc13 hw13')
        | ((refine step_append_rd _ SegmentD.enc_len SegmentD.enc_one (by rfl) _ _ 58 (by rfl) P 151 i0 (.agg #[.int .i64 0, .int .i64 0, .int .i64 0, .int .i64 0, .bool false]) 40 Try.underlying58 hi hz0 hz1 hz2 rfl (by decide) vs (baseSegs xa xb xc xd xe xf xg) (by rfl) (Own.below ST13.out.os ((Below.refl _ _).alloc (Nat.le_refl _) _)) _ (.slice (some ⟨w13.heap.size, 0, none⟩) 1 1) [(⟨3, 1, d12, d13, true⟩ : SegmentD)] (by rfl) (rd_new (enc := SegmentD.enc) w13 (⟨3, 1, d12, d13, true⟩ : SegmentD) 151) (by unfold maxLen; simp [baseSegs]) (by simp [baseSegs]) (by have := ST13.out.hl; simp; omega) ?_; intro v14 w14 hown14 hgrow14 hblk14; obtain ⟨sg, hsg⟩ : ∃ l, baseSegs xa xb xc xd xe xf xg ++ [(⟨3, 1, d12, d13, true⟩ : SegmentD)] = l := ⟨_, rfl⟩; rw [hsg] at hown14; have HSG := hide hsg; clear hsg; obtain ⟨A14, c14, rfl, -, -, -⟩ := Own.rd SegmentD.enc_len hown14; have hgs := (ST13.out.below ((Below.refl _ _).alloc (Nat.le_refl _) _)).grownS hgrow14; have hy141 := hgs.2.1; have hr141 := hgs.2.2.2; have HST14 := hide ((ST13.out.below ((Below.refl _ _).alloc (Nat.le_refl _) _)).storeS hgrow14 hown14 hblk14); have hbl := Own.belowGrown (B := P) (ST13.out.os.below ((Below.refl _ _).alloc (Nat.le_refl _) _)) hgrow14 (Nat.le_refl _) (by have := ST13.out.hl; simp; omega); have HC14 := hide ((HC13.out.keep ((Below.refl _ _).alloc (Nat.le_refl _) _) HC13.out.lt).keep hbl hgP); have HW14 := hide ((HW13.out.alloc _).fresh (hbl.mono hW01)); clear hgs hbl hown14 hgrow14 hblk14)))
      all_goals
        go_wp2_with fail
        go_meet
        exact ⟨_, sg, HST14, hide (.inr ⟨d12, d13, HD12.out.1, HD12.out.2, HD13.out.1, HD13.out.2, HSG.out.symm⟩), hide (HC14.out.keep ((Below.refl P _).setCell (by simp) _) hgP), hide (HW14.out.store (by omega) _)⟩
  case rest =>
    clear ST HC11 HW11 HVS
    obtain ⟨vs, segs, ST, HSB, HC, HW⟩ := hcut
    have HSL := hide HSB.out.len
    go_wp2_with fail
    refine (l01Once_any B g v bs 3 _ HC.out (by omega)).mono ?_
    rintro e w15 ⟨dock, rfl, hc15, hw15⟩
    have ST15 := hide (ST.out.curw hw15 hgP)
    have HC15 := hide hc15
    have HW15 := hide (HW.out.trans hw15)
    clear hc15 hw15 ST HC HW
    go_upto_if 52 with fail
    go_cut [] (fun wx => ∃ (vp vs : Value) (pts : List PointD) (sg : List SegmentD), Hid (ChSt wx P (P + 1) vp vs pts sg) ∧ Hid (DockB b1 segs pts sg) ∧ Hid (Cur wx B g v bs) ∧ Hid (CurW g W0 wx))
    case first =>
      cases dock
      · go_wp2
        go_meet
        exact ⟨_, vs, _, segs, ST15, hide (.inl ⟨rfl, rfl⟩), HC15, HW15⟩
      · have hx15 := ST15.out.hl
        have p0 := ST15.out.c0; have p1 := ST15.out.c1; have q0 := ST15.out.f0; have q1 := ST15.out.f1
        obtain ⟨j0, hj, hjz0, hjz1, hjz2⟩ := info_parts point_info
        go_wp2_with (at_builtin; refine wpList_append_rd _ PointD.enc_len PointD.enc_one (by rfl) _ _ 57 (by rfl) P 149 j0 _ 24 Try.underlying57 hj hjz0 hjz1 hjz2 rfl (by decide) _ (basePts b1) (by rfl) (Own.below ST15.out.op ((Below.refl _ _).alloc (Nat.le_refl _) _)) _ _ [dockPt] (by rfl) (rd_new (enc := PointD.enc) w15 dockPt 149) (by unfold maxLen; simp [basePts]) (by simp [basePts]) (by simp; omega) ?_; intro v16 w16 hown16 hgrow16 hblk16; obtain ⟨pg, hpg⟩ : ∃ l, basePts b1 ++ [dockPt] = l := ⟨_, rfl⟩; rw [hpg] at hown16; have HPG := hide hpg; clear hpg; obtain ⟨A16, c16, rfl, -, -, -⟩ := Own.rd PointD.enc_len hown16; have hgs := (ST15.out.below ((Below.refl _ _).alloc (Nat.le_refl _) _)).grownP hgrow16; have hy160 := hgs.1; have hr160 := hgs.2.2.1; have HST16 := hide ((ST15.out.below ((Below.refl _ _).alloc (Nat.le_refl _) _)).storeP hgrow16 hown16 hblk16); have hbl := Own.belowGrown (B := P) (ST15.out.op.below ((Below.refl _ _).alloc (Nat.le_refl _) _)) hgrow16 (Nat.le_refl _) (by simp; omega); have HC16 := hide ((HC15.out.keep ((Below.refl _ _).alloc (Nat.le_refl _) _) HC15.out.lt).keep hbl hgP); have HW16 := hide ((HW15.out.alloc _).fresh (hbl.mono hW01)); clear hgs hbl hown16 hgrow16 hblk16)
        clear p0 p1 q0 q1
        obtain ⟨W17, hW17⟩ : ∃ W, w16.setCell ⟨P + 1, 0, none⟩ (.slice A16 pg.length c16) = W := ⟨_, rfl⟩
        have HC17 := hide (show Cur W17 B g v bs by rw [← hW17]; exact HC16.out.keep ((Below.refl P _).setCell (by simp) _) hgP)
        have HW17 := hide (show CurW g W0 W17 by rw [← hW17]; exact HW16.out.store (by omega) _)
        rw [hW17] at HST16 ⊢
        clear hW17 HC16 HW16 hy160 hr160
        obtain ⟨A17, c17, rfl, -, -, -⟩ := Own.rd SegmentD.enc_len HST16.out.os
        have hgw17 : g < W17.heap.size := Nat.lt_of_lt_of_le hgP (by have := HST16.out.hl; have := HST16.out.hX; omega)
        have stD : ChSt W17.drew P (P + 1) (.slice A16 pg.length c16) (.slice A17 segs.length c17) pg segs := HST16.out.below (Below.drew (Below.refl _ _))
        have hcD : Cur W17.drew B g v bs := HC17.out.keep (Below.drew (Below.refl _ _)) hgw17
        have hwD : CurW g W0 W17.drew := HW17.out.fresh (Below.drew (Below.refl _ _))
        have zD := stD.c1
        have STD := hide stD; have HCD := hide hcD; have HWD := hide hwD
        clear stD hcD hwD hx15
        obtain ⟨i0, hi, hz0, hz1, hz2⟩ := info_parts segment_info
        have HL7 := hide (show segs.length ≤ 4 by have := HSL.out.2; simpa [baseSegs] using this)
        go_wp2_with fail
        go_region_law (first
          | (refine step_call (by rfl) (f := 98) (args := #[.pointer (some ⟨g, 0, none⟩), .int .i64 300]) (by first | (go_simp; done) | (go_simp; exact ⟨rfl, rfl⟩)) (l01Below_v B g v bs 300 _ HCD.out (by omega) (by omega)) ?_; rintro _ w18 ⟨x18, rfl, y180, y181, hc18, hw18'⟩; obtain ⟨d18, hd18⟩ : ∃ y, IntKind.i64.wrap (800 + x18) = y := ⟨_, rfl⟩; have HD18 := hide (show 800 ≤ d18 ∧ d18 ≤ 1099 by (rw [← hd18, IntWalk.i64_in _ (by omega)]; omega)); have HW18 := hide (CurW.trans HWD.out hw18'); have ST18 := hide (ChSt.curw STD.out hw18' hgP); have z18 := ST18.out.c1; have z18a : ∀ o, (w18.alloc o).cell? ⟨P + 1, 1, none⟩ = some (.slice A17 segs.length c17) := (fun o => (ST18.out.below ((Below.refl _ _).alloc (Nat.le_refl _) o)).c1); have HC18 := hide hc18; clear hc18 hw18')
          | ((refine step_append_rd _ SegmentD.enc_len SegmentD.enc_one (by rfl) _ _ 58 (by rfl) P 151 i0 (.agg #[.int .i64 0, .int .i64 0, .int .i64 0, .int .i64 0, .bool false]) 40 Try.underlying58 hi hz0 hz1 hz2 rfl (by decide) (.slice A17 segs.length c17) segs (by rfl) (Own.below ST18.out.os ((Below.refl _ _).alloc (Nat.le_refl _) _)) _ (.slice (some ⟨w18.heap.size, 0, none⟩) 1 1) [(⟨2, 4, d18, 15, false⟩ : SegmentD)] (by rfl) (rd_new (enc := SegmentD.enc) w18 (⟨2, 4, d18, 15, false⟩ : SegmentD) 151) (by have := HL7.out; unfold maxLen; simp; omega) (by have := HL7.out; simp; omega) (by have := ST18.out.hl; simp; omega) ?_; intro v19 w19 hown19 hgrow19 hblk19; obtain ⟨sg, hsg⟩ : ∃ l, segs ++ [(⟨2, 4, d18, 15, false⟩ : SegmentD)] = l := ⟨_, rfl⟩; rw [hsg] at hown19; have HSG := hide hsg; clear hsg; obtain ⟨A19, c19, rfl, -, -, -⟩ := Own.rd SegmentD.enc_len hown19; have hgs := (ST18.out.below ((Below.refl _ _).alloc (Nat.le_refl _) _)).grownS hgrow19; have hy191 := hgs.2.1; have hr191 := hgs.2.2.2; have HST19 := hide ((ST18.out.below ((Below.refl _ _).alloc (Nat.le_refl _) _)).storeS hgrow19 hown19 hblk19); have hbl := Own.belowGrown (B := P) (ST18.out.os.below ((Below.refl _ _).alloc (Nat.le_refl _) _)) hgrow19 (Nat.le_refl _) (by have := ST18.out.hl; simp; omega); have HC19 := hide ((HC18.out.keep ((Below.refl _ _).alloc (Nat.le_refl _) _) HC18.out.lt).keep hbl hgP); have HW19 := hide ((HW18.out.alloc _).fresh (hbl.mono hW01)); clear hgs hbl hown19 hgrow19 hblk19)))
        all_goals
          go_wp2_with fail
          go_meet
          exact ⟨_, _, pg, sg, HST19, hide (.inr ⟨d18, HD18.out.1, HD18.out.2, HPG.out.symm, HSG.out.symm⟩), hide (HC19.out.keep ((Below.refl P _).setCell (by simp) _) hgP), hide (HW19.out.store (by omega) _)⟩
    case rest =>
      clear ST15 HC15 HW15
      obtain ⟨vp, vs, pts, sg, ST, HDB, HC, HW⟩ := hcut
      obtain ⟨A1, c1, rfl, -, -, -⟩ := Own.rd PointD.enc_len ST.out.op
      obtain ⟨A2, c2, rfl, -, -, -⟩ := Own.rd SegmentD.enc_len ST.out.os
      have hbk := HW.out.block w.heap.size hl0 (fun e => by have := Option.some.inj e; omega)
      have y0 := (World.cell?_of_block (a := ⟨w.heap.size, 0, none⟩) hbk).trans Z.out.1.1
      have y1 := (World.cell?_of_block (a := ⟨w.heap.size, 1, none⟩) hbk).trans Z.out.1.2
      have r0 := (World.frozen?_of_block (a := ⟨w.heap.size, 0, none⟩) hbk).trans Z.out.2.1
      have r1 := (World.frozen?_of_block (a := ⟨w.heap.size, 1, none⟩) hbk).trans Z.out.2.2
      have u0 := ST.out.c0; have u1 := ST.out.c1
      have hX := ST.out.hl
      have hwx : w.heap.size < wc.heap.size := by omega
      have hwf : CurW g w wc := (CurW.ofBelow hb0).trans HW.out
      have HO1 := hide ST.out.op; have HO2 := hide ST.out.os
      clear hbk ST
      go_wp2
      refine bodyPost_ret (v := .agg #[.slice A1 pts.length c1, .slice A2 sg.length c2]) (by simp [results, Try.results102, go_sem, y0, y1]) rfl ⟨_, _, ⟨pts, sg⟩, rfl, ⟨b1, xe, xa, xb, xc, xd, xf, xg, segs, HBD.out, HSB.out, HDB.out⟩, ?_, ?_, ?_, ?_⟩
      · refine Own.mono (base := P) ?_ (by omega)
        refine Own.setFar (Own.setFar HO1.out ?_ _) ?_ _
        all_goals (intro e; have := (World.ownsRow.lt HO1.out _ e).1; simp at this; omega)
      · refine Own.mono (base := P) ?_ (by omega)
        refine Own.setFar (Own.setFar HO2.out ?_ _) ?_ _
        all_goals (intro e; have := (World.ownsRow.lt HO2.out _ e).1; simp at this; omega)
      · exact HC.out.keep (((Below.refl w.heap.size wc).setCell (by simp) _).setCell (by simp) _) hg
      · exact (hwf.store (Nat.le_refl _) _).store (Nat.le_refl _) _
end Go.Proofs.Ytjfppjhlkeopnaa
