/- A tide drawn out of bytes. No condition. -/
import Derived.Test.YtjfppjhlkeopnaaChDraw
import Derived.Test.YtjfppjhlkeopnaaUntil
import Derived.Test.YtjfppjhlkeopnaaSPart
import Derived.Test.YtjfppjhlkeopnaaSSurge
namespace Go.Proofs.Ytjfppjhlkeopnaa
open Go.RowKit
set_option linter.unusedVariables false
/-- a slice in a field of a struct in block X -/
structure FldSt {α : Type} (w : World) (X o P : Nat) (T : TypeId) (sz : Nat) (enc : α → List Value) (v : Value) (xs : List α) : Prop where
  c : w.cell? ⟨X, o, none⟩ = some v
  f : w.frozen? ⟨X, o, none⟩ = false
  hX : X < P
  hl : P ≤ w.heap.size
  ow : Own w P T sz enc v xs
section
variable {α : Type} {w w' : World} {X o P sz : Nat} {T : TypeId} {enc : α → List Value} {v : Value} {xs : List α}
theorem FldSt.hx (h : FldSt w X o P T sz enc v xs) : X < w.heap.size := Nat.lt_of_lt_of_le h.hX h.hl
theorem FldSt.curw {g : Nat} (h : FldSt w X o P T sz enc v xs) (hw : CurW g w w') (hg : g < X) : FldSt w' X o P T sz enc v xs := by
  have hbk := hw.block X h.hx (fun e => by have := Option.some.inj e; omega)
  exact ⟨(World.cell?_of_block (a := ⟨X, o, none⟩) hbk).trans h.c, (World.frozen?_of_block (a := ⟨X, o, none⟩) hbk).trans h.f, h.hX, Nat.le_trans h.hl hw.size, h.ow.curw hw (Nat.lt_trans hg h.hX)⟩
theorem FldSt.below (h : FldSt w X o P T sz enc v xs) (hb : Below w.heap.size w w') : FldSt w' X o P T sz enc v xs :=
  ⟨cellKeep hb h.c h.hx, frozenKeep hb h.f h.hx, h.hX, Nat.le_trans h.hl hb.size, h.ow.below hb⟩
theorem Own.neF (h : Own w P T sz enc v xs) (hX : X < P) : v.ownBlock ≠ some X := fun e => by have := (World.ownsRow.lt h X e).1; omega
theorem FldSt.add {v' : Value} {xs' : List α} (h : FldSt w X o P T sz enc v xs) (hg : w.grownBy w' v.ownBlock) (ho : Own w' P T sz enc v' xs') : Below P w w' ∧ FldSt (w'.setCell ⟨X, o, none⟩ v') X o P T sz enc v' xs' := by
  have hb : Below P w w' := Own.belowGrown (B := P) h.ow hg (Nat.le_refl _) h.hl
  have y := cellKeep hb h.c h.hX; have r := frozenKeep hb h.f h.hX
  exact ⟨hb, by simp [go_sem, y], by simp [go_sem, r], h.hX, by have := hb.size; have := h.hl; simp [World.setCell]; omega, ho.setFar (ho.neF h.hX) _⟩
end
set_option maxRecDepth 100000 in
set_option maxHeartbeats 8000000 in
theorem l01Pick_any (B g base : Nat) (v vl : Value) (bs xs : List Int) (w : World) (h : Cur w B g v bs) (hl : Own w base 3 1 encI vl xs) (hg : g < base) (h1 : 1 ≤ xs.length) (h2 : xs.length ≤ 100) :
    Calls Try.prog 110 #[.pointer (some ⟨g, 0, none⟩), vl] w fun e w' => ∃ u, e = .returned u ∧ (∃ x, u = .int .i64 x ∧ x ∈ xs ∧ Cur w' B g v bs ∧ CurW g w w') := by
  have HC := hide h; clear h
  obtain ⟨A1, c1, rfl, hc1, hm1, -⟩ := Own.rd encI_len hl
  unfold maxLen at hm1
  have HL := hide hl; clear hl
  have hx0 : (0 : Int) < (xs.length : Int) := by omega
  go_enter Try.func110, Try.ntmps110
  go_wp2_with fail
  refine (l01Below_any B g v bs (xs.length : Int) _ HC.out (by omega)).mono ?_
  rintro e w1 ⟨k0, rfl, k00, -, -, k01, hc, hw⟩
  replace k01 := k01 hx0
  obtain ⟨k, rfl⟩ : ∃ k : Nat, k0 = k := ⟨k0.toNat, by omega⟩
  have hk : k < xs.length := by omega
  have hl1 := HL.out.curw hw hg
  obtain ⟨A1', c1', e1, -, -, h3⟩ := Own.rd encI_len hl1
  obtain ⟨b1, o1, e1', hb1, hcell⟩ := h3 (by omega)
  obtain ⟨rfl, rfl⟩ : A1 = A1' ∧ c1 = c1' := by injection e1 with q1 _ q3; exact ⟨q1, q3⟩
  subst e1'
  have q : w1.cell? ⟨b1, o1 + k, none⟩ = some (.int .i64 xs[k]) := by have := hcell k xs[k] (List.getElem?_eq_getElem hk) 0 _ rfl; simpa using this
  have HM := hide (List.getElem_mem hk)
  obtain ⟨x, hx⟩ : ∃ x, xs[k] = x := ⟨_, rfl⟩
  rw [hx] at q HM
  have HC1 := hide hc; have HW := hide hw
  clear hx hcell h3 e1 hl1 hc hw
  go_wp2
  go_ret
  exact ⟨_, rfl, x, rfl, HM.out, HC1.out, HW.out⟩
def PartIs (x : PartD) : Prop := (0 ≤ x.amp ∧ x.amp < 300) ∧ x.period ∈ [(744 : Int), 720, 1440, 372, 240] ∧ 0 ≤ x.phase ∧ x.phase < x.period
theorem PartIs.per {x : Int} (h : x ∈ [(744 : Int), 720, 1440, 372, 240]) : 240 ≤ x ∧ x ≤ 1440 := by
  simp only [List.mem_cons, List.not_mem_nil, or_false] at h; omega
set_option maxRecDepth 100000 in
set_option maxHeartbeats 16000000 in
theorem l02Part_any (B g : Nat) (v : Value) (bs : List Int) (w : World) (h : Cur w B g v bs) :
    Calls Try.prog 108 #[.pointer (some ⟨g, 0, none⟩)] w fun e w' => ∃ u, e = .returned u ∧ (∃ x : PartD, u = .agg #[.int .i64 x.amp, .int .i64 x.period, .int .i64 x.phase] ∧ PartIs x ∧ Cur w' B g v bs ∧ CurW g w w') := by
  have hg := h.lt
  have HC := hide h; clear h
  go_enter Try.func108, Try.ntmps108
  go_wp2_with fail
  generalize hW0 : w.alloc (.cells #[.int .i64 0, .int .i64 0, .int .i64 0] 155) = W0
  have hb0 : Below w.heap.size w W0 := by rw [← hW0]; exact (Below.refl _ _).alloc (Nat.le_refl _) _
  have hl0 : w.heap.size < W0.heap.size := by rw [← hW0]; simp
  have Z := hide (show (W0.cell? ⟨w.heap.size, 0, none⟩ = some (.int .i64 0) ∧ W0.cell? ⟨w.heap.size, 1, none⟩ = some (.int .i64 0) ∧ W0.cell? ⟨w.heap.size, 2, none⟩ = some (.int .i64 0)) ∧ W0.frozen? ⟨w.heap.size, 0, none⟩ = false ∧ W0.frozen? ⟨w.heap.size, 1, none⟩ = false ∧ W0.frozen? ⟨w.heap.size, 2, none⟩ = false by rw [← hW0]; exact ⟨⟨by simp [go_sem], by simp [go_sem], by simp [go_sem]⟩, by simp [go_sem], by simp [go_sem], by simp [go_sem]⟩)
  clear hW0
  refine (l01Below_any B g v bs 300 _ (HC.out.keep hb0 hg) (by omega)).mono ?_
  rintro e w1 ⟨xa, rfl, xa0, -, -, xa1, hc1, hw1⟩
  replace xa1 := xa1 (by omega)
  have HC1 := hide hc1; have HW1 := hide hw1; have s1 := hw1.size; clear hc1 hw1
  go_wp2_with fail
  have hof := own_fresh (enc := encI) (sz := 1) w1 3 [(744 : Int), 720, 1440, 372, 240] encI_len (by simp [maxLen])
  have hba : Below w1.heap.size w1 (w1.alloc (.cells #[.int .i64 744, .int .i64 720, .int .i64 1440, .int .i64 372, .int .i64 240] 3)) := (Below.refl _ _).alloc (Nat.le_refl _) _
  have hg1 : g < w1.heap.size := HC1.out.lt
  refine (l01Pick_any B g w1.heap.size v _ bs [(744 : Int), 720, 1440, 372, 240] _ (HC1.out.keep hba hg1) hof hg1 (by simp) (by simp)).mono ?_
  rintro e w2 ⟨_, rfl, per, rfl, hper, hc2, hw2⟩
  have hp := PartIs.per hper
  have HPER := hide hper
  have HC2 := hide hc2
  have HW2 := hide (HW1.out.trans ((CurW.ofBelow hba).trans hw2))
  have s2 := HW2.out.size
  clear hc2 hw2 hof hba hper
  obtain ⟨p0, p1⟩ := hp
  go_wp2_with fail
  obtain ⟨W3, hW3⟩ : ∃ W, w2.alloc (.cells #[.int .i64 xa, .int .i64 per, .int .i64 0] 155) = W := ⟨_, rfl⟩
  have hb3 : Below w2.heap.size w2 W3 := by rw [← hW3]; exact (Below.refl _ _).alloc (Nat.le_refl _) _
  have hs3 : w2.heap.size < W3.heap.size := by rw [← hW3]; simp
  have V := hide (show (W3.cell? ⟨w2.heap.size, 0, none⟩ = some (.int .i64 xa) ∧ W3.cell? ⟨w2.heap.size, 1, none⟩ = some (.int .i64 per) ∧ W3.cell? ⟨w2.heap.size, 2, none⟩ = some (.int .i64 0)) ∧ W3.frozen? ⟨w2.heap.size, 2, none⟩ = false by rw [← hW3]; exact ⟨⟨by simp [go_sem], by simp [go_sem], by simp [go_sem]⟩, by simp [go_sem]⟩)
  rw [hW3]
  clear hW3
  have HC3 := hide (HC2.out.keep hb3 HC2.out.lt)
  have HW3 := hide (HW2.out.fresh (hb3.mono s2))
  have hgX : g < w2.heap.size := HC2.out.lt
  refine (l01Below_any B g v bs per _ HC3.out (by omega)).mono ?_
  rintro e w4 ⟨ph, rfl, ph0, -, -, ph1, hc4, hw4⟩
  replace ph1 := ph1 (by omega)
  have s4 := hw4.size
  have hbk := hw4.block w2.heap.size hs3 (fun e => by have := Option.some.inj e; omega)
  obtain ⟨X, hX⟩ : ∃ X, w2.heap.size = X := ⟨_, rfl⟩
  have y0 := (World.cell?_of_block (a := ⟨w2.heap.size, 0, none⟩) hbk).trans V.out.1.1
  have y1 := (World.cell?_of_block (a := ⟨w2.heap.size, 1, none⟩) hbk).trans V.out.1.2.1
  have y2 := (World.cell?_of_block (a := ⟨w2.heap.size, 2, none⟩) hbk).trans V.out.1.2.2
  have y3 := (World.frozen?_of_block (a := ⟨w2.heap.size, 2, none⟩) hbk).trans V.out.2
  have HW4 := hide (HW3.out.trans hw4)
  have HC4 := hide hc4
  rw [hX] at y0 y1 y2 y3 hs3 s2 hgX ⊢
  have hbr := HW4.out.block w.heap.size hl0 (fun e => by have := Option.some.inj e; omega)
  have r0 := (World.cell?_of_block (a := ⟨w.heap.size, 0, none⟩) hbr).trans Z.out.1.1
  have r1 := (World.cell?_of_block (a := ⟨w.heap.size, 1, none⟩) hbr).trans Z.out.1.2.1
  have r2 := (World.cell?_of_block (a := ⟨w.heap.size, 2, none⟩) hbr).trans Z.out.1.2.2
  have t0 := (World.frozen?_of_block (a := ⟨w.heap.size, 0, none⟩) hbr).trans Z.out.2.1
  have t1 := (World.frozen?_of_block (a := ⟨w.heap.size, 1, none⟩) hbr).trans Z.out.2.2.1
  have t2 := (World.frozen?_of_block (a := ⟨w.heap.size, 2, none⟩) hbr).trans Z.out.2.2.2
  have hwX : w.heap.size < X := by omega
  have n1 : ¬ w.heap.size = X := by omega
  have n2 : ¬ X = w.heap.size := by omega
  have hX4 : X < w4.heap.size := by omega
  have hwx : w.heap.size < w4.heap.size := by omega
  have hwf : CurW g w w4 := (CurW.ofBelow hb0).trans HW4.out
  have HWF := hide hwf
  clear hwf hbk hbr V hX hw4 hc4 hb3 HC3 HW3 HC2 HW2 HC1 HW1
  go_wp2
  refine bodyPost_ret (v := .agg #[.int .i64 xa, .int .i64 per, .int .i64 ph]) (by simp [results, Try.results108, go_sem, r0, r1, r2]) rfl ⟨_, rfl, ⟨xa, per, ph⟩, rfl, ⟨⟨xa0, xa1⟩, HPER.out, ph0, ph1⟩, ?_, ?_⟩
  · exact HC4.out.keep (show Below w.heap.size w4 _ from (by repeat (first | exact Below.refl _ _ | assumption | refine Below.setCell ?_ (by first | omega | (simp <;> omega)) _ | refine Below.alloc ?_ (by first | omega | (simp <;> omega)) _ | refine below_drewN ?_ _ | refine Below.drew ?_ | refine Below.trans ?_ (Below.mono (by assumption) (by first | omega | (simp <;> omega)))))) hg
  · exact HWF.out.fresh (show Below w.heap.size w4 _ from (by repeat (first | exact Below.refl _ _ | assumption | refine Below.setCell ?_ (by first | omega | (simp <;> omega)) _ | refine Below.alloc ?_ (by first | omega | (simp <;> omega)) _ | refine below_drewN ?_ _ | refine Below.drew ?_ | refine Below.trans ?_ (Below.mono (by assumption) (by first | omega | (simp <;> omega))))))
end Go.Proofs.Ytjfppjhlkeopnaa
