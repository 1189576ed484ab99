/- A crew and a call drawn out of bytes. No condition. -/
import Derived.Test.YtjfppjhlkeopnaaMovDraw
import Derived.Test.YtjfppjhlkeopnaaUntil
import Derived.Deep.DeepCutAuto
namespace Go.Proofs.Ytjfppjhlkeopnaa
open Go.RowKit
set_option linter.unusedVariables false
def CrewRes (B g : Nat) (v : Value) (bs : List Int) (w : World) (e : Ending) (w' : World) : Prop := ∃ (p q r : Int) (A : Option Addr) (m c : Nat), e = .returned (.agg #[.int .i64 p, .int .i64 q, .int .i64 r, .slice A m c]) ∧ Cur w' B g v bs ∧ CurW g w w'
set_option maxRecDepth 100000 in
set_option maxHeartbeats 8000000 in
theorem l14Crew_any (B g : Nat) (v : Value) (bs : List Int) (w : World) (h : Cur w B g v bs) :
    Calls Try.prog 104 #[.pointer (some ⟨g, 0, none⟩)] w (CrewRes B g v bs w) := by
  have hg := h.lt
  have HC := hide h; clear h
  go_enter Try.func104, Try.ntmps104
  go_wp2_with fail
  generalize hW0 : w.alloc (.cells #[.int .i64 0, .int .i64 0, .int .i64 0, .slice none 0 0] 66) = W0
  have hb0 : Below w.heap.size w W0 := by rw [← hW0]; exact (Below.refl _ _).alloc (Nat.le_refl _) _
  have hl0 : w.heap.size < W0.heap.size := by rw [← hW0]; simp
  have z0 : W0.cell? ⟨w.heap.size, 0, none⟩ = some (.int .i64 0) := by rw [← hW0]; simp [go_sem]
  have z1 : W0.cell? ⟨w.heap.size, 1, none⟩ = some (.int .i64 0) := by rw [← hW0]; simp [go_sem]
  have z2 : W0.cell? ⟨w.heap.size, 2, none⟩ = some (.int .i64 0) := by rw [← hW0]; simp [go_sem]
  have z3 : W0.cell? ⟨w.heap.size, 3, none⟩ = some (.slice none 0 0) := by rw [← hW0]; simp [go_sem]
  have q0 : W0.frozen? ⟨w.heap.size, 0, none⟩ = false := by rw [← hW0]; simp [go_sem]
  have q1 : W0.frozen? ⟨w.heap.size, 1, none⟩ = false := by rw [← hW0]; simp [go_sem]
  have q2 : W0.frozen? ⟨w.heap.size, 2, none⟩ = false := by rw [← hW0]; simp [go_sem]
  have q3 : W0.frozen? ⟨w.heap.size, 3, none⟩ = false := by rw [← hW0]; simp [go_sem]
  clear hW0
  refine (l01Below_any B g v bs 4 _ (HC.out.keep hb0 hg) (by omega)).mono ?_
  rintro e w1 ⟨xa, rfl, xa0, -, -, xa1, hca, hwa⟩
  have HCA := hide hca; clear hca
  replace xa1 := xa1 (by omega)
  have ha1 : IntKind.i64.wrap (1 + xa) = 1 + xa := IntWalk.i64_in _ (by omega)
  go_wp2_with fail
  refine (l01Below_any B g v bs 3 _ HCA.out (by omega)).mono ?_
  rintro e w2 ⟨xb, rfl, xb0, -, -, xb1, hcb, hwb⟩
  have HCB := hide hcb; clear hcb
  replace xb1 := xb1 (by omega)
  have hb1 : IntKind.i64.wrap (1 + xb) = 1 + xb := IntWalk.i64_in _ (by omega)
  go_wp2_with fail
  refine (l01Below_any B g v bs 60 _ HCB.out (by omega)).mono ?_
  rintro e w3 ⟨xc, rfl, xc0, -, -, xc1, hcc, hwc⟩
  have HCC := hide hcc; clear hcc
  replace xc1 := xc1 (by omega)
  go_wp2_with fail
  refine (l13Moves_any B g v bs _ HCC.out).mono ?_
  rintro e w4 ⟨vm, rfl, ms, -, hom, hcd, hwd⟩
  obtain ⟨A4, c4, rfl, -, -, -⟩ := Own.rd encI_len hom
  have HCD := hide hcd; clear hcd hom
  have hw4 : CurW g W0 w4 := ((hwa.trans hwb).trans hwc).trans hwd
  have hbk := hw4.block w.heap.size hl0 (fun e => by have := Option.some.inj e; omega)
  have y0 := (World.cell?_of_block (a := ⟨w.heap.size, 0, none⟩) hbk).trans z0
  have y1 := (World.cell?_of_block (a := ⟨w.heap.size, 1, none⟩) hbk).trans z1
  have y2 := (World.cell?_of_block (a := ⟨w.heap.size, 2, none⟩) hbk).trans z2
  have y3 := (World.cell?_of_block (a := ⟨w.heap.size, 3, none⟩) hbk).trans z3
  have r0 := (World.frozen?_of_block (a := ⟨w.heap.size, 0, none⟩) hbk).trans q0
  have r1 := (World.frozen?_of_block (a := ⟨w.heap.size, 1, none⟩) hbk).trans q1
  have r2 := (World.frozen?_of_block (a := ⟨w.heap.size, 2, none⟩) hbk).trans q2
  have r3 := (World.frozen?_of_block (a := ⟨w.heap.size, 3, none⟩) hbk).trans q3
  have hl4 : w.heap.size < w4.heap.size := Nat.lt_of_lt_of_le hl0 hw4.size
  have hwf : CurW g w w4 := (CurW.ofBelow hb0).trans hw4
  clear z0 z1 z2 z3 q0 q1 q2 q3 hbk hwa hwb hwc hwd hw4
  go_wp2
  refine bodyPost_ret (v := .agg #[.int .i64 (1 + xa), .int .i64 (1 + xb), .int .i64 xc, .slice A4 ms.length c4]) (by simp [results, Try.results104, go_sem, y0, y1, y2, y3, r0, r1, r2, r3]) rfl ⟨_, _, _, _, _, _, rfl, ?_, ?_⟩
  · exact HCD.out.keep (show Below w.heap.size w4 _ from ((((Below.refl w.heap.size w4).setCell (by simp) _).setCell (by simp) _).setCell (by simp) _).setCell (by simp) _) hg
  · exact (((hwf.store (Nat.le_refl _) _).store (Nat.le_refl _) _).store (Nat.le_refl _) _).store (Nat.le_refl _) _
/-- a block of five numbers -/
def Five (w : World) (X : Nat) (x0 x1 x2 x3 x4 : Int) : Prop := (w.cell? ⟨X, 0, none⟩ = some (.int .i64 x0) ∧ w.cell? ⟨X, 1, none⟩ = some (.int .i64 x1) ∧ w.cell? ⟨X, 2, none⟩ = some (.int .i64 x2) ∧ w.cell? ⟨X, 3, none⟩ = some (.int .i64 x3) ∧ w.cell? ⟨X, 4, none⟩ = some (.int .i64 x4)) ∧ w.frozen? ⟨X, 0, none⟩ = false ∧ w.frozen? ⟨X, 1, none⟩ = false ∧ w.frozen? ⟨X, 2, none⟩ = false ∧ w.frozen? ⟨X, 3, none⟩ = false ∧ w.frozen? ⟨X, 4, none⟩ = false
theorem Five.curw {w w' : World} {X g : Nat} {x0 x1 x2 x3 x4 : Int} (h : Five w X x0 x1 x2 x3 x4) (hw : CurW g w w') (hX : X < w.heap.size) (hg : g < X) : Five w' X x0 x1 x2 x3 x4 := by
  have hbk := hw.block X hX (fun e => by have := Option.some.inj e; omega)
  have c : ∀ o, w'.cell? ⟨X, o, none⟩ = w.cell? ⟨X, o, none⟩ := fun o => World.cell?_of_block (a := ⟨X, o, none⟩) hbk
  have f : ∀ o, w'.frozen? ⟨X, o, none⟩ = w.frozen? ⟨X, o, none⟩ := fun o => World.frozen?_of_block (a := ⟨X, o, none⟩) hbk
  unfold Five
  rw [c, c, c, c, c, f, f, f, f, f]
  exact h
def CallRes (B g : Nat) (v : Value) (bs : List Int) (w : World) (e : Ending) (w' : World) : Prop := ∃ (x0 x1 x2 x3 x4 : Int), e = .returned (.agg #[.int .i64 x0, .int .i64 x1, .int .i64 x2, .int .i64 x3, .int .i64 x4]) ∧ Cur w' B g v bs ∧ CurW g w w'
set_option maxRecDepth 100000 in
set_option maxHeartbeats 8000000 in
theorem l15Call_any (B g : Nat) (v : Value) (bs : List Int) (i : Int) (w : World) (h : Cur w B g v bs) :
    Calls Try.prog 91 #[.pointer (some ⟨g, 0, none⟩), .int .i64 i] w (CallRes B g v bs w) := by
  have hg := h.lt
  have HC := hide h; clear h
  go_enter Try.func91, Try.ntmps91
  go_wp2_with fail
  generalize hW0 : w.alloc (.cells #[.int .i64 0, .int .i64 0, .int .i64 0, .int .i64 0, .int .i64 0] 129) = W0
  have hb0 : Below w.heap.size w W0 := by rw [← hW0]; exact (Below.refl _ _).alloc (Nat.le_refl _) _
  have hl0 : w.heap.size < W0.heap.size := by rw [← hW0]; simp
  have Z := hide (show (∀ o, o < 5 → W0.cell? ⟨w.heap.size, o, none⟩ = some (.int .i64 0)) ∧ ∀ o, o < 5 → W0.frozen? ⟨w.heap.size, o, none⟩ = false by
    rw [← hW0]
    constructor
    all_goals
      intro o ho
      rcases o with _ | _ | _ | _ | _ | o
      all_goals first | (exfalso; omega) | simp [go_sem])
  clear hW0
  refine (l01Below_any B g v bs 30 _ (HC.out.keep hb0 hg) (by omega)).mono ?_
  rintro e w1 ⟨xa, rfl, xa0, -, -, xa1, hca, hwa⟩
  have HCA := hide hca; have HWA := hide hwa; clear hca
  replace xa1 := xa1 (by omega)
  have s1 := hwa.size
  obtain ⟨t9, ht9⟩ : ∃ z, IntKind.i64.wrap (15 * xa) = z := ⟨_, rfl⟩
  clear hwa
  go_wp2_with fail
  obtain ⟨W2, hW2⟩ : ∃ W, w1.alloc (.cells #[.int .i64 i, .int .i64 0, .int .i64 3, .int .i64 t9, .int .i64 0] 129) = W := ⟨_, rfl⟩
  have hb2 : Below w1.heap.size w1 W2 := by rw [← hW2]; exact (Below.refl _ _).alloc (Nat.le_refl _) _
  have hl2 : w1.heap.size < W2.heap.size := by rw [← hW2]; simp
  have st2 : Five W2 w1.heap.size i 0 3 t9 0 := ⟨⟨by rw [← hW2]; simp [go_sem], by rw [← hW2]; simp [go_sem], by rw [← hW2]; simp [go_sem], by rw [← hW2]; simp [go_sem], by rw [← hW2]; simp [go_sem]⟩, by rw [← hW2]; simp [go_sem], by rw [← hW2]; simp [go_sem], by rw [← hW2]; simp [go_sem], by rw [← hW2]; simp [go_sem], by rw [← hW2]; simp [go_sem]⟩
  rw [hW2]
  clear hW2
  have hgX : g < w1.heap.size := HCA.out.lt
  have HC2 := hide (HCA.out.keep hb2 hgX)
  have HW2 := hide (HWA.out.fresh (hb2.mono s1))
  obtain ⟨X, hX⟩ : ∃ X, w1.heap.size = X := ⟨_, rfl⟩
  rw [hX] at hl2 st2 hgX s1 ⊢
  clear hX HCA HWA hb2
  refine (l01Once_any B g v bs 3 _ HC2.out (by omega)).mono ?_
  rintro e w3 ⟨y, rfl, hc3, hw3⟩
  have ST3 := hide (st2.curw hw3 hl2 hgX)
  have HC3 := hide hc3
  have HW3 := hide (HW2.out.trans hw3)
  have hl3 : X < w3.heap.size := Nat.lt_of_lt_of_le hl2 hw3.size
  clear hc3 hw3 st2 HC2 HW2 hl2
  go_upto_if 12 with fail
  go_cut [] (fun wx => ∃ a b : Int, Hid (Five wx X i a b t9 0) ∧ Hid (Cur wx B g v bs) ∧ Hid (CurW g W0 wx) ∧ X < wx.heap.size)
  case first =>
    obtain ⟨⟨c0, c1, c2, c3, c4⟩, f0, f1, f2, f3, f4⟩ := ST3.out
    cases y
    · go_wp2
      go_meet
      exact ⟨0, 3, ST3, HC3, HW3, hl3⟩
    · go_wp2
      go_meet
      refine ⟨3, 0, hide ⟨⟨by simp [go_sem, c0], by simp [go_sem, c1], by simp [go_sem, c2], by simp [go_sem, c3], by simp [go_sem, c4]⟩, by simp [go_sem, f0], by simp [go_sem, f1], by simp [go_sem, f2], by simp [go_sem, f3], by simp [go_sem, f4]⟩, hide (HC3.out.keep (((Below.refl X w3).setCell (by simp) _).setCell (by simp) _) hgX), hide ((HW3.out.store (by omega) _).store (by omega) _), by simpa [World.setCell] using hl3⟩
  case rest =>
    obtain ⟨a, b, ST, HC, HW, hl⟩ := hcut
    clear ST3 HC3 HW3 hl3
    obtain ⟨wo, rfl⟩ : ∃ wo : World, wo = wc := ⟨_, rfl⟩
    go_upto_region 5 with fail
    refine wp_region_until 7 (fun w' => w'.cell? ⟨X, 3, none⟩ = some (.int .i64 t9)) (by kernel_rfl) ?_
    have hS : wo.drew.cell? ⟨X, 3, none⟩ = some (.int .i64 t9) := ST.out.1.2.2.2.1
    refine untilR.takeD (i := 0) (v := ?_) rfl (by kernel_rfl) (by kernel_rfl) (by kernel_rfl) (by kernel_rfl) (fun _ _ _ h => h) (.inl ⟨by rfl, ?_⟩) hS ?_
    rotate_left
    · (intro w' hSw; go_simp; first | done | with_reducible rfl)
    try simp only [Act.put, List.setIfInBounds_toArray, List.set_cons_zero, List.set_cons_succ]
    refine untilR.takeD (i := 1) (v := ?_) rfl (by kernel_rfl) (by kernel_rfl) (by kernel_rfl) (by kernel_rfl) (fun _ _ _ h => h) (.inl ⟨by rfl, ?_⟩) hS ?_
    rotate_left
    · (intro w' hSw; go_simp; first | done | with_reducible rfl)
    try simp only [Act.put, List.setIfInBounds_toArray, List.set_cons_zero, List.set_cons_succ]
    refine untilR.takeD (i := 2) (v := ?_) rfl (by kernel_rfl) (by kernel_rfl) (by kernel_rfl) (by kernel_rfl) (fun _ _ _ h => h) (.inl ⟨by rfl, ?_⟩) hS ?_
    rotate_left
    · (intro w' hSw; go_simp; first | done | with_reducible rfl)
    try simp only [Act.put, List.setIfInBounds_toArray, List.set_cons_zero, List.set_cons_succ]
    refine untilR.takeD (i := 3) (v := ?_) rfl (by kernel_rfl) (by kernel_rfl) (by kernel_rfl) (by kernel_rfl) (fun _ _ _ h => h) (.inl ⟨by rfl, ?_⟩) hS ?_
    rotate_left
    · (intro w' hSw; go_simp; first | done | with_reducible rfl)
    try simp only [Act.put, List.setIfInBounds_toArray, List.set_cons_zero, List.set_cons_succ]
    refine untilR.oneD (i := 4) (by kernel_rfl) rfl rfl (fun K hK => ?_)
    refine wp_call (f := 98) (args := #[.pointer (some ⟨g, 0, none⟩), .int .i64 400]) (by first | (go_simp; done) | (go_simp; exact ⟨rfl, rfl⟩)) (l01Below_v B g v bs 400 _ (HC.out.keep (Below.drew (Below.refl _ _)) HC.out.lt) (by omega) (by omega)) ?_
    rintro _ w8 ⟨x, rfl, x0, x1, hc8, hw8⟩
    have hw8' : CurW g wo w8 := (CurW.ofBelow (Below.drew (Below.refl _ _))).trans hw8
    have ST8 := hide (ST.out.curw hw8' hl hgX)
    have HC8 := hide hc8
    have HW8 := hide (HW.out.trans hw8')
    have hl8 : X < w8.heap.size := Nat.lt_of_lt_of_le hl hw8'.size
    refine hK.out _ _ (fun _ => ST8.out.1.2.2.2.1) ?_
    clear hK K hS hc8 hw8 hw8'
    try simp only [Act.put, List.setIfInBounds_toArray, List.set_cons_zero, List.set_cons_succ]
    have hS := ST8.out.1.2.2.2.1
    refine untilR.takeD (i := 5) (v := ?_) rfl (by kernel_rfl) (by kernel_rfl) (by kernel_rfl) (by kernel_rfl) (fun _ _ _ h => h) (.inl ⟨by rfl, ?_⟩) hS ?_
    rotate_left
    · (intro w' hSw; go_simp; first | done | with_reducible rfl)
    try simp only [Act.put, List.setIfInBounds_toArray, List.set_cons_zero, List.set_cons_succ]
    refine untilR.takeD (i := 6) (v := ?_) rfl (by kernel_rfl) (by kernel_rfl) (by kernel_rfl) (by kernel_rfl) (fun _ _ _ h => h) (.inl ⟨by rfl, ?_⟩) hS ?_
    rotate_left
    · (intro w' hSw; go_simp; first | done | with_reducible rfl)
    try simp only [Act.put, List.setIfInBounds_toArray, List.set_cons_zero, List.set_cons_succ]
    refine untilR.oneD (i := 7) (by kernel_rfl) rfl rfl (fun K hK => ?_)
    obtain ⟨⟨c0, c1, c2, c3, c4⟩, f0, f1, f2, f3, f4⟩ := ST8.out
    go_simp
    refine hK.out _ _ (fun h => absurd rfl h) ?_
    clear hK K
    try simp only [Act.put, List.setIfInBounds_toArray, List.set_cons_zero, List.set_cons_succ]
    refine untilR.done (by kernel_rfl) ?_ _
    clear hS
    obtain ⟨V, hV⟩ : ∃ z, IntKind.i64.wrap (IntKind.i64.wrap (t9 + 60) + x) = z := ⟨_, rfl⟩
    rw [hV]
    obtain ⟨W9, hW9⟩ : ∃ W, w8.setCell ⟨X, 4, none⟩ (.int .i64 V) = W := ⟨_, rfl⟩
    have y0 : W9.cell? ⟨X, 0, none⟩ = some (.int .i64 i) := by rw [← hW9]; simp [go_sem, c0]
    have y1 : W9.cell? ⟨X, 1, none⟩ = some (.int .i64 a) := by rw [← hW9]; simp [go_sem, c1]
    have y2 : W9.cell? ⟨X, 2, none⟩ = some (.int .i64 b) := by rw [← hW9]; simp [go_sem, c2]
    have y3 : W9.cell? ⟨X, 3, none⟩ = some (.int .i64 t9) := by rw [← hW9]; simp [go_sem, c3]
    have y4 : W9.cell? ⟨X, 4, none⟩ = some (.int .i64 V) := by rw [← hW9]; simp [go_sem, c4]
    have HC9 := hide (show Cur W9 B g v bs by rw [← hW9]; exact HC8.out.keep ((Below.refl X w8).setCell (by simp) _) hgX)
    have hw9 : CurW g W0 W9 := by rw [← hW9]; exact HW8.out.store (by omega) _
    have hX9 : X < W9.heap.size := by rw [← hW9]; simpa [World.setCell] using hl8
    rw [hW9]
    clear hW9 hV c0 c1 c2 c3 c4 f0 f1 f2 f3 f4 ST8 HC8 HW8
    have hbr := hw9.block w.heap.size hl0 (fun e => by have := Option.some.inj e; omega)
    have r0 := (World.cell?_of_block (a := ⟨w.heap.size, 0, none⟩) hbr).trans (Z.out.1 0 (by omega))
    have r1 := (World.cell?_of_block (a := ⟨w.heap.size, 1, none⟩) hbr).trans (Z.out.1 1 (by omega))
    have r2 := (World.cell?_of_block (a := ⟨w.heap.size, 2, none⟩) hbr).trans (Z.out.1 2 (by omega))
    have r3 := (World.cell?_of_block (a := ⟨w.heap.size, 3, none⟩) hbr).trans (Z.out.1 3 (by omega))
    have r4 := (World.cell?_of_block (a := ⟨w.heap.size, 4, none⟩) hbr).trans (Z.out.1 4 (by omega))
    have t0 := (World.frozen?_of_block (a := ⟨w.heap.size, 0, none⟩) hbr).trans (Z.out.2 0 (by omega))
    have t1 := (World.frozen?_of_block (a := ⟨w.heap.size, 1, none⟩) hbr).trans (Z.out.2 1 (by omega))
    have t2 := (World.frozen?_of_block (a := ⟨w.heap.size, 2, none⟩) hbr).trans (Z.out.2 2 (by omega))
    have t3 := (World.frozen?_of_block (a := ⟨w.heap.size, 3, none⟩) hbr).trans (Z.out.2 3 (by omega))
    have t4 := (World.frozen?_of_block (a := ⟨w.heap.size, 4, none⟩) hbr).trans (Z.out.2 4 (by omega))
    have hwX : w.heap.size < W9.heap.size := by omega
    have HWF := hide (show CurW g w W9 from (CurW.ofBelow hb0).trans hw9)
    clear hbr hw9
    go_wp2
    refine bodyPost_ret (v := .agg #[.int .i64 i, .int .i64 a, .int .i64 b, .int .i64 t9, .int .i64 V]) (by simp [results, Try.results91, go_sem, r0, r1, r2, r3, r4]) rfl ⟨_, _, _, _, _, rfl, ?_, ?_⟩
    · exact HC9.out.keep (show Below w.heap.size W9 _ from (by repeat (first | exact Below.refl _ _ | assumption | refine Below.setCell ?_ (by first | omega | (simp <;> omega)) _ | refine Below.alloc ?_ (by first | omega | (simp <;> omega)) _ | refine below_drewN ?_ _ | refine Below.drew ?_ | refine Below.trans ?_ (Below.mono (by assumption) (by first | omega | (simp <;> omega)))))) hg
    · exact HWF.out.fresh (show Below w.heap.size W9 _ from (by repeat (first | exact Below.refl _ _ | assumption | refine Below.setCell ?_ (by first | omega | (simp <;> omega)) _ | refine Below.alloc ?_ (by first | omega | (simp <;> omega)) _ | refine below_drewN ?_ _ | refine Below.drew ?_ | refine Below.trans ?_ (Below.mono (by assumption) (by first | omega | (simp <;> omega))))))
end Go.Proofs.Ytjfppjhlkeopnaa
