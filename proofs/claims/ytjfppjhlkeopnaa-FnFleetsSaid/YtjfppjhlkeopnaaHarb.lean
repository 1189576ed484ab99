/- A harbour drawn out of bytes. No condition. -/
import Derived.Test.YtjfppjhlkeopnaaCallA
import Derived.Test.YtjfppjhlkeopnaaFcDraw3
import Derived.Test.YtjfppjhlkeopnaaChDraw
import Derived.Test.YtjfppjhlkeopnaaRegDraw
import Derived.Test.YtjfppjhlkeopnaaFleetL
import Derived.Test.YtjfppjhlkeopnaaWin2
namespace Go.Proofs.Ytjfppjhlkeopnaa
open Go.RowKit
set_option linter.unusedVariables false
theorem flat_set {α : Type} {enc : α → List Value} {sz : Nat} (he : ∀ x, (enc x).length = sz) {j : Nat} (hj : j < sz) (u : Value) (y : α) : ∀ (xs : List α) (i : Nat) (hi : i < xs.length), enc y = (enc xs[i]).set j u → (xs.flatMap enc).set (i * sz + j) u = (xs.set i y).flatMap enc
  | x :: xs, 0, _, h => by
    rw [List.flatMap_cons, List.set_cons_zero, List.flatMap_cons, Nat.zero_mul, Nat.zero_add, List.set_append_left _ _ (by rw [he]; exact hj)]
    rw [h]; rfl
  | x :: xs, i + 1, hi, h => by
    have e : (i + 1) * sz + j - sz = i * sz + j := by rw [Nat.succ_mul]; omega
    have hge : (enc x).length ≤ (i + 1) * sz + j := by rw [he, Nat.succ_mul]; omega
    rw [List.flatMap_cons, List.set_cons_succ, List.flatMap_cons, List.set_append_right _ _ hge, he, e]
    rw [flat_set he hj u y xs i (by simpa using hi) h]
theorem Own.setAt {α : Type} {w : World} {base sz g cap : Nat} {T : TypeId} {enc : α → List Value} {xs : List α} (he : ∀ x, (enc x).length = sz) (h : Own w base T sz enc (.slice (some ⟨g, 0, none⟩) xs.length cap) xs) {i : Nat} (hi : i < xs.length) {j : Nat} (hj : j < sz) (y : α) (u : Value) (hy : enc y = (enc xs[i]).set j u) :
    Own (w.setCell ⟨g, i * sz + j, none⟩ u) base T sz enc (.slice (some ⟨g, 0, none⟩) xs.length cap) (xs.set i y) := by
  have := ownsRow_storeRow [u] w (i * sz + j) _ h
  have e : Go.Proofs.Ytjfppjhlkeopnaa.setRow (xs.flatMap enc) (i * sz + j) [u] = (xs.set i y).flatMap enc := flat_set he hj u y xs i hi hy
  rw [e] at this
  unfold Own
  rw [List.length_set]
  exact this
/-- the cells of a block -/
def RowX (w : World) (X : Nat) (cs : List Value) : Prop := ∀ o v, cs[o]? = some v → w.cell? ⟨X, o, none⟩ = some v ∧ w.frozen? ⟨X, o, none⟩ = false
theorem RowX.kept {w w' : World} {X : Nat} {cs : List Value} (h : RowX w X cs) (hbk : w'.heap[X]? = w.heap[X]?) : RowX w' X cs := fun o v hv => ⟨(World.cell?_of_block (a := ⟨X, o, none⟩) hbk).trans (h o v hv).1, (World.frozen?_of_block (a := ⟨X, o, none⟩) hbk).trans (h o v hv).2⟩
theorem RowX.curw {w w' : World} {X g : Nat} {cs : List Value} (h : RowX w X cs) (hw : CurW g w w') (hX : X < w.heap.size) (hg : g ≠ X) : RowX w' X cs := h.kept (hw.block X hX (fun e => hg (Option.some.inj e).symm))
theorem RowX.new (w : World) (cs : List Value) (T : TypeId) : RowX (w.alloc (.cells cs.toArray T)) w.heap.size cs := by
  intro o v h
  constructor
  · show (match (w.heap.push _)[w.heap.size]? with | some (.cells c _ _) => if (none : Option _).isSome then none else c[o]? | _ => none) = _
    simp [h]
  · simp [go_sem]
theorem RowX.store {w : World} {X o : Nat} {cs : List Value} {u : Value} (h : RowX w X cs) (ho : o < cs.length) : RowX (w.setCell ⟨X, o, none⟩ u) X (cs.set o u) := by
  intro o2 v hv
  have h0 := h o cs[o] (List.getElem?_eq_getElem ho)
  by_cases e : o = o2
  · subst e
    rw [List.getElem?_set_self ho] at hv
    have := Option.some.inj hv; subst this
    exact ⟨by simp [go_sem, h0.1], by simp [go_sem, h0.2]⟩
  · rw [List.getElem?_set_ne e] at hv
    have h1 := h o2 v hv
    exact ⟨by rw [World.cell?_setCell_other _ _ _ _ (fun e2 => e (congrArg Addr.off e2))]; exact h1.1, by simp [go_sem, h1.2]⟩
abbrev zeroH : List Value := [.int .i64 0, .slice none 0 0, .slice none 0 0, .slice none 0 0, .slice none 0 0, .slice none 0 0, .int .i64 0, .bool false, .int .i64 0, .int .i64 0, .int .i64 0, .slice none 0 0]
def HarbRes (B g : Nat) (v : Value) (bs : List Int) (w : World) (e : Ending) (w' : World) : Prop := ∃ (m0 r0 p q r : Int) (r1 : Bool) (A1 A2 A3 A4 A5 A6 : Option Addr) (n1 n2 n3 n4 n6 c1 c2 c3 c4 c5 c6 : Nat) (fl : List ShipD), e = .returned (.agg #[.int .i64 m0, .slice A1 n1 c1, .slice A2 n2 c2, .slice A3 n3 c3, .slice A4 n4 c4, .slice A5 fl.length c5, .int .i64 r0, .bool r1, .int .i64 p, .int .i64 q, .int .i64 r, .slice A6 n6 c6]) ∧ Own w' w.heap.size 31 6 ShipD.enc (.slice A5 fl.length c5) fl ∧ 1 ≤ fl.length ∧ fl.length ≤ 3 ∧ FleetIs fl ∧ Cur w' B g v bs ∧ CurW g w w'
set_option maxRecDepth 100000 in
set_option maxHeartbeats 32000000 in
theorem l15Harbour_any (B g : Nat) (v : Value) (bs : List Int) (w : World) (h : Cur w B g v bs) :
    Calls Try.prog 89 #[.pointer (some ⟨g, 0, none⟩)] w (HarbRes B g v bs w) := by
  have hg := h.lt
  have HC := hide h; clear h
  go_enter Try.func89, Try.ntmps89
  go_wp2_with fail
  generalize hW0 : w.alloc (.cells #[.int .i64 0, .slice none 0 0, .slice none 0 0, .slice none 0 0, .slice none 0 0, .slice none 0 0, .int .i64 0, .bool false, .int .i64 0, .int .i64 0, .int .i64 0, .slice none 0 0] 68) = W0
  have hb0 : Below w.heap.size w W0 := by rw [← hW0]; exact (Below.refl _ _).alloc (Nat.le_refl _) _
  have hl0 : w.heap.size < W0.heap.size := by rw [← hW0]; simp
  have Z := hide (show RowX W0 w.heap.size zeroH by rw [← hW0]; exact RowX.new w zeroH _)
  clear hW0
  have hgW : g < w.heap.size := hg
  refine (l03Draw_any B g v bs _ (HC.out.keep hb0 hg)).mono ?_
  rintro e w1 ⟨m0, at_, vp, vs, ps, ss, rfl, hm0, -, -, -, -, -, hop, hos, hc1, hw1⟩
  obtain ⟨A1, c1, rfl, -, -, -⟩ := Own.rd PartD.enc_len hop
  obtain ⟨A2, c2, rfl, -, -, -⟩ := Own.rd SurgeD.enc_len hos
  have HC1 := hide hc1; have HW1 := hide hw1; have s1 := hw1.size; have HM0 := hide hm0
  obtain ⟨n1, hn1⟩ : ∃ n, ps.length = n := ⟨_, rfl⟩
  obtain ⟨n2, hn2⟩ : ∃ n, ss.length = n := ⟨_, rfl⟩
  rw [hn1, hn2]
  clear hop hos hc1 hw1 hn1 hn2 hm0
  go_wp2_with fail
  refine (l05Draw_any B g v bs _ HC1.out).mono ?_
  rintro e w2 ⟨vp, vs, c, rfl, -, hop, hos, hc2, hw2⟩
  obtain ⟨A3, c3, rfl, -, -, -⟩ := Own.rd PointD.enc_len hop
  obtain ⟨A4, c4, rfl, -, -, -⟩ := Own.rd SegmentD.enc_len hos
  have HC2 := hide hc2; have HW2 := hide (HW1.out.trans hw2); have s2 := hw2.size
  obtain ⟨n3, hn3⟩ : ∃ n, c.points.length = n := ⟨_, rfl⟩
  obtain ⟨n4, hn4⟩ : ∃ n, c.segs.length = n := ⟨_, rfl⟩
  rw [hn3, hn4]
  clear hop hos hc2 hw2 hn3 hn4 HC1 HW1
  go_wp2_with fail
  refine (l06Fleet_any B g v bs 3 (by omega) (by omega) _ HC2.out).mono ?_
  rintro e w3 ⟨vf, fl, rfl, hof, hf0, hf1, hfl, hc3, hw3⟩
  obtain ⟨A5, c5, rfl, -, -, -⟩ := Own.rd ShipD.enc_len hof
  have HC3 := hide hc3; have HW3 := hide (HW2.out.trans hw3); have s3 := hw3.size
  have HO3 := hide hof; have HFI := hide hfl
  have hgX2 := HC2.out.lt
  clear hof hc3 hw3 hfl HC2 HW2
  go_wp2_with fail
  refine (l09Regime_any B g v bs _ HC3.out).mono ?_
  rintro e w4 ⟨r0, r1, rfl, -, -, hc4, hw4⟩
  have HC4 := hide hc4; have HW4 := hide (HW3.out.trans hw4); have s4 := hw4.size
  have HO4 := hide (HO3.out.curw hw4 hgX2)
  clear hc4 hw4 HC3 HW3 HO3
  go_wp2_with fail
  refine (l14Crew_any B g v bs _ HC4.out).mono ?_
  rintro e w5 ⟨p, q, r, A6, n6, c6, rfl, hc5, hw5⟩
  have HC5 := hide hc5; have HW5 := hide (HW4.out.trans hw5); have s5 := hw5.size
  have HO5 := hide (HO4.out.curw hw5 hgX2)
  clear hc5 hw5 HC4 HW4 HO4
  go_upto_region 2 with fail
  obtain ⟨cs, hcs⟩ : ∃ l : List Value, [.int .i64 m0, .slice A1 n1 c1, .slice A2 n2 c2, .slice A3 n3 c3, .slice A4 n4 c4, .slice A5 fl.length c5, .int .i64 r0, .bool r1, .int .i64 p, .int .i64 q, .int .i64 r, .slice A6 n6 c6] = l := ⟨_, rfl⟩
  obtain ⟨W6, hW6⟩ : ∃ W, w5.alloc (.cells #[.int .i64 m0, .slice A1 n1 c1, .slice A2 n2 c2, .slice A3 n3 c3, .slice A4 n4 c4, .slice A5 fl.length c5, .int .i64 r0, .bool r1, .int .i64 p, .int .i64 q, .int .i64 r, .slice A6 n6 c6] 68) = W := ⟨_, rfl⟩
  have k6 : Below w5.heap.size w5 W6 := by rw [← hW6]; exact (Below.refl _ _).alloc (Nat.le_refl _) _
  have l6 : w5.heap.size < W6.heap.size := by rw [← hW6]; simp
  have X6 : RowX W6 w5.heap.size [.int .i64 m0, .slice A1 n1 c1, .slice A2 n2 c2, .slice A3 n3 c3, .slice A4 n4 c4, .slice A5 fl.length c5, .int .i64 r0, .bool r1, .int .i64 p, .int .i64 q, .int .i64 r, .slice A6 n6 c6] := by rw [← hW6]; exact RowX.new w5 _ _
  rw [hW6]
  clear hW6 hcs cs
  have HO6 := hide (HO5.out.below k6 |>.mono (base' := W0.heap.size) (by omega))
  have hA5 : ∀ b, Value.ownBlock (.slice A5 fl.length c5) = some b → W0.heap.size ≤ b ∧ b < w5.heap.size := fun b hb => by have := World.ownsRow.lt HO5.out b hb; exact ⟨by omega, this.2⟩
  have HC6 := hide (HC5.out.keep k6 HC5.out.lt)
  have HW6 := hide (HW5.out.fresh (k6.mono (by omega)))
  have hgX : g < w5.heap.size := HC5.out.lt
  have hWX : W0.heap.size ≤ w5.heap.size := by omega
  obtain ⟨X, hX⟩ : ∃ X, w5.heap.size = X := ⟨_, rfl⟩
  rw [hX] at l6 X6 hA5 hgX hWX ⊢
  clear k6 HC5 HW5 HO5 hX s1 s2 s3 s4 s5 hgX2
  have m6 := (X6 0 _ rfl).1
  have hmw : IntKind.i64.wrap (m0 + 150) = m0 + 150 := IntWalk.i64_in _ (by have := HM0.out; omega)
  have f6 := (X6 0 _ rfl).2
  go_upto_region 3 with fail
  obtain ⟨M, hM⟩ : ∃ z, m0 + 150 = z := ⟨_, rfl⟩
  rw [hM]
  obtain ⟨W7, hW7⟩ : ∃ W, W6.setCell ⟨X, 0, none⟩ (.int .i64 M) = W := ⟨_, rfl⟩
  have X7 : RowX W7 X [.int .i64 M, .slice A1 n1 c1, .slice A2 n2 c2, .slice A3 n3 c3, .slice A4 n4 c4, .slice A5 fl.length c5, .int .i64 r0, .bool r1, .int .i64 p, .int .i64 q, .int .i64 r, .slice A6 n6 c6] := by rw [← hW7]; exact X6.store (o := 0) (by simp)
  have HO7 := hide (show Own W7 W0.heap.size 31 6 ShipD.enc (.slice A5 fl.length c5) fl by rw [← hW7]; exact HO6.out.setFar (fun e => by have := (hA5 _ e).2; simp at this) _)
  have HC7 := hide (show Cur W7 B g v bs by rw [← hW7]; exact HC6.out.keep ((Below.refl X W6).setCell (by simp) _) hgX)
  have HW7 := hide (show CurW g W0 W7 by rw [← hW7]; exact HW6.out.store (by omega) _)
  have l7 : X < W7.heap.size := by rw [← hW7]; simpa [World.setCell] using l6
  rw [hW7]
  clear hW7 hM hmw m6 f6 X6 HO6 HC6 HW6 l6
  have HX7 := hide X7
  have m7 := (X7 5 _ rfl).1
  clear X7
  go_wp2_with fail
  clear m7
  have HFL := hide (show ∃ fl' : List ShipD, fl'.length = fl.length ∧ FleetIs fl' ∧ Own W7 W0.heap.size 31 6 ShipD.enc (.slice A5 fl.length c5) fl' from ⟨fl, rfl, HFI.out, HO7.out⟩)
  go_loopw [27] (fun s wr => ∃ k : Nat, k ≤ fl.length ∧ s = .int .i64 k ∧ Hid (∃ fl' : List ShipD, fl'.length = fl.length ∧ FleetIs fl' ∧ Own wr W0.heap.size 31 6 ShipD.enc (.slice A5 fl.length c5) fl') ∧ Hid (RowX wr X [.int .i64 M, .slice A1 n1 c1, .slice A2 n2 c2, .slice A3 n3 c3, .slice A4 n4 c4, .slice A5 fl.length c5, .int .i64 r0, .bool r1, .int .i64 p, .int .i64 q, .int .i64 r, .slice A6 n6 c6]) ∧ Hid (Cur wr B g v bs) ∧ Hid (CurW g W0 wr) ∧ X < wr.heap.size) (fun s _ => fl.length - (intOf s).toNat)
  case atStart => exact ⟨0, Nat.zero_le _, rfl, HFL, HX7, HC7, HW7, l7⟩
  case round =>
    clear HFL HX7 HC7 HW7 l7 HO7
    obtain ⟨k, hk, rfl, HFL, HX, HCC, HW, hl⟩ := hrel
    obtain ⟨wo, rfl⟩ : ∃ wo : World, wo = wr := ⟨_, rfl⟩
    by_cases hlt : k < fl.length
    · have hlt' : (k : Int) < fl.length := by omega
      obtain ⟨fl', hfe, hfi, hfo⟩ := HFL.out
      obtain ⟨gf, cf, hsl, hgf0, hgf1, -, -⟩ := Own.slot hfo hfe (by omega)
      obtain ⟨rfl, rfl⟩ : A5 = some ⟨gf, 0, none⟩ ∧ c5 = cf := by injection hsl with q1 q2 q3; exact ⟨q1, q3⟩
      have hgX5 := (hA5 gf rfl)
      rw [← hfe] at hfo
      have hkl : k < fl'.length := by omega
      have hce := Own.cells (i := k) (j := 4) (u := .int .i64 fl'[k].tugs) ShipD.enc_len hfo hkl rfl
      have HFT := hide (FleetIs.tugs hfi hkl)
      have HST := hide (Own.setAt (i := k) (j := 4) ShipD.enc_len hfo hkl (by omega) (⟨fl'[k].name, fl'[k].length, fl'[k].draught, fl'[k].line, min fl'[k].tugs 1, fl'[k].slow⟩ : ShipD) (.int .i64 (min fl'[k].tugs 1)) rfl)
      have HFE := hide (show (fl'.set k ⟨fl'[k].name, fl'[k].length, fl'[k].draught, fl'[k].line, min fl'[k].tugs 1, fl'[k].slow⟩).length = fl.length by rw [List.length_set]; exact hfe)
      obtain ⟨nl, hnl⟩ : ∃ z, fl'.set k (⟨fl'[k].name, fl'[k].length, fl'[k].draught, fl'[k].line, min fl'[k].tugs 1, fl'[k].slow⟩ : ShipD) = z := ⟨_, rfl⟩
      rw [hnl] at HFT HST HFE
      rw [hfe] at HST
      clear hnl
      obtain ⟨tg, htg⟩ : ∃ z, fl'[k].tugs = z := ⟨_, rfl⟩
      rw [htg] at hce HST
      have hc1 := hce.1; have hc2 := hce.2
      have hx5 := (HX.out 5 _ rfl).1
      clear hce htg hfi hfo hsl HFL hkl
      go_upto_region 6 with fail
      refine wp_region_until 12 (fun w' => w'.cell? ⟨X, 5, none⟩ = some (.slice (some ⟨gf, 0, none⟩) fl.length c5) ∧ w'.cell? ⟨gf, k * 6 + 4, none⟩ = some (.int .i64 tg)) (by kernel_rfl) ?_
      have hS : wo.drew.cell? ⟨X, 5, none⟩ = some (.slice (some ⟨gf, 0, none⟩) fl.length c5) ∧ wo.drew.cell? ⟨gf, k * 6 + 4, none⟩ = some (.int .i64 tg) := ⟨hx5, hc1⟩
      refine untilR.takeD (i := 0) (v := ?_) rfl (by kernel_rfl) (by kernel_rfl) (by kernel_rfl) (by kernel_rfl) (fun _ _ _ h => h) (.inl ⟨by rfl, ?_⟩) hS ?_
      rotate_left
      · (intro w' hSw; obtain ⟨hSw1, hSw2⟩ := hSw; go_simp; first | done | with_reducible rfl)
      try simp only [Act.put, List.setIfInBounds_toArray, List.set_cons_zero, List.set_cons_succ]
      refine untilR.takeD (i := 1) (v := ?_) rfl (by kernel_rfl) (by kernel_rfl) (by kernel_rfl) (by kernel_rfl) (fun _ _ _ h => h) (.inl ⟨by rfl, ?_⟩) hS ?_
      rotate_left
      · (intro w' hSw; obtain ⟨hSw1, hSw2⟩ := hSw; go_simp; first | done | with_reducible rfl)
      try simp only [Act.put, List.setIfInBounds_toArray, List.set_cons_zero, List.set_cons_succ]
      refine untilR.takeD (i := 2) (v := ?_) rfl (by kernel_rfl) (by kernel_rfl) (by kernel_rfl) (by kernel_rfl) (fun _ _ _ h => h) (.inl ⟨by rfl, ?_⟩) hS ?_
      rotate_left
      · (intro w' hSw; obtain ⟨hSw1, hSw2⟩ := hSw; go_simp; first | done | with_reducible rfl)
      try simp only [Act.put, List.setIfInBounds_toArray, List.set_cons_zero, List.set_cons_succ]
      refine untilR.takeD (i := 3) (v := ?_) rfl (by kernel_rfl) (by kernel_rfl) (by kernel_rfl) (by kernel_rfl) (fun _ _ _ h => h) (.inl ⟨by rfl, ?_⟩) hS ?_
      rotate_left
      · (intro w' hSw; obtain ⟨hSw1, hSw2⟩ := hSw; go_simp; first | done | with_reducible rfl)
      try simp only [Act.put, List.setIfInBounds_toArray, List.set_cons_zero, List.set_cons_succ]
      refine untilR.takeD (i := 4) (v := ?_) rfl (by kernel_rfl) (by kernel_rfl) (by kernel_rfl) (by kernel_rfl) (fun _ _ _ h => h) (.inl ⟨by rfl, ?_⟩) hS ?_
      rotate_left
      · (intro w' hSw; obtain ⟨hSw1, hSw2⟩ := hSw; go_simp; first | done | with_reducible rfl)
      try simp only [Act.put, List.setIfInBounds_toArray, List.set_cons_zero, List.set_cons_succ]
      refine untilR.takeD (i := 5) (v := ?_) rfl (by kernel_rfl) (by kernel_rfl) (by kernel_rfl) (by kernel_rfl) (fun _ _ _ h => h) (.inl ⟨by rfl, ?_⟩) hS ?_
      rotate_left
      · (intro w' hSw; obtain ⟨hSw1, hSw2⟩ := hSw; go_simp; first | done | with_reducible rfl)
      try simp only [Act.put, List.setIfInBounds_toArray, List.set_cons_zero, List.set_cons_succ]
      refine untilR.takeD (i := 6) (v := ?_) rfl (by kernel_rfl) (by kernel_rfl) (by kernel_rfl) (by kernel_rfl) (fun _ _ _ h => h) (.inl ⟨by rfl, ?_⟩) hS ?_
      rotate_left
      · (intro w' hSw; obtain ⟨hSw1, hSw2⟩ := hSw; go_simp; first | done | with_reducible rfl)
      try simp only [Act.put, List.setIfInBounds_toArray, List.set_cons_zero, List.set_cons_succ]
      refine untilR.takeD (i := 7) (v := ?_) rfl (by kernel_rfl) (by kernel_rfl) (by kernel_rfl) (by kernel_rfl) (fun _ _ _ h => h) (.inl ⟨by rfl, ?_⟩) hS ?_
      rotate_left
      · (intro w' hSw; obtain ⟨hSw1, hSw2⟩ := hSw; go_simp; first | done | with_reducible rfl)
      try simp only [Act.put, List.setIfInBounds_toArray, List.set_cons_zero, List.set_cons_succ]
      refine untilR.takeD (i := 8) (v := ?_) rfl (by kernel_rfl) (by kernel_rfl) (by kernel_rfl) (by kernel_rfl) (fun _ _ _ h => h) (.inl ⟨by rfl, ?_⟩) hS ?_
      rotate_left
      · (intro w' hSw; obtain ⟨hSw1, hSw2⟩ := hSw; go_simp; first | done | with_reducible rfl)
      try simp only [Act.put, List.setIfInBounds_toArray, List.set_cons_zero, List.set_cons_succ]
      refine untilR.oneD (i := 9) (by kernel_rfl) rfl rfl (fun K hK => ?_)
      go_simp
      refine hK.out _ _ (fun _ => hS) ?_
      clear hK K
      try simp only [Act.put, List.setIfInBounds_toArray, List.set_cons_zero, List.set_cons_succ]
      refine untilR.oneD (i := 10) (by kernel_rfl) rfl rfl (fun K hK => ?_)
      go_simp
      refine hK.out _ _ (fun _ => hS) ?_
      clear hK K
      try simp only [Act.put, List.setIfInBounds_toArray, List.set_cons_zero, List.set_cons_succ]
      refine untilR.oneD (i := 11) (by kernel_rfl) rfl rfl (fun K hK => ?_)
      go_simp
      refine hK.out _ _ (fun _ => hS) ?_
      clear hK K
      try simp only [Act.put, List.setIfInBounds_toArray, List.set_cons_zero, List.set_cons_succ]
      refine untilR.oneD (i := 12) (by kernel_rfl) rfl rfl (fun K hK => ?_)
      go_simp
      refine hK.out _ _ (fun h => absurd rfl h) ?_
      clear hK K hS
      try simp only [Act.put, List.setIfInBounds_toArray, List.set_cons_zero, List.set_cons_succ]
      refine untilR.done (by kernel_rfl) ?_ _
      have hmin : (if 1 < tg then (1 : Int) else tg) = min tg 1 := by split <;> omega
      rw [hmin]
      clear hmin
      obtain ⟨W9, hW9⟩ : ∃ W, (wo.setCell ⟨gf, k * 6 + 4, none⟩ (.int .i64 (min tg 1))) = W := ⟨_, rfl⟩
      have HX9 := hide (show RowX W9 X _ by rw [← hW9]; exact HX.out.kept (Below.heap_setCell wo ⟨gf, k * 6 + 4, none⟩ (.int .i64 (min tg 1)) X (by simp; omega)))
      have HC9 := hide (show Cur W9 B g v bs by rw [← hW9]; exact HCC.out.keep ((Below.refl gf wo).setCell (by simp) _) (by omega))
      have HW9 := hide (show CurW g W0 W9 by rw [← hW9]; exact HW.out.store (by omega) _)
      have hl9 : X < W9.heap.size := by rw [← hW9]; simpa [World.setCell] using hl
      rw [hW9] at HST ⊢
      clear hW9 HX HCC HW hl hx5 hc1 hc2
      have hdr : Below W9.heap.size W9 W9.drew := Below.drew (Below.refl _ _)
      have HF9 := hide (show ∃ fl' : List ShipD, fl'.length = fl.length ∧ FleetIs fl' ∧ Own W9.drew W0.heap.size 31 6 ShipD.enc (.slice (some ⟨gf, 0, none⟩) fl.length c5) fl' from ⟨nl, HFE.out, HFT.out, HST.out.below hdr⟩)
      have HX10 := hide (HX9.out.kept (w' := W9.drew) rfl)
      have HC10 := hide (HC9.out.keep hdr (by omega))
      have HW10 := hide (HW9.out.fresh (hdr.mono (by omega)))
      go_wp2
      go_roundw
      case rel => exact ⟨k + 1, by omega, by go_num, HF9, HX10, HC10, HW10, by simpa using hl9⟩
      case measure => simp [intOf]; omega
    · obtain rfl : k = fl.length := by omega
      obtain ⟨fl', hfe, hfi, hfo⟩ := HFL.out
      have HFI' := hide hfi
      have hbr := HW.out.block w.heap.size hl0 (fun e => by have := Option.some.inj e; omega)
      have HZ := hide (Z.out.kept hbr)
      have y0 := (HX.out 0 _ rfl).1; have r0x := (HZ.out 0 _ rfl).1; have t0 := (HZ.out 0 _ rfl).2
      have y1 := (HX.out 1 _ rfl).1; have r1x := (HZ.out 1 _ rfl).1; have t1 := (HZ.out 1 _ rfl).2
      have y2 := (HX.out 2 _ rfl).1; have r2x := (HZ.out 2 _ rfl).1; have t2 := (HZ.out 2 _ rfl).2
      have y3 := (HX.out 3 _ rfl).1; have r3x := (HZ.out 3 _ rfl).1; have t3 := (HZ.out 3 _ rfl).2
      have y4 := (HX.out 4 _ rfl).1; have r4x := (HZ.out 4 _ rfl).1; have t4 := (HZ.out 4 _ rfl).2
      have y5 := (HX.out 5 _ rfl).1; have r5x := (HZ.out 5 _ rfl).1; have t5 := (HZ.out 5 _ rfl).2
      have y6 := (HX.out 6 _ rfl).1; have r6x := (HZ.out 6 _ rfl).1; have t6 := (HZ.out 6 _ rfl).2
      have y7 := (HX.out 7 _ rfl).1; have r7x := (HZ.out 7 _ rfl).1; have t7 := (HZ.out 7 _ rfl).2
      have y8 := (HX.out 8 _ rfl).1; have r8x := (HZ.out 8 _ rfl).1; have t8 := (HZ.out 8 _ rfl).2
      have y9 := (HX.out 9 _ rfl).1; have r9x := (HZ.out 9 _ rfl).1; have t9 := (HZ.out 9 _ rfl).2
      have y10 := (HX.out 10 _ rfl).1; have r10x := (HZ.out 10 _ rfl).1; have t10 := (HZ.out 10 _ rfl).2
      have y11 := (HX.out 11 _ rfl).1; have r11x := (HZ.out 11 _ rfl).1; have t11 := (HZ.out 11 _ rfl).2
      have hwX : w.heap.size < X := by omega
      have hwo : w.heap.size < wo.heap.size := by omega
      have HWF := hide (show CurW g w wo from (CurW.ofBelow hb0).trans HW.out)
      clear hbr HX HW HFL hlt
      have hnb : (Value.slice A5 fl'.length c5).ownBlock ≠ some w.heap.size := fun e => by have := (World.ownsRow.lt (by rw [hfe]; exact hfo : Own wo W0.heap.size 31 6 ShipD.enc (.slice A5 fl'.length c5) fl') _ e).1; omega
      rw [← hfe] at hfo
      obtain ⟨W9, hW9⟩ : ∃ W, ((((((((((((wo.setCell ⟨w.heap.size, 0, none⟩ (.int .i64 M)).setCell ⟨w.heap.size, 1, none⟩ (.slice A1 n1 c1)).setCell ⟨w.heap.size, 2, none⟩ (.slice A2 n2 c2)).setCell ⟨w.heap.size, 3, none⟩ (.slice A3 n3 c3)).setCell ⟨w.heap.size, 4, none⟩ (.slice A4 n4 c4)).setCell ⟨w.heap.size, 5, none⟩ (.slice A5 fl.length c5)).setCell ⟨w.heap.size, 6, none⟩ (.int .i64 r0)).setCell ⟨w.heap.size, 7, none⟩ (.bool r1)).setCell ⟨w.heap.size, 8, none⟩ (.int .i64 p)).setCell ⟨w.heap.size, 9, none⟩ (.int .i64 q)).setCell ⟨w.heap.size, 10, none⟩ (.int .i64 r)).setCell ⟨w.heap.size, 11, none⟩ (.slice A6 n6 c6)) = W := ⟨_, rfl⟩
      have HK := hide (show RowX W9 w.heap.size [.int .i64 M, .slice A1 n1 c1, .slice A2 n2 c2, .slice A3 n3 c3, .slice A4 n4 c4, .slice A5 fl.length c5, .int .i64 r0, .bool r1, .int .i64 p, .int .i64 q, .int .i64 r, .slice A6 n6 c6] by rw [← hW9]; exact ((((((((((((HZ.out.store (o := 0) (u := .int .i64 M) (by simp)).store (o := 1) (u := .slice A1 n1 c1) (by simp)).store (o := 2) (u := .slice A2 n2 c2) (by simp)).store (o := 3) (u := .slice A3 n3 c3) (by simp)).store (o := 4) (u := .slice A4 n4 c4) (by simp)).store (o := 5) (u := .slice A5 fl.length c5) (by simp)).store (o := 6) (u := .int .i64 r0) (by simp)).store (o := 7) (u := .bool r1) (by simp)).store (o := 8) (u := .int .i64 p) (by simp)).store (o := 9) (u := .int .i64 q) (by simp)).store (o := 10) (u := .int .i64 r) (by simp)).store (o := 11) (u := .slice A6 n6 c6) (by simp)))
      have HOF := hide (show Own W9 W0.heap.size 31 6 ShipD.enc (.slice A5 fl'.length c5) fl' by rw [← hW9]; exact ((((((((((((hfo.setFar hnb _).setFar hnb _).setFar hnb _).setFar hnb _).setFar hnb _).setFar hnb _).setFar hnb _).setFar hnb _).setFar hnb _).setFar hnb _).setFar hnb _).setFar hnb _))
      have HCF := hide (show Cur W9 B g v bs by rw [← hW9]; exact HCC.out.keep (((((((((((((Below.refl w.heap.size wo).setCell (p := ⟨w.heap.size, 0, none⟩) (Nat.le_refl _) _).setCell (p := ⟨w.heap.size, 1, none⟩) (Nat.le_refl _) _).setCell (p := ⟨w.heap.size, 2, none⟩) (Nat.le_refl _) _).setCell (p := ⟨w.heap.size, 3, none⟩) (Nat.le_refl _) _).setCell (p := ⟨w.heap.size, 4, none⟩) (Nat.le_refl _) _).setCell (p := ⟨w.heap.size, 5, none⟩) (Nat.le_refl _) _).setCell (p := ⟨w.heap.size, 6, none⟩) (Nat.le_refl _) _).setCell (p := ⟨w.heap.size, 7, none⟩) (Nat.le_refl _) _).setCell (p := ⟨w.heap.size, 8, none⟩) (Nat.le_refl _) _).setCell (p := ⟨w.heap.size, 9, none⟩) (Nat.le_refl _) _).setCell (p := ⟨w.heap.size, 10, none⟩) (Nat.le_refl _) _).setCell (p := ⟨w.heap.size, 11, none⟩) (Nat.le_refl _) _) hg)
      have HWG := hide (show CurW g w W9 by rw [← hW9]; exact ((((((((((((HWF.out.store (Nat.le_refl _) _).store (Nat.le_refl _) _).store (Nat.le_refl _) _).store (Nat.le_refl _) _).store (Nat.le_refl _) _).store (Nat.le_refl _) _).store (Nat.le_refl _) _).store (Nat.le_refl _) _).store (Nat.le_refl _) _).store (Nat.le_refl _) _).store (Nat.le_refl _) _).store (Nat.le_refl _) _))
      clear hfo hnb
      go_wp2
      try rw [hW9]
      clear hW9 HZ HWF y0 r0x t0 y1 r1x t1 y2 r2x t2 y3 r3x t3 y4 r4x t4 y5 r5x t5 y6 r6x t6 y7 r7x t7 y8 r8x t8 y9 r9x t9 y10 r10x t10 y11 r11x t11
      have k0 := (HK.out 0 _ rfl).1
      have k1 := (HK.out 1 _ rfl).1
      have k2 := (HK.out 2 _ rfl).1
      have k3 := (HK.out 3 _ rfl).1
      have k4 := (HK.out 4 _ rfl).1
      have k5 := (HK.out 5 _ rfl).1
      have k6 := (HK.out 6 _ rfl).1
      have k7 := (HK.out 7 _ rfl).1
      have k8 := (HK.out 8 _ rfl).1
      have k9 := (HK.out 9 _ rfl).1
      have k10 := (HK.out 10 _ rfl).1
      have k11 := (HK.out 11 _ rfl).1
      refine bodyPost_ret (v := .agg #[.int .i64 M, .slice A1 n1 c1, .slice A2 n2 c2, .slice A3 n3 c3, .slice A4 n4 c4, .slice A5 fl.length c5, .int .i64 r0, .bool r1, .int .i64 p, .int .i64 q, .int .i64 r, .slice A6 n6 c6]) (by simp [results, Try.results89, go_sem, k0, k1, k2, k3, k4, k5, k6, k7, k8, k9, k10, k11]) rfl ⟨M, r0, p, q, r, r1, A1, A2, A3, A4, A5, A6, n1, n2, n3, n4, n6, c1, c2, c3, c4, c5, c6, fl', by rw [hfe], HOF.out.mono (by omega), by omega, by omega, HFI'.out, HCF.out, HWG.out⟩
end Go.Proofs.Ytjfppjhlkeopnaa
