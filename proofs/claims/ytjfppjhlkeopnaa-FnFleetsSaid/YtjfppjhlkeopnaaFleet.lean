/- A ship and a fleet drawn out of bytes. No condition. -/
import Derived.Test.YtjfppjhlkeopnaaDraw
import Derived.Test.YtjfppjhlkeopnaaSShip
import Derived.Test.YtjfppjhlkeopnaaShip
namespace Go.Proofs.Ytjfppjhlkeopnaa
open Go.RowKit
set_option linter.unusedVariables false
/-- the name of the drawn ship i -/
def shipNm (i : Nat) : ByteArray := (⟨#[115]⟩ : ByteArray) ++ dig i
def ShipRes (B g : Nat) (v : Value) (bs : List Int) (i : Nat) (w : World) (e : Ending) (w' : World) : Prop := ∃ (x1 x2 x3 x4 : Int) (x5 : Bool), e = .returned (.agg #[.string (shipNm i), .int .i64 x1, .int .i64 x2, .int .i64 x3, .int .i64 x4, .bool x5]) ∧ 40 ≤ x1 ∧ x1 ≤ 239 ∧ 600 ≤ x2 ∧ x2 ≤ 1099 ∧ 0 ≤ x3 ∧ x3 ≤ 3 ∧ 0 ≤ x4 ∧ x4 ≤ 2 ∧ Cur w' B g v bs ∧ CurW g w w'
set_option maxRecDepth 100000 in
set_option maxHeartbeats 16000000 in
theorem l06Ship_any (B g : Nat) (v : Value) (bs : List Int) (i : Nat) (hi : i ≤ 9) (w : World) (h : Cur w B g v bs) :
    Calls Try.prog 100 #[.pointer (some ⟨g, 0, none⟩), .int .i64 i] w (ShipRes B g v bs i w) := by
  have hg := h.lt
  have HC := hide h; clear h
  go_enter Try.func100, Try.ntmps100
  go_wp2_with fail
  generalize hW0 : w.alloc (.cells #[.string ⟨#[]⟩, .int .i64 0, .int .i64 0, .int .i64 0, .int .i64 0, .bool false] 31) = W0
  have hb0 : Below w.heap.size w W0 := by rw [← hW0]; exact (Below.refl _ _).alloc (Nat.le_refl _) _
  have hl0 : w.heap.size < W0.heap.size := by rw [← hW0]; simp
  have z0 : W0.cell? ⟨w.heap.size, 0, none⟩ = some (.string ⟨#[]⟩) := by rw [← hW0]; simp [go_sem]
  have z1 : W0.cell? ⟨w.heap.size, 1, none⟩ = some (.int .i64 0) := by rw [← hW0]; simp [go_sem]
  have z2 : W0.cell? ⟨w.heap.size, 2, none⟩ = some (.int .i64 0) := by rw [← hW0]; simp [go_sem]
  have z3 : W0.cell? ⟨w.heap.size, 3, none⟩ = some (.int .i64 0) := by rw [← hW0]; simp [go_sem]
  have z4 : W0.cell? ⟨w.heap.size, 4, none⟩ = some (.int .i64 0) := by rw [← hW0]; simp [go_sem]
  have z5 : W0.cell? ⟨w.heap.size, 5, none⟩ = some (.bool false) := by rw [← hW0]; simp [go_sem]
  have q0 : W0.frozen? ⟨w.heap.size, 0, none⟩ = false := by rw [← hW0]; simp [go_sem]
  have q1 : W0.frozen? ⟨w.heap.size, 1, none⟩ = false := by rw [← hW0]; simp [go_sem]
  have q2 : W0.frozen? ⟨w.heap.size, 2, none⟩ = false := by rw [← hW0]; simp [go_sem]
  have q3 : W0.frozen? ⟨w.heap.size, 3, none⟩ = false := by rw [← hW0]; simp [go_sem]
  have q4 : W0.frozen? ⟨w.heap.size, 4, none⟩ = false := by rw [← hW0]; simp [go_sem]
  have q5 : W0.frozen? ⟨w.heap.size, 5, none⟩ = false := by rw [← hW0]; simp [go_sem]
  clear hW0
  refine (FormatInt_dig i hi W0).mono ?_
  rintro e w1 ⟨rfl, hbf⟩
  have HCF := hide (HC.out.keep (hb0.trans (hbf.mono (by omega))) hg)
  have hwf0 : CurW g W0 w1 := CurW.ofBelow hbf
  go_wp2_with fail
  refine (l01Below_any B g v bs 200 _ HCF.out (by omega)).mono ?_
  rintro e w2 ⟨xa, rfl, xa0, -, -, xa1, hca, hwa⟩
  have HCA := hide hca; clear hca
  replace xa1 := xa1 (by omega)
  go_wp2_with fail
  refine (l01Below_any B g v bs 500 _ HCA.out (by omega)).mono ?_
  rintro e w3 ⟨xb, rfl, xb0, -, -, xb1, hcb, hwb⟩
  have HCB := hide hcb; clear hcb
  replace xb1 := xb1 (by omega)
  go_wp2_with fail
  refine (l01Below_any B g v bs 4 _ HCB.out (by omega)).mono ?_
  rintro e w4 ⟨xc, rfl, xc0, -, -, xc1, hcc, hwc⟩
  have HCC := hide hcc; clear hcc
  replace xc1 := xc1 (by omega)
  go_wp2_with fail
  refine (l01Below_any B g v bs 3 _ HCC.out (by omega)).mono ?_
  rintro e w5 ⟨xd, rfl, xd0, -, -, xd1, hcd, hwd⟩
  have HCD := hide hcd; clear hcd
  replace xd1 := xd1 (by omega)
  go_wp2_with fail
  refine (l01Once_any B g v bs 4 _ HCD.out (by omega)).mono ?_
  rintro e w6 ⟨xe, rfl, hce, hwe⟩
  have HCE := hide hce; clear hce
  have hw6 : CurW g W0 w6 := ((((hwf0.trans hwa).trans hwb).trans hwc).trans hwd).trans hwe
  have hbk := hw6.block w.heap.size hl0 (fun e => by have := Option.some.inj e; omega)
  have y0 := (World.cell?_of_block (a := ⟨w.heap.size, 0, none⟩) hbk).trans z0
  have y1 := (World.cell?_of_block (a := ⟨w.heap.size, 1, none⟩) hbk).trans z1
  have y2 := (World.cell?_of_block (a := ⟨w.heap.size, 2, none⟩) hbk).trans z2
  have y3 := (World.cell?_of_block (a := ⟨w.heap.size, 3, none⟩) hbk).trans z3
  have y4 := (World.cell?_of_block (a := ⟨w.heap.size, 4, none⟩) hbk).trans z4
  have y5 := (World.cell?_of_block (a := ⟨w.heap.size, 5, none⟩) hbk).trans z5
  have r0 := (World.frozen?_of_block (a := ⟨w.heap.size, 0, none⟩) hbk).trans q0
  have r1 := (World.frozen?_of_block (a := ⟨w.heap.size, 1, none⟩) hbk).trans q1
  have r2 := (World.frozen?_of_block (a := ⟨w.heap.size, 2, none⟩) hbk).trans q2
  have r3 := (World.frozen?_of_block (a := ⟨w.heap.size, 3, none⟩) hbk).trans q3
  have r4 := (World.frozen?_of_block (a := ⟨w.heap.size, 4, none⟩) hbk).trans q4
  have r5 := (World.frozen?_of_block (a := ⟨w.heap.size, 5, none⟩) hbk).trans q5
  have hl6 : w.heap.size < w6.heap.size := Nat.lt_of_lt_of_le hl0 hw6.size
  have hwf : CurW g w w6 := (CurW.ofBelow hb0).trans hw6
  clear z0 z1 z2 z3 z4 z5 q0 q1 q2 q3 q4 q5 hbk hwa hwb hwc hwd hwe hwf0 hw6
  go_wp2
  refine bodyPost_ret (v := .agg #[.string (shipNm i), .int .i64 (40 + xa), .int .i64 (600 + xb), .int .i64 xc, .int .i64 xd, .bool xe]) (by simp [results, Try.results100, go_sem, y0, y1, y2, y3, y4, y5, r0, r1, r2, r3, r4, r5, shipNm]) rfl ⟨_, _, _, _, _, rfl, by omega, by omega, by omega, by omega, by omega, by omega, by omega, by omega, ?_, ?_⟩
  · exact HCE.out.keep (((((((Below.refl w.heap.size w6).setCell (by simp) _).setCell (by simp) _).setCell (by simp) _).setCell (by simp) _).setCell (by simp) _).setCell (by simp) _) hg
  · exact (((((hwf.store (Nat.le_refl _) _).store (Nat.le_refl _) _).store (Nat.le_refl _) _).store (Nat.le_refl _) _).store (Nat.le_refl _) _).store (Nat.le_refl _) _
theorem ShipD.enc_one (x : ShipD) : ∀ u ∈ x.enc, u.oneCell' = true := by
  intro u hu
  simp only [ShipD.enc, List.mem_cons, List.not_mem_nil, or_false] at hu
  rcases hu with rfl | rfl | rfl | rfl | rfl | rfl <;> rfl
/-- the drawn fleets -/
def FleetIs (fl : List ShipD) : Prop := ∀ i (h : i < fl.length), fl[i].name = shipNm i ∧ 40 ≤ fl[i].length ∧ fl[i].length ≤ 239 ∧ 600 ≤ fl[i].draught ∧ fl[i].draught ≤ 1099 ∧ 0 ≤ fl[i].line ∧ fl[i].line ≤ 3 ∧ 0 ≤ fl[i].tugs ∧ fl[i].tugs ≤ 2
theorem FleetIs.snoc {fl : List ShipD} (h : FleetIs fl) {x1 x2 x3 x4 : Int} {x5 : Bool} (a0 : 40 ≤ x1) (a1 : x1 ≤ 239) (a2 : 600 ≤ x2) (a3 : x2 ≤ 1099) (a4 : 0 ≤ x3) (a5 : x3 ≤ 3) (a6 : 0 ≤ x4) (a7 : x4 ≤ 2) : FleetIs (fl ++ [⟨shipNm fl.length, x1, x2, x3, x4, x5⟩]) := by
  intro i hi
  rcases Nat.lt_or_ge i fl.length with h2 | h2
  · rw [List.getElem_append_left h2]; exact h i h2
  · obtain rfl : i = fl.length := by simp at hi; omega
    simp only [List.getElem_append_right (Nat.le_refl _), Nat.sub_self, List.getElem_cons_zero]
    exact ⟨by first | rfl | trivial, a0, a1, a2, a3, a4, a5, a6, a7⟩
def FleetRes (B g : Nat) (v : Value) (bs : List Int) (most : Nat) (w : World) (e : Ending) (w' : World) : Prop := ∃ (vf : Value) (fl : List ShipD), e = .returned vf ∧ Own w' w.heap.size 31 6 ShipD.enc vf fl ∧ 1 ≤ fl.length ∧ fl.length ≤ most ∧ FleetIs fl ∧ Cur w' B g v bs ∧ CurW g w w'
set_option maxRecDepth 100000 in
set_option maxHeartbeats 16000000 in
theorem l06Fleet_any (B g : Nat) (v : Value) (bs : List Int) (most : Nat) (hm0 : 1 ≤ most) (hm1 : most ≤ 6) (w : World) (h : Cur w B g v bs) :
    Calls Try.prog 85 #[.pointer (some ⟨g, 0, none⟩), .int .i64 most] w (FleetRes B g v bs most w) := by
  have hg := h.lt
  have HC := hide h; clear h
  obtain ⟨i0, hi, hz0, hz1, hz2⟩ := info_parts ship_info
  go_enter Try.func85, Try.ntmps85
  go_wp2_with fail
  have hou0 := own_built0 (enc := ShipD.enc) w 31 6
  have hb0 : Below w.heap.size w (w.alloc (.cells #[] 31)) := (Below.refl _ _).alloc (Nat.le_refl _) _
  have hs0 : w.heap.size < (w.alloc (.cells #[] 31)).heap.size := by simp
  generalize w.alloc (.cells #[] 31) = W0 at hou0 hb0 hs0 ⊢
  refine (l01Below_any B g v bs most _ (HC.out.keep hb0 hg) (by omega)).mono ?_
  rintro e w1 ⟨x, rfl, x0, -, -, x1, hc1, hw1⟩
  replace x1 := x1 (by omega)
  have HC1 := hide hc1; clear hc1
  have HO1 := hide (hou0.curw hw1 hg); clear hou0
  have HW1 := hide (show CurW g w w1 from (CurW.ofBelow hb0).trans hw1)
  have hs1 : w.heap.size ≤ w1.heap.size := HW1.out.size
  clear hb0 hw1 hs0
  obtain ⟨n, rfl⟩ : ∃ n : Nat, x = n := ⟨x.toNat, by omega⟩
  have hn1 : IntKind.i64.wrap (1 + (n : Int)) = 1 + (n : Int) := IntWalk.i64_in _ (by omega)
  go_wp2_with fail
  go_loopw [5, 6] (fun o s wr => ∃ (k : Nat) (xs : List ShipD), s = .int .i64 k ∧ k + xs.length ≤ most ∧ 1 ≤ k + xs.length ∧ Hid (Own wr w.heap.size 31 6 ShipD.enc o xs) ∧ Hid (FleetIs xs) ∧ Hid (Cur wr B g v bs) ∧ Hid (CurW g w wr) ∧ w.heap.size ≤ wr.heap.size) (fun _ s _ => (intOf s).toNat)
  case atStart => exact ⟨n + 1, [], by first | rfl | go_num, by simp <;> omega, by omega, HO1, hide (fun i hi => by simp at hi), HC1, HW1, hs1⟩
  case round =>
    clear HC1 HW1 HO1 hs1
    obtain ⟨k, xs, rfl, hk, hk2, HO, HX, HC, HW, hsw⟩ := hrel
    obtain ⟨wo, rfl⟩ : ∃ wo : World, wo = wr := ⟨_, rfl⟩
    obtain ⟨A3, c3, rfl, hc3, hm3, -⟩ := Own.rd ShipD.enc_len HO.out
    unfold maxLen at hm3
    rcases Nat.eq_zero_or_pos k with h0 | h0
    · subst h0
      go_wp2
      go_ret
      exact ⟨_, xs, rfl, HO.out, by omega, by omega, HX.out, HC.out, HW.out⟩
    · obtain ⟨j, rfl⟩ : ∃ j, k = j + 1 := ⟨k - 1, by omega⟩
      have hkp : (0 : Int) < ((j + 1 : Nat) : Int) := by omega
      have hje : ((j + 1 : Nat) : Int) - 1 = (j : Int) := by omega
      have hjw : IntKind.i64.wrap (((j + 1 : Nat) : Int) - 1) = (j : Int) := by rw [IntWalk.i64_in _ (by omega)]; omega
      have hjw2 : IntKind.i64.wrap (j : Int) = (j : Int) := IntWalk.i64_in _ (by omega)
      go_wp2_with fail
      refine (l06Ship_any B g v bs xs.length (by omega) _ HC.out).mono ?_
      rintro e w6 ⟨x1, x2, x3, x4, x5, rfl, a0, a1, a2, a3, a4, a5, a6, a7, hcur, hw6⟩
      have HC6 := hide hcur; clear hcur
      have hs6 := hw6.size
      have HO6 := hide (HO.out.curw hw6 hg)
      have HW6 := hide (HW.out.trans hw6)
      have HX6 := hide (FleetIs.snoc (x5 := x5) HX.out a0 a1 a2 a3 a4 a5 a6 a7)
      have HLN := hide (show xs.length ≤ 6 by omega)
      clear hw6
      go_wp2_with (at_builtin; refine wpList_append_rd _ ShipD.enc_len ShipD.enc_one (by rfl) _ _ 61 (by rfl) w.heap.size 31 i0 _ 56 Try.underlying61 hi hz0 hz1 hz2 rfl (by decide) _ _ (by rfl) (HO6.out.below ((Below.refl _ _).alloc (Nat.le_refl _) _)) _ _ [(⟨shipNm xs.length, x1, x2, x3, x4, x5⟩ : ShipD)] (by rfl) (rd_new (enc := ShipD.enc) _ (⟨shipNm xs.length, x1, x2, x3, x4, x5⟩ : ShipD) _) (by have := HLN.out; unfold maxLen; simp <;> omega) (by have := HLN.out; simp <;> omega) (by simp <;> omega) ?_; intro r9 w9 hown9 hgrow9 hblk9)
      have ha : Below w6.heap.size w6 (w6.alloc (.cells #[.string (shipNm xs.length), .int .i64 x1, .int .i64 x2, .int .i64 x3, .int .i64 x4, .bool x5] 31)) := (Below.refl _ _).alloc (Nat.le_refl _) _
      have hog := HO6.out.below ha
      have hb9 : Below w.heap.size w6 w9 := (ha.mono (by omega)).trans (Own.belowGrown (B := w.heap.size) hog hgrow9 (Nat.le_refl _) (by simp <;> omega))
      have HW9 := hide (show CurW g w w9 from HW6.out.fresh hb9)
      go_roundw
      case rel => exact ⟨j, xs ++ [⟨shipNm xs.length, x1, x2, x3, x4, x5⟩], by first | rfl | go_num, by simp <;> omega, by simp <;> omega, hide hown9, HX6, hide (HC6.out.keep hb9 hg), HW9, by have := hb9.size; omega⟩
      case measure => simp [intOf] <;> omega
end Go.Proofs.Ytjfppjhlkeopnaa
