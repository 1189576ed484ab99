/- Duties drawn out of bytes, with a pause and moves. No condition. -/
import Derived.Test.YtdbpgfbbkejljaaMovDraw
import Derived.Test.YtdbpgfbbkejljaaDuty
namespace Go.Proofs.Ytdbpgfbbkejljaa
open Go.RowKit
set_option linter.unusedVariables false
theorem DutyD.enc_one (x : DutyD) : ∀ u ∈ x.enc, u.oneCell' = true := by
  intro u hu
  simp only [DutyD.enc, List.mem_cons, List.not_mem_nil, or_false] at hu
  rcases hu with rfl | rfl | rfl | rfl <;> rfl
theorem MovesIs.ok {ms : List Int} (h : MovesIs ms) : movesOk ms = true := by
  unfold movesOk
  simp only [Bool.and_eq_true, decide_eq_true_eq, List.all_eq_true]
  refine ⟨h.1, fun x hx => ?_⟩
  have := h.2 x hx
  simp [moveOk, inB]; omega
theorem duty_drawn {a x y z : Int} (a0 : 0 ≤ a) (a1 : a < 300) (x0 : 0 ≤ x) (x1 : x < 80) (y0 : 0 ≤ y) (y1 : y < 3) (z0 : 0 ≤ z) (z1 : z < 3) : dutyOk ⟨a, a + 10 + x, y, z⟩ = true := by
  unfold dutyOk; simp [inB]; omega
set_option maxRecDepth 100000 in
set_option maxHeartbeats 8000000 in
theorem l13Draw_any (B g : Nat) (v : Value) (bs : List Int) (w : World) (h : Cur w B g v bs) :
    Calls Try.prog 47 #[.pointer (some ⟨g, 0, none⟩), .int .i64 6] w fun e w' => ∃ u, e = .returned u ∧ (∃ xs : List DutyD, xs.length ≤ 6 ∧ (∀ x ∈ xs, dutyOk x = true) ∧ Own w' w.heap.size 35 4 DutyD.enc u xs ∧ Cur w' B g v bs ∧ CurW g w w') := by
  have hg := h.lt
  have HC := hide h; clear h
  obtain ⟨i0, hi, hz0, hz1, hz2⟩ := info_parts duty_info
  go_enter Try.func47, Try.ntmps47
  go_wp2_with fail
  have hou0 := own_built0 (enc := DutyD.enc) w 35 4
  have hb0 : Below w.heap.size w (w.alloc (.cells #[] 35)) := (Below.refl _ _).alloc (Nat.le_refl _) _
  have hs0 : w.heap.size < (w.alloc (.cells #[] 35)).heap.size := by simp
  generalize w.alloc (.cells #[] 35) = W0 at hou0 hb0 hs0 ⊢
  refine (l01Below_any B g v bs 7 _ (HC.out.keep hb0 hg) (by omega)).mono ?_
  rintro e w1 ⟨n0, rfl, x0, -, -, x1, hc1, hw1⟩
  replace x1 := x1 (by omega)
  have HC1 := hide hc1; clear hc1
  have HO1 := hide (hou0.curw hw1 hg); clear hou0
  have HW1 := hide (show CurW g w w1 from (CurW.ofBelow hb0).trans hw1)
  have hs1 : w.heap.size ≤ w1.heap.size := HW1.out.size
  clear hb0 hw1 hs0
  obtain ⟨n, rfl⟩ : ∃ n : Nat, n0 = n := ⟨n0.toNat, by omega⟩
  go_wp2_with fail
  go_loopw [5, 6] (fun o s wr => ∃ (k : Nat) (xs : List DutyD), s = .int .i64 k ∧ k + xs.length ≤ 6 ∧ Hid (Own wr w.heap.size 35 4 DutyD.enc o xs) ∧ Hid (∀ x ∈ xs, dutyOk x = true) ∧ Hid (Cur wr B g v bs) ∧ Hid (CurW g w wr) ∧ w.heap.size ≤ wr.heap.size) (fun _ s _ => (intOf s).toNat)
  case atStart => exact ⟨n, [], by first | rfl | go_num, by simp <;> omega, HO1, hide (fun x hx => by simp at hx), HC1, HW1, hs1⟩
  case round =>
    clear HC1 HW1 HO1 hs1
    obtain ⟨k, xs, rfl, hk, HO, HX, HCC, HW, hsw⟩ := hrel
    obtain ⟨wo, rfl⟩ : ∃ wo : World, wo = wr := ⟨_, rfl⟩
    obtain ⟨A3, c3, rfl, hc3, hm3, -⟩ := Own.rd DutyD.enc_len HO.out
    unfold maxLen at hm3
    rcases Nat.eq_zero_or_pos k with h0 | h0
    · subst h0
      go_wp2
      go_ret
      exact ⟨_, rfl, xs, by omega, HX.out, HO.out, HCC.out, HW.out⟩
    · obtain ⟨j, rfl⟩ : ∃ j, k = j + 1 := ⟨k - 1, by omega⟩
      have hkp : (0 : Int) < ((j + 1 : Nat) : Int) := by omega
      have hje : ((j + 1 : Nat) : Int) - 1 = (j : Int) := by omega
      have hjw : IntKind.i64.wrap (((j + 1 : Nat) : Int) - 1) = (j : Int) := by rw [IntWalk.i64_in _ (by omega)]; omega
      have hjw2 : IntKind.i64.wrap (j : Int) = (j : Int) := IntWalk.i64_in _ (by omega)
      go_wp2_with fail
      refine (l01Below_any B g v bs 300 _ HCC.out (by omega)).mono ?_
      rintro e w2 ⟨a, rfl, a0, -, -, a1, hc2, hw2⟩
      replace a1 := a1 (by omega)
      have HC2 := hide hc2; have HO2 := hide (HO.out.curw hw2 hg); have HW2 := hide (HW.out.trans hw2)
      clear hc2 hw2
      have ha1 : IntKind.i64.wrap (a + 10) = a + 10 := IntWalk.i64_in _ (by omega)
      go_wp2_with fail
      refine (l01Below_any B g v bs 80 _ HC2.out (by omega)).mono ?_
      rintro e w3 ⟨x, rfl, x0, -, -, x1, hc3', hw3⟩
      replace x1 := x1 (by omega)
      have HC3 := hide hc3'; have HO3 := hide (HO2.out.curw hw3 hg); have HW3 := hide (HW2.out.trans hw3)
      clear hc3' hw3
      have ha2 : IntKind.i64.wrap (a + 10 + x) = a + 10 + x := IntWalk.i64_in _ (by omega)
      go_wp2_with fail
      refine (l01Below_any B g v bs 3 _ HC3.out (by omega)).mono ?_
      rintro e w4 ⟨y, rfl, y0, -, -, y1, hc4, hw4⟩
      replace y1 := y1 (by omega)
      have HC4 := hide hc4; have HO4 := hide (HO3.out.curw hw4 hg); have HW4 := hide (HW3.out.trans hw4)
      clear hc4 hw4
      go_wp2_with fail
      refine (l01Below_any B g v bs 3 _ HC4.out (by omega)).mono ?_
      rintro e w6 ⟨z, rfl, z0, -, -, z1, hc6, hw6⟩
      replace z1 := z1 (by omega)
      have HC6 := hide hc6; have HO6 := hide (HO4.out.curw hw6 hg); have HW6 := hide (HW4.out.trans hw6)
      clear hc6 hw6
      have hs6 := HW6.out.size
      have HLN := hide (show xs.length ≤ 5 by omega)
      have HD := hide (duty_drawn a0 a1 x0 x1 y0 y1 z0 z1)
      generalize a + 10 + x = b at ha2 HD
      have HX6 := hide (show ∀ q ∈ xs ++ [(⟨a, b, y, z⟩ : DutyD)], dutyOk q = true from fun q hq => by rcases List.mem_append.1 hq with h1 | h1; exact HX.out q h1; (simp at h1; subst h1; exact HD.out))
      go_wp2_with (at_builtin; refine wpList_append_rd _ DutyD.enc_len DutyD.enc_one (by rfl) _ _ 25 (by rfl) w.heap.size 35 i0 _ 32 Try.underlying25 hi hz0 hz1 hz2 rfl (by decide) _ _ (by rfl) (HO6.out.below ((Below.refl _ _).alloc (Nat.le_refl _) _)) _ _ [(⟨a, b, y, z⟩ : DutyD)] (by rfl) (rd_new (enc := DutyD.enc) _ (⟨a, b, y, z⟩ : DutyD) _) (by have := HLN.out; unfold maxLen; simp <;> omega) (by have := HLN.out; simp <;> omega) (by simp <;> omega) ?_; intro r9 w9 hown9 hgrow9 hblk9)
      have ha : Below w6.heap.size w6 (w6.alloc (.cells #[.int .i64 a, .int .i64 b, .int .i64 y, .int .i64 z] 35)) := (Below.refl _ _).alloc (Nat.le_refl _) _
      have hog := HO6.out.below ha
      have hb9 : Below w.heap.size w6 w9 := (ha.mono (by omega)).trans (Own.belowGrown (B := w.heap.size) hog hgrow9 (Nat.le_refl _) (by simp <;> omega))
      have HW9 := hide (show CurW g w w9 from HW6.out.fresh hb9)
      go_roundw
      case rel => exact ⟨j, xs ++ [⟨a, b, y, z⟩], by first | rfl | go_num, by simp <;> omega, hide hown9, HX6, hide (HC6.out.keep hb9 hg), HW9, by have := hb9.size; omega⟩
      case measure => simp [intOf] <;> omega
def DutiesRes (w : World) (e : Ending) (w' : World) : Prop := ∃ (p : Int) (vm vl : Value) (ms : List Int) (xs : List DutyD), e = .returned (.tuple #[.int .i64 p, vm, vl]) ∧ (0 ≤ p ∧ p < 40) ∧ tableOk p ms = true ∧ dutiesOk xs = true ∧ xs.length ≤ 6 ∧ Own w' w.heap.size 3 1 encI vm ms ∧ Own w' w.heap.size 35 4 DutyD.enc vl xs ∧ Below w.heap.size w w'
set_option maxRecDepth 100000 in
set_option maxHeartbeats 8000000 in
theorem MakeDuties_any (v : Value) (bs : List Int) (w : World) (h : RdB w w.heap.size 1 enc8 v bs) (hby : Byt bs) (hn : bs.length ≤ 1048576) :
    Calls Try.prog 29 #[v] w (DutiesRes w) := by
  have HR := hide h; have HBY := hide hby; have HN := hide hn; clear hby hn
  obtain ⟨A1, cc1, rfl, hc1, hm1, -⟩ := h
  go_enter Try.func29, Try.ntmps29
  go_wp2_with fail
  refine (l01New_any _ bs _ HR.out HBY.out HN.out).mono ?_
  rintro e w2 ⟨g, rfl, hg, hcur, hb2⟩
  have HC := hide hcur; clear hcur
  have hs2 := hb2.size
  go_wp2_with fail
  refine (l13Draw_any _ g _ bs _ HC.out).mono ?_
  rintro e w3 ⟨vl, rfl, xs, hl6, hxs, hol, hc3, hw3⟩
  have hs3 := hw3.size
  have HC3 := hide hc3
  obtain ⟨A3, c3, rfl, -, -, -⟩ := Own.rd DutyD.enc_len hol
  have HL := hide hol; have HX := hide hxs
  have hb3 := hb2.trans (hw3.below hg hs2)
  clear hc3 hol hxs
  go_wp2_with fail
  refine (l13Moves_any _ g _ bs _ HC3.out).mono ?_
  rintro e w4 ⟨vm, rfl, ms, hms, hom, hc4, hw4⟩
  have hs4 := hw4.size
  have HC4 := hide hc4
  obtain ⟨A4, c4, rfl, -, -, -⟩ := Own.rd encI_len hom
  have HM := hide hom; have HMI := hide hms
  have hgl := HC.out.lt
  have HL4 := hide (HL.out.curw hw4 hgl)
  have hb4 := hb3.trans (hw4.below hg (by omega))
  clear hc4 hom hms
  go_wp2_with fail
  refine (l01Below_any _ g _ bs 40 _ HC4.out (by omega)).mono ?_
  rintro e w5 ⟨p, rfl, p0, -, -, p1, hc5, hw5⟩
  replace p1 := p1 (by omega)
  have hgl4 := HC3.out.lt
  have HL5 := hide ((HL4.out.curw hw5 hgl).mono (base' := w.heap.size) (by omega))
  have HM5 := hide ((HM.out.curw hw5 hgl4).mono (base' := w.heap.size) (by omega))
  have hb5 := hb4.trans (hw5.below hg (by omega))
  have HT := hide (show tableOk p ms = true by unfold tableOk; rw [HMI.out.ok]; simp [inB]; omega)
  have HD := hide (show dutiesOk xs = true by unfold dutiesOk; simp only [Bool.and_eq_true, decide_eq_true_eq, List.all_eq_true]; exact ⟨by omega, HX.out⟩)
  clear hc5 hw5
  go_wp2
  go_ret3
  exact ⟨p, _, _, ms, xs, rfl, ⟨p0, p1⟩, HT.out, HD.out, hl6, HM5.out, HL5.out, hb5⟩
end Go.Proofs.Ytdbpgfbbkejljaa
