/- Berths, ships and asks drawn out of bytes. No condition. -/
import Derived.Test.YtjfppjhlkeopnaaFleetOk
import Derived.Test.YtjfppjhlkeopnaaFind
import Derived.Test.YtjfppjhlkeopnaaBytes
namespace Go.Proofs.Ytjfppjhlkeopnaa
open Go.RowKit
set_option linter.unusedVariables false
def berthNm (i : Nat) : ByteArray := (⟨#[98]⟩ : ByteArray) ++ dig i
theorem berthNm_name : ∀ i, i < 4 → isName (berthNm i) = true := by
  intro i hi
  rcases i with _ | _ | _ | _ | i
  all_goals first | (exfalso; omega) | kernel_rfl
theorem berthNm_size : ∀ i, i < 4 → (berthNm i).size = 2 := by
  intro i hi
  rcases i with _ | _ | _ | _ | i
  all_goals first | (exfalso; omega) | kernel_rfl
theorem berthNm_last : ∀ i, i < 4 → (berthNm i).data.toList = [98, UInt8.ofNat (48 + i)] := by
  intro i hi
  rcases i with _ | _ | _ | _ | i
  all_goals first | (exfalso; omega) | kernel_rfl
theorem berthNm_inj {i j : Nat} (hi : i < 4) (hj : j < 4) (h : berthNm i = berthNm j) : i = j := by
  have h2 := berthNm_last i hi
  rw [h, berthNm_last j hj] at h2
  simp only [List.cons.injEq, and_true, true_and] at h2
  have h3 := congrArg UInt8.toNat h2
  simp only [UInt8.toNat_ofNat'] at h3
  omega
/-- drawn berths: the names are numbered down from n -/
def BerthsAre (n : Nat) (bs : List BerthD) : Prop := ∀ i (h : i < bs.length), bs[i].name = berthNm (n - i) ∧ 120 ≤ bs[i].length ∧ bs[i].length ≤ 319 ∧ 800 ≤ bs[i].depth ∧ bs[i].depth ≤ 1299
theorem BerthsAre.snoc {n k : Nat} {bs : List BerthD} (h : BerthsAre n bs) (hk : k + bs.length = n) {x1 x2 : Int} (a0 : 120 ≤ x1) (a1 : x1 ≤ 319) (a2 : 800 ≤ x2) (a3 : x2 ≤ 1299) : BerthsAre n (bs ++ [⟨berthNm k, x1, x2⟩]) := by
  intro i hi
  rcases Nat.lt_or_ge i bs.length with h2 | h2
  · rw [List.getElem_append_left h2]; exact h i h2
  · obtain rfl : i = bs.length := by simp at hi; omega
    simp only [List.getElem_append_right (Nat.le_refl _), Nat.sub_self, List.getElem_cons_zero]
    exact ⟨by congr 1; omega, a0, a1, a2, a3⟩
theorem BerthsAre.ok {n : Nat} {bs : List BerthD} (h : BerthsAre n bs) (hn : n ≤ 3) (hl : bs.length ≤ n) : berthsOk bs = true := by
  unfold berthsOk
  simp only [Bool.and_eq_true, decide_eq_true_eq, allUpTo_iff]
  refine ⟨by omega, fun i hi => ?_⟩
  obtain ⟨e, a0, a1, a2, a3⟩ := h i hi
  unfold berthRow
  rw [getD_at hi]
  simp only [Bool.and_eq_true, allUpTo_iff]
  refine ⟨⟨⟨by rw [e]; exact berthNm_name _ (by omega), by simp [inB]; omega⟩, by simp [inB]; omega⟩, fun j hj => ?_⟩
  unfold otherName
  rw [getD_at (show j < bs.length by omega), (h j (by omega)).1, e]
  simp only [Bool.not_eq_true', decide_eq_false_iff_not]
  exact fun e2 => by have := berthNm_inj (by omega) (by omega) e2; omega
theorem BerthsAre.size {n : Nat} {bs : List BerthD} (h : BerthsAre n bs) (hn : n ≤ 3) : ∀ x ∈ bs, x.name.size ≤ maxLen := by
  intro x hx
  obtain ⟨i, hi, rfl⟩ := List.getElem_of_mem hx
  rw [(h i hi).1, berthNm_size _ (by omega)]; unfold maxLen; omega
theorem berth_one (x : BerthD) : ∀ u ∈ BerthD.enc x, u.oneCell' = true := by
  intro u hu
  simp only [BerthD.enc, List.mem_cons, List.not_mem_nil, or_false] at hu
  rcases hu with rfl | rfl | rfl <;> rfl
def BerthsRes (B g : Nat) (v : Value) (bs : List Int) (w : World) (e : Ending) (w' : World) : Prop := ∃ (u : Value) (n : Nat) (xs : List BerthD), e = .returned u ∧ Own w' w.heap.size 29 3 BerthD.enc u xs ∧ 1 ≤ n ∧ n ≤ 3 ∧ xs.length = n ∧ BerthsAre n xs ∧ Cur w' B g v bs ∧ CurW g w w'
set_option maxRecDepth 100000 in
set_option maxHeartbeats 16000000 in
theorem l12Berths_any (B g : Nat) (v : Value) (bs : List Int) (w : World) (h : Cur w B g v bs) :
    Calls Try.prog 84 #[.pointer (some ⟨g, 0, none⟩)] w (BerthsRes B g v bs w) := by
  have hg := h.lt
  have HC := hide h; clear h
  obtain ⟨i0, hi, hz0, hz1, hz2⟩ := info_parts berth_info
  go_enter Try.func84, Try.ntmps84
  go_wp2_with fail
  have hou0 := own_built0 (enc := BerthD.enc) w 29 3
  have hb0 : Below w.heap.size w (w.alloc (.cells #[] 29)) := (Below.refl _ _).alloc (Nat.le_refl _) _
  have hs0 : w.heap.size < (w.alloc (.cells #[] 29)).heap.size := by simp
  generalize w.alloc (.cells #[] 29) = W0 at hou0 hb0 hs0 ⊢
  refine (l01Below_any B g v bs 3 _ (HC.out.keep hb0 hg) (by omega)).mono ?_
  rintro e w1 ⟨x, rfl, x0, -, -, x1, hc1, hw1⟩
  replace x1 := x1 (by omega)
  have HC1 := hide hc1; clear hc1
  have HO1 := hide (hou0.curw hw1 hg); clear hou0
  have HW1 := hide (show CurW g w w1 from (CurW.ofBelow hb0).trans hw1)
  have hs1 : w.heap.size ≤ w1.heap.size := HW1.out.size
  clear hb0 hw1 hs0
  obtain ⟨n, rfl⟩ : ∃ n : Nat, x = n := ⟨x.toNat, by omega⟩
  have hn1 : IntKind.i64.wrap (1 + (n : Int)) = 1 + (n : Int) := IntWalk.i64_in _ (by omega)
  obtain ⟨n1, hn1e⟩ : ∃ n1, n + 1 = n1 := ⟨_, rfl⟩
  go_wp2_with fail
  go_loopw [3, 4] (fun o s wr => ∃ (k : Nat) (xs : List BerthD), s = .int .i64 k ∧ k + xs.length = n1 ∧ Hid (Own wr w.heap.size 29 3 BerthD.enc o xs) ∧ Hid (BerthsAre n1 xs) ∧ Hid (Cur wr B g v bs) ∧ Hid (CurW g w wr) ∧ w.heap.size ≤ wr.heap.size) (fun _ s _ => (intOf s).toNat)
  case atStart => exact ⟨n + 1, [], by first | rfl | go_num, by simp <;> omega, HO1, hide (fun i hi => by simp at hi), HC1, HW1, hs1⟩
  case round =>
    clear HC1 HW1 HO1 hs1
    obtain ⟨k, xs, rfl, hk, HO, HX, HC, HW, hsw⟩ := hrel
    obtain ⟨wo, rfl⟩ : ∃ wo : World, wo = wr := ⟨_, rfl⟩
    obtain ⟨A3, c3, rfl, hc3, hm3, -⟩ := Own.rd BerthD.enc_len HO.out
    unfold maxLen at hm3
    rcases Nat.eq_zero_or_pos k with h0 | h0
    · subst h0
      go_wp2
      go_ret
      exact ⟨_, n1, xs, rfl, HO.out, by omega, by omega, by omega, HX.out, HC.out, HW.out⟩
    · obtain ⟨j, rfl⟩ : ∃ j, k = j + 1 := ⟨k - 1, by omega⟩
      have hkp : (0 : Int) < ((j + 1 : Nat) : Int) := by omega
      have hje : ((j + 1 : Nat) : Int) - 1 = (j : Int) := by omega
      have hjw : IntKind.i64.wrap (((j + 1 : Nat) : Int) - 1) = (j : Int) := by rw [IntWalk.i64_in _ (by omega)]; omega
      have hjw2 : IntKind.i64.wrap (j : Int) = (j : Int) := IntWalk.i64_in _ (by omega)
      go_wp2_with fail
      refine (FormatInt_dig (j + 1) (by omega) wo).mono ?_
      rintro e wf ⟨rfl, hbf⟩
      have HCF := hide (HC.out.keep hbf HC.out.lt)
      have HWF := hide (HW.out.trans (CurW.ofBelow hbf))
      have HOF := hide (HO.out.below hbf)
      clear hbf
      go_wp2_with fail
      refine (l01Below_any B g v bs 200 _ HCF.out (by omega)).mono ?_
      rintro e w2 ⟨a, rfl, a0, -, -, a1, hc2, hw2⟩
      replace a1 := a1 (by omega)
      have HC2 := hide hc2; have HO2 := hide (HOF.out.curw hw2 hg); have HW2 := hide (HWF.out.trans hw2)
      clear hc2 hw2
      have ha1 : IntKind.i64.wrap (120 + a) = 120 + a := IntWalk.i64_in _ (by omega)
      go_wp2_with fail
      refine (l01Below_any B g v bs 500 _ HC2.out (by omega)).mono ?_
      rintro e w6 ⟨b, rfl, b0, -, -, b1, hc3', hw3⟩
      replace b1 := b1 (by omega)
      have HC6 := hide hc3'; have HO6 := hide (HO2.out.curw hw3 hg); have HW6 := hide (HW2.out.trans hw3)
      clear hc3' hw3
      obtain ⟨xb, hxb⟩ : ∃ z, 800 + b = z := ⟨_, rfl⟩
      have hb1w : IntKind.i64.wrap (800 + b) = xb := by rw [← hxb]; exact IntWalk.i64_in _ (by omega)
      have hs6 := HW6.out.size
      have HLN := hide (show xs.length ≤ 5 by omega)
      have HX6 := hide (BerthsAre.snoc HX.out hk (show 120 ≤ 120 + a by omega) (by omega) (show 800 ≤ 800 + b by omega) (by omega))
      generalize 120 + a = xa at ha1 HX6
      rw [hxb] at HX6
      clear hxb
      have hnm : (⟨#[98]⟩ : ByteArray) ++ dig (j + 1) = berthNm (j + 1) := rfl
      obtain ⟨nm, hnme⟩ : ∃ nm, berthNm (j + 1) = nm := ⟨_, rfl⟩
      rw [hnme] at HX6 hnm
      go_wp2_with (at_builtin; refine wpList_append_rd _ BerthD.enc_len berth_one (by rfl) _ _ 44 (by rfl) w.heap.size 29 i0 _ 32 Try.underlying44 hi hz0 hz1 hz2 rfl (by decide) _ _ (by rfl) (HO6.out.below ((Below.refl _ _).alloc (Nat.le_refl _) _)) _ _ [(⟨nm, xa, xb⟩ : BerthD)] (by rfl) (rd_new (enc := BerthD.enc) _ (⟨nm, xa, xb⟩ : BerthD) _) (by have := HLN.out; unfold maxLen; simp <;> omega) (by have := HLN.out; simp <;> omega) (by simp <;> omega) ?_; intro r9 w9 hown9 hgrow9 hblk9)
      have ha : Below w6.heap.size w6 (w6.alloc (.cells #[.string nm, .int .i64 xa, .int .i64 xb] 29)) := (Below.refl _ _).alloc (Nat.le_refl _) _
      have hog := HO6.out.below ha
      have hb9 : Below w.heap.size w6 w9 := (ha.mono (by omega)).trans (Own.belowGrown (B := w.heap.size) hog hgrow9 (Nat.le_refl _) (by simp <;> omega))
      have HW9 := hide (show CurW g w w9 from HW6.out.fresh hb9)
      go_roundw
      case rel => exact ⟨j, xs ++ [⟨nm, xa, xb⟩], by first | rfl | go_num, by simp <;> omega, hide hown9, HX6, hide (HC6.out.keep hb9 hg), HW9, by have := hb9.size; omega⟩
      case measure => simp [intOf] <;> omega
def AsksRes (B g : Nat) (v : Value) (bs : List Int) (w : World) (e : Ending) (w' : World) : Prop := ∃ (u : Value) (xs : List StayD), e = .returned u ∧ Own w' w.heap.size 97 4 StayD.enc u xs ∧ xs.length ≤ 3 ∧ Cur w' B g v bs ∧ CurW g w w'
set_option maxRecDepth 100000 in
set_option maxHeartbeats 16000000 in
theorem l12Asks_any (B g : Nat) (v : Value) (bs : List Int) (A : Option Addr) (cp m : Nat) (hm : m ≤ 6) (w : World) (h : Cur w B g v bs) :
    Calls Try.prog 86 #[.pointer (some ⟨g, 0, none⟩), .slice A m cp] w (AsksRes B g v bs w) := by
  have hg := h.lt
  have HC := hide h; clear h
  obtain ⟨i0, hi, hz0, hz1, hz2⟩ := info_parts stay_info
  go_enter Try.func86, Try.ntmps86
  go_wp2_with fail
  have hou0 := own_built0 (enc := StayD.enc) w 97 4
  have hb0 : Below w.heap.size w (w.alloc (.cells #[] 97)) := (Below.refl _ _).alloc (Nat.le_refl _) _
  have hs0 : w.heap.size < (w.alloc (.cells #[] 97)).heap.size := by simp
  generalize w.alloc (.cells #[] 97) = W0 at hou0 hb0 hs0 ⊢
  refine (l01Below_any B g v bs 4 _ (HC.out.keep hb0 hg) (by omega)).mono ?_
  rintro e w1 ⟨x, rfl, x0, -, -, x1, hc1, hw1⟩
  replace x1 := x1 (by omega)
  have HC1 := hide hc1; clear hc1
  have HO1 := hide (hou0.curw hw1 hg); clear hou0
  have HW1 := hide (show CurW g w w1 from (CurW.ofBelow hb0).trans hw1)
  have hs1 : w.heap.size ≤ w1.heap.size := HW1.out.size
  clear hb0 hw1 hs0
  obtain ⟨n, rfl⟩ : ∃ n : Nat, x = n := ⟨x.toNat, by omega⟩
  go_wp2_with fail
  go_loopw [5, 6] (fun o s wr => ∃ (k : Nat) (xs : List StayD), s = .int .i64 k ∧ k + xs.length ≤ 3 ∧ Hid (Own wr w.heap.size 97 4 StayD.enc o xs) ∧ Hid (Cur wr B g v bs) ∧ Hid (CurW g w wr) ∧ w.heap.size ≤ wr.heap.size) (fun _ s _ => (intOf s).toNat)
  case atStart => exact ⟨n, [], by first | rfl | go_num, by simp <;> omega, HO1, HC1, HW1, hs1⟩
  case round =>
    clear HC1 HW1 HO1 hs1
    obtain ⟨k, xs, rfl, hk, HO, HC, HW, hsw⟩ := hrel
    obtain ⟨wo, rfl⟩ : ∃ wo : World, wo = wr := ⟨_, rfl⟩
    obtain ⟨A3, c3, rfl, hc3, hm3, -⟩ := Own.rd StayD.enc_len HO.out
    unfold maxLen at hm3
    rcases Nat.eq_zero_or_pos k with h0 | h0
    · subst h0
      go_wp2
      go_ret
      exact ⟨_, xs, rfl, HO.out, by omega, HC.out, HW.out⟩
    · obtain ⟨j, rfl⟩ : ∃ j, k = j + 1 := ⟨k - 1, by omega⟩
      have hkp : (0 : Int) < ((j + 1 : Nat) : Int) := by omega
      have hje : ((j + 1 : Nat) : Int) - 1 = (j : Int) := by omega
      have hjw : IntKind.i64.wrap (((j + 1 : Nat) : Int) - 1) = (j : Int) := by rw [IntWalk.i64_in _ (by omega)]; omega
      have hjw2 : IntKind.i64.wrap (j : Int) = (j : Int) := IntWalk.i64_in _ (by omega)
      go_wp2_with fail
      refine (l01Below_any B g v bs 600 _ HC.out (by omega)).mono ?_
      rintro e w2 ⟨a, rfl, a0, -, -, a1, hc2, hw2⟩
      replace a1 := a1 (by omega)
      have HC2 := hide hc2; have HO2 := hide (HO.out.curw hw2 hg); have HW2 := hide (HW.out.trans hw2)
      clear hc2 hw2
      have ha1 : IntKind.i64.wrap (a + 30) = a + 30 := IntWalk.i64_in _ (by omega)
      go_wp2_with fail
      refine (l01Below_any B g v bs m _ HC2.out (by omega)).mono ?_
      rintro e w3 ⟨s, rfl, s0, -, -, -, hc3', hw3⟩
      have HC3 := hide hc3'; have HO3 := hide (HO2.out.curw hw3 hg); have HW3 := hide (HW2.out.trans hw3)
      clear hc3' hw3
      go_wp2_with fail
      refine (l01Below_any B g v bs 300 _ HC3.out (by omega)).mono ?_
      rintro e w6 ⟨b, rfl, b0, -, -, b1, hc4, hw4⟩
      replace b1 := b1 (by omega)
      have HC6 := hide hc4; have HO6 := hide (HO3.out.curw hw4 hg); have HW6 := hide (HW3.out.trans hw4)
      clear hc4 hw4
      obtain ⟨xb, hxb⟩ : ∃ z, a + 30 + b = z := ⟨_, rfl⟩
      have hb1w : IntKind.i64.wrap (a + 30 + b) = xb := by rw [← hxb]; exact IntWalk.i64_in _ (by omega)
      clear hxb
      have hs6 := HW6.out.size
      have HLN := hide (show xs.length ≤ 5 by omega)
      go_wp2_with (at_builtin; refine wpList_append_rd _ StayD.enc_len stay_one (by rfl) _ _ 37 (by rfl) w.heap.size 97 i0 _ 32 Try.underlying37 hi hz0 hz1 hz2 rfl (by decide) _ _ (by rfl) (HO6.out.below ((Below.refl _ _).alloc (Nat.le_refl _) _)) _ _ [(⟨s, 0, a, xb⟩ : StayD)] (by rfl) (rd_new (enc := StayD.enc) _ (⟨s, 0, a, xb⟩ : StayD) _) (by have := HLN.out; unfold maxLen; simp <;> omega) (by have := HLN.out; simp <;> omega) (by simp <;> omega) ?_; intro r9 w9 hown9 hgrow9 hblk9)
      have ha : Below w6.heap.size w6 (w6.alloc (.cells #[.int .i64 s, .int .i64 0, .int .i64 a, .int .i64 xb] 97)) := (Below.refl _ _).alloc (Nat.le_refl _) _
      have hog := HO6.out.below ha
      have hb9 : Below w.heap.size w6 w9 := (ha.mono (by omega)).trans (Own.belowGrown (B := w.heap.size) hog hgrow9 (Nat.le_refl _) (by simp <;> omega))
      have HW9 := hide (show CurW g w w9 from HW6.out.fresh hb9)
      go_roundw
      case rel => exact ⟨j, xs ++ [⟨s, 0, a, xb⟩], by first | rfl | go_num, by simp <;> omega, hide hown9, hide (HC6.out.keep hb9 hg), HW9, by have := hb9.size; omega⟩
      case measure => simp [intOf] <;> omega
def MakeAsksRes (w : World) (e : Ending) (w' : World) : Prop := ∃ (v1 v2 v3 : Value) (n : Nat) (bs : List BerthD) (fl : List ShipD) (xs : List StayD), e = .returned (.tuple #[v1, v2, v3]) ∧ Own w' w.heap.size 29 3 BerthD.enc v1 bs ∧ Own w' w.heap.size 31 6 ShipD.enc v2 fl ∧ Own w' w.heap.size 97 4 StayD.enc v3 xs ∧ (n ≤ 3 ∧ bs.length = n ∧ BerthsAre n bs) ∧ (1 ≤ fl.length ∧ fl.length ≤ 3 ∧ FleetIs fl) ∧ xs.length ≤ 3 ∧ Below w.heap.size w w'
set_option maxRecDepth 100000 in
set_option maxHeartbeats 8000000 in
theorem MakeAsks_any (v : Value) (bs : List Int) (w : World) (h : RdB w w.heap.size 1 enc8 v bs) (hby : Byt bs) (hn : bs.length ≤ 1048576) :
    Calls Try.prog 54 #[v] w (MakeAsksRes w) := by
  have HR := hide h; have HBY := hide hby; have HN := hide hn; clear hby hn
  obtain ⟨A1, cc1, rfl, hc1, hm1, -⟩ := h
  go_enter Try.func54, Try.ntmps54
  go_wp2_with fail
  refine (l01New_any _ bs _ HR.out HBY.out HN.out).mono ?_
  rintro e w2 ⟨g, rfl, hg, hcur, hb2⟩
  have HC := hide hcur; clear hcur
  have hs2 := hb2.size
  go_wp2_with fail
  refine (l12Berths_any _ g _ bs _ HC.out).mono ?_
  rintro e w3 ⟨u1, n, xb, rfl, ho1, -, hn3, hxl, hbe, hc3, hw3⟩
  subst hxl
  have hs3 := hw3.size
  have HC3 := hide hc3; have HO1 := hide ho1; have HBE := hide hbe
  obtain ⟨A3, c3, rfl, -, -, -⟩ := Own.rd BerthD.enc_len ho1
  have hgl := HC.out.lt
  have hb3 := hb2.trans (hw3.below hg hs2)
  clear hc3 ho1 hbe
  go_wp2_with fail
  refine (l06Fleet_any _ g _ bs 3 (by omega) (by omega) _ HC3.out).mono ?_
  rintro e w4 ⟨u2, fl, rfl, ho2, hf0, hf1, hfl, hc4, hw4⟩
  have hs4 := hw4.size
  have HC4 := hide hc4; have HO2 := hide ho2; have HFL := hide hfl
  have HO14 := hide (HO1.out.curw hw4 hgl)
  obtain ⟨A4, c4, rfl, -, -, -⟩ := Own.rd ShipD.enc_len ho2
  have hb4 := hb3.trans (hw4.below hg (by omega))
  clear hc4 ho2 hfl
  have hgl3 := HC3.out.lt
  go_wp2_with fail
  refine (l12Asks_any _ g _ bs _ _ _ (by omega) _ HC4.out).mono ?_
  rintro e w5 ⟨u3, xs, rfl, ho3, hx3, hc5, hw5⟩
  have HO3 := hide (ho3.mono (base' := w.heap.size) (by omega))
  have HO15 := hide ((HO14.out.curw hw5 hgl).mono (base' := w.heap.size) (by omega))
  have HO25 := hide ((HO2.out.curw hw5 hgl3).mono (base' := w.heap.size) (by omega))
  obtain ⟨A5, c5, rfl, -, -, -⟩ := Own.rd StayD.enc_len ho3
  have hb5 := hb4.trans (hw5.below hg (by omega))
  clear hc5 hw5 ho3
  go_wp2
  go_ret3
  exact ⟨_, _, _, _, xb, fl, xs, rfl, HO15.out, HO25.out, HO3.out, ⟨hn3, rfl, HBE.out⟩, ⟨hf0, hf1, HFL.out⟩, hx3, hb5⟩
end Go.Proofs.Ytjfppjhlkeopnaa
