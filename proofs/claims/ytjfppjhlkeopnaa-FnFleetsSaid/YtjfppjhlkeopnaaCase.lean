/- A harbour and its calls drawn out of bytes. No condition. -/
import Derived.Test.YtjfppjhlkeopnaaHarb
import Derived.Test.YtjfppjhlkeopnaaBytes
namespace Go.Proofs.Ytjfppjhlkeopnaa
open Go.RowKit
set_option linter.unusedVariables false
structure CallD where
  x0 : Int
  x1 : Int
  x2 : Int
  x3 : Int
  x4 : Int
def CallD.enc (x : CallD) : List Value := [.int .i64 x.x0, .int .i64 x.x1, .int .i64 x.x2, .int .i64 x.x3, .int .i64 x.x4]
theorem CallD.enc_len (x : CallD) : x.enc.length = 5 := rfl
theorem CallD.one (x : CallD) : ∀ u ∈ x.enc, u.oneCell' = true := by
  intro u hu
  simp only [CallD.enc, List.mem_cons, List.not_mem_nil, or_false] at hu
  rcases hu with rfl | rfl | rfl | rfl | rfl <;> rfl
theorem call_info : (Try.prog.info? 129).map (fun i => (i.zero, i.size, i.bytes)) = some (some (.agg #[.int .i64 0, .int .i64 0, .int .i64 0, .int .i64 0, .int .i64 0]), 5, 40) := by kernel_rfl
structure CaseSt (w W0 : World) (B g : Nat) (v : Value) (bs : List Int) (X P : Nat) (cs : List Value) (vf : Value) (fl : List ShipD) (o : Value) (xs : List CallD) : Prop where
  fo : OwnB w W0.heap.size X 31 6 ShipD.enc vf fl
  row : RowX w X cs
  cu : Cur w B g v bs
  cw : CurW g W0 w
  hl : X < w.heap.size
  hP : P ≤ w.heap.size
  oc : Own w P 129 5 CallD.enc o xs
theorem CaseSt.next {w w' W0 : World} {B g : Nat} {v : Value} {bs : List Int} {X P : Nat} {cs : List Value} {vf : Value} {fl : List ShipD} {o : Value} {xs : List CallD} (h : CaseSt w W0 B g v bs X P cs vf fl o xs) (hw : CurW g w w') (hc : Cur w' B g v bs) (h1 : g < W0.heap.size) (h2 : g < X) (h3 : g < P) : CaseSt w' W0 B g v bs X P cs vf fl o xs :=
  ⟨h.fo.curwF hw h1, h.row.curw hw h.hl (by omega), hc, h.cw.trans hw, Nat.lt_of_lt_of_le h.hl hw.size, Nat.le_trans h.hP hw.size, h.oc.curw hw h3⟩
theorem CaseSt.grow {w w' W0 : World} {B g : Nat} {v : Value} {bs : List Int} {X P : Nat} {cs : List Value} {vf : Value} {fl : List ShipD} {o o' : Value} {xs xs' : List CallD} (h : CaseSt w W0 B g v bs X P cs vf fl o xs) (hb : Below P w w') (hX : X < P) (hg : g < P) (hW : W0.heap.size ≤ P) (ho : Own w' P 129 5 CallD.enc o' xs') : CaseSt w' W0 B g v bs X P cs vf fl o' xs' :=
  ⟨h.fo.below hb (Nat.le_of_lt hX), h.row.kept (hb.block X hX), h.cu.keep hb hg, h.cw.fresh (hb.mono hW), Nat.lt_of_lt_of_le h.hl hb.size, Nat.le_trans h.hP hb.size, ho⟩
def CaseRes (B g : Nat) (v : Value) (bs : List Int) (w : World) (e : Ending) (w' : World) : Prop := ∃ (m0 r0 p q r : Int) (r1 : Bool) (A1 A2 A3 A4 A5 A6 A7 : Option Addr) (n1 n2 n3 n4 n6 n7 c1 c2 c3 c4 c5 c6 c7 : Nat) (fl : List ShipD), e = .returned (.tuple #[.agg #[.int .i64 m0, .slice A1 n1 c1, .slice A2 n2 c2, .slice A3 n3 c3, .slice A4 n4 c4, .slice A5 fl.length c5, .int .i64 r0, .bool r1, .int .i64 p, .int .i64 q, .int .i64 r, .slice A6 n6 c6], .slice A7 n7 c7]) ∧ Own w' w.heap.size 31 6 ShipD.enc (.slice A5 fl.length c5) fl ∧ 1 ≤ fl.length ∧ fl.length ≤ 3 ∧ FleetIs fl ∧ Cur w' B g v bs ∧ CurW g w w'
set_option maxRecDepth 100000 in
set_option maxHeartbeats 32000000 in
theorem l16Case_any (B g : Nat) (v : Value) (bs : List Int) (w : World) (h : Cur w B g v bs) :
    Calls Try.prog 69 #[.pointer (some ⟨g, 0, none⟩)] w (CaseRes B g v bs w) := by
  have hg := h.lt
  have HC := hide h; clear h
  obtain ⟨i0, hi, hz0, hz1, hz2⟩ := info_parts call_info
  go_enter Try.func69, Try.ntmps69
  go_wp2_with fail
  generalize hW0 : w.alloc (.cells #[.int .i64 0, .slice none 0 0, .slice none 0 0, .slice none 0 0, .slice none 0 0, .slice none 0 0, .int .i64 0, .bool false, .int .i64 0, .int .i64 0, .int .i64 0, .slice none 0 0] 68) = W0
  have hb0 : Below w.heap.size w W0 := by rw [← hW0]; exact (Below.refl _ _).alloc (Nat.le_refl _) _
  have hl0 : w.heap.size < W0.heap.size := by rw [← hW0]; simp
  have Z := hide (show RowX W0 w.heap.size zeroH by rw [← hW0]; exact RowX.new w zeroH _)
  clear hW0
  refine (l15Harbour_any B g v bs _ (HC.out.keep hb0 hg)).mono ?_
  rintro e w1 ⟨m0, r0, p, q, r, r1, A1, A2, A3, A4, A5, A6, n1, n2, n3, n4, n6, c1, c2, c3, c4, c5, c6, fl, rfl, hof, hf0, hf1, hfi, hc1, hw1⟩
  have HC1 := hide hc1; have HW1 := hide hw1; have s1 := hw1.size; have HFI := hide hfi; have HO1 := hide hof
  clear hc1 hw1 hfi hof
  go_upto_region 2 with fail
  obtain ⟨W6, hW6⟩ : ∃ W, w1.alloc (.cells #[.int .i64 m0, .slice A1 n1 c1, .slice A2 n2 c2, .slice A3 n3 c3, .slice A4 n4 c4, .slice A5 fl.length c5, .int .i64 r0, .bool r1, .int .i64 p, .int .i64 q, .int .i64 r, .slice A6 n6 c6] 68) = W := ⟨_, rfl⟩
  have k6 : Below w1.heap.size w1 W6 := by rw [← hW6]; exact (Below.refl _ _).alloc (Nat.le_refl _) _
  have l6 : W6.heap.size = w1.heap.size + 1 := by rw [← hW6]; simp
  have X6 : RowX W6 w1.heap.size [.int .i64 m0, .slice A1 n1 c1, .slice A2 n2 c2, .slice A3 n3 c3, .slice A4 n4 c4, .slice A5 fl.length c5, .int .i64 r0, .bool r1, .int .i64 p, .int .i64 q, .int .i64 r, .slice A6 n6 c6] := by rw [← hW6]; exact RowX.new w1 _ _
  rw [hW6]
  clear hW6
  have hgX : g < w1.heap.size := HC1.out.lt
  have HOB := hide (show OwnB W6 W0.heap.size w1.heap.size 31 6 ShipD.enc (.slice A5 fl.length c5) fl from ⟨HO1.out.below k6, fun b hb => (World.ownsRow.lt HO1.out b hb).2⟩)
  have HC6 := hide (HC1.out.keep k6 hgX)
  have HW6 := hide (HW1.out.fresh (k6.mono s1))
  obtain ⟨X, hX⟩ : ∃ X, w1.heap.size = X := ⟨_, rfl⟩
  rw [hX] at l6 X6 hgX s1 HOB ⊢
  clear k6 HC1 HW1 HO1 hX
  have hou := own_built0 (enc := CallD.enc) W6 129 5
  have hb6 : Below W6.heap.size W6 (W6.alloc (.cells #[] 129)) := (Below.refl _ _).alloc (Nat.le_refl _) _
  have ST := hide (show CaseSt (W6.alloc (.cells #[] 129)) W0 B g v bs X (X + 1) _ _ fl (.slice (some ⟨W6.heap.size, 0, none⟩) 0 0) [] from ⟨HOB.out.below hb6 (by omega), X6.kept (hb6.block X (by omega)), HC6.out.keep hb6 (by omega), HW6.out.fresh (hb6.mono (by omega)), by simp; omega, by simp; omega, hou.mono (by omega)⟩)
  obtain ⟨cs, hcs⟩ : ∃ l : List Value, [.int .i64 m0, .slice A1 n1 c1, .slice A2 n2 c2, .slice A3 n3 c3, .slice A4 n4 c4, .slice A5 fl.length c5, .int .i64 r0, .bool r1, .int .i64 p, .int .i64 q, .int .i64 r, .slice A6 n6 c6] = l := ⟨_, rfl⟩
  rw [hcs] at ST
  have HCS := hide hcs
  clear hcs hou hb6 X6 HOB HC6 HW6
  go_upto_region 3 with fail
  generalize W6.alloc (.cells #[] 129) = W7 at ST ⊢
  rw [l6] at ST
  have m5 := (ST.out.row 5 (.slice A5 fl.length c5) (by rw [← HCS.out]; rfl)).1
  go_wp2_with fail
  clear m5
  go_loopw [5, 13] (fun o s wr => ∃ (k : Nat) (xs : List CallD), k ≤ fl.length ∧ s = .int .i64 k ∧ xs.length ≤ k ∧ Hid (CaseSt wr W0 B g v bs X (X + 1) cs (.slice A5 fl.length c5) fl o xs)) (fun _ s _ => fl.length - (intOf s).toNat)
  case atStart => exact ⟨0, [], Nat.zero_le _, rfl, Nat.zero_le _, ST⟩
  case round =>
    clear ST
    obtain ⟨k, xs, hk, rfl, hxk, ST⟩ := hrel
    obtain ⟨wo, rfl⟩ : ∃ wo : World, wo = wr := ⟨_, rfl⟩
    obtain ⟨A8, c8, rfl, hc8, hm8, -⟩ := Own.rd CallD.enc_len ST.out.oc
    unfold maxLen at hm8
    have hgW : g < W0.heap.size := by omega
    by_cases hlt : k < fl.length
    · have hlt' : (k : Int) < fl.length := by omega
      go_upto_region 6 with fail
      go_cut [22] (fun s wx => ∃ b : Bool, s = .bool b ∧ Hid (CaseSt wx W0 B g v bs X (X + 1) cs (.slice A5 fl.length c5) fl (.slice A8 xs.length c8) xs))
      case first =>
        rcases Nat.eq_zero_or_pos k with h0 | h0
        · subst h0
          go_wp2_with fail
          go_meet
          exact ⟨true, by first | rfl | simp, ST⟩
        · have hk0 : ((k : Int) == 0) = false := by rw [beq_eq_false_iff_ne]; omega
          have hk1 : ¬ (k : Int) = 0 := by omega
          have hk2 : ¬ k = 0 := by omega
          go_wp2_with (go_at_call 90; (with_reducible refine (l01Once_any B g v bs 4 _ ST.out.cu (by omega)).mono ?_); rintro e w3 ⟨y, rfl, hc3, hw3⟩)
          go_meet
          exact ⟨!y, by first | rfl | simp, hide (ST.out.next hw3 hc3 hgW hgX (by omega))⟩
      case rest =>
        obtain ⟨b, rfl, STC⟩ := hcut
        clear ST
        cases b
        · go_wp2
          go_roundw
          case rel => exact ⟨k + 1, xs, by omega, by go_num, by omega, STC⟩
          case measure => simp [intOf]; omega
        · go_wp2_with fail
          refine (l15Call_any B g v bs k _ STC.out.cu).mono ?_
          rintro e w6 ⟨x0, x1, x2, x3, x4, rfl, hc6, hw6⟩
          have ST6 := hide (STC.out.next hw6 hc6 hgW hgX (by omega))
          have HLN := hide (show xs.length ≤ 3 by omega)
          have hP6 := ST6.out.hP
          clear hc6 hw6 STC
          go_wp2_with (at_builtin; refine wpList_append_rd _ CallD.enc_len CallD.one (by rfl) _ _ 69 (by rfl) (X + 1) 129 i0 _ 40 Try.underlying69 hi hz0 hz1 hz2 rfl (by decide) _ _ (by rfl) (ST6.out.oc.below ((Below.refl _ _).alloc (Nat.le_refl _) _)) _ _ [(⟨x0, x1, x2, x3, x4⟩ : CallD)] (by rfl) (rd_new (enc := CallD.enc) _ (⟨x0, x1, x2, x3, x4⟩ : CallD) _) (by have := HLN.out; unfold maxLen; simp <;> omega) (by have := HLN.out; simp <;> omega) (by simp <;> omega) ?_; intro r9 w9 hown9 hgrow9 hblk9)
          have ha : Below w6.heap.size w6 (w6.alloc (.cells #[.int .i64 x0, .int .i64 x1, .int .i64 x2, .int .i64 x3, .int .i64 x4] 129)) := (Below.refl _ _).alloc (Nat.le_refl _) _
          have hb9 : Below (X + 1) w6 w9 := (ha.mono hP6).trans (Own.belowGrown (B := X + 1) (ST6.out.oc.below ha) hgrow9 (Nat.le_refl _) (by simp <;> omega))
          have ST9 := hide (ST6.out.grow hb9 (by omega) (by omega) (by omega) hown9)
          go_roundw
          case rel => exact ⟨k + 1, xs ++ [⟨x0, x1, x2, x3, x4⟩], by omega, by go_num, by simp <;> omega, ST9⟩
          case measure => simp [intOf]; omega
    · obtain rfl : k = fl.length := by omega
      have hwX : w.heap.size < X := by omega
      have hl := ST.out.hl
      have hwo : w.heap.size < wo.heap.size := by omega
      have hrow := ST.out.row
      rw [← HCS.out] at hrow
      have hbr := ST.out.cw.block w.heap.size hl0 (fun e => by have := Option.some.inj e; omega)
      have HZ := hide (Z.out.kept hbr)
      have hfo := ST.out.fo.1
      have hnb : (Value.slice A5 fl.length c5).ownBlock ≠ some w.heap.size := fun e => by have := (World.ownsRow.lt hfo _ e).1; omega
      have HWF := hide (show CurW g w wo from (CurW.ofBelow hb0).trans ST.out.cw)
      have HCU := hide ST.out.cu
      have y0 := (hrow 0 _ rfl).1; have r0x := (HZ.out 0 _ rfl).1; have t0 := (HZ.out 0 _ rfl).2
      have y1 := (hrow 1 _ rfl).1; have r1x := (HZ.out 1 _ rfl).1; have t1 := (HZ.out 1 _ rfl).2
      have y2 := (hrow 2 _ rfl).1; have r2x := (HZ.out 2 _ rfl).1; have t2 := (HZ.out 2 _ rfl).2
      have y3 := (hrow 3 _ rfl).1; have r3x := (HZ.out 3 _ rfl).1; have t3 := (HZ.out 3 _ rfl).2
      have y4 := (hrow 4 _ rfl).1; have r4x := (HZ.out 4 _ rfl).1; have t4 := (HZ.out 4 _ rfl).2
      have y5 := (hrow 5 _ rfl).1; have r5x := (HZ.out 5 _ rfl).1; have t5 := (HZ.out 5 _ rfl).2
      have y6 := (hrow 6 _ rfl).1; have r6x := (HZ.out 6 _ rfl).1; have t6 := (HZ.out 6 _ rfl).2
      have y7 := (hrow 7 _ rfl).1; have r7x := (HZ.out 7 _ rfl).1; have t7 := (HZ.out 7 _ rfl).2
      have y8 := (hrow 8 _ rfl).1; have r8x := (HZ.out 8 _ rfl).1; have t8 := (HZ.out 8 _ rfl).2
      have y9 := (hrow 9 _ rfl).1; have r9x := (HZ.out 9 _ rfl).1; have t9 := (HZ.out 9 _ rfl).2
      have y10 := (hrow 10 _ rfl).1; have r10x := (HZ.out 10 _ rfl).1; have t10 := (HZ.out 10 _ rfl).2
      have y11 := (hrow 11 _ rfl).1; have r11x := (HZ.out 11 _ rfl).1; have t11 := (HZ.out 11 _ rfl).2
      obtain ⟨W9, hW9⟩ : ∃ W, ((((((((((((wo.setCell ⟨w.heap.size, 0, none⟩ (.int .i64 m0)).setCell ⟨w.heap.size, 1, none⟩ (.slice A1 n1 c1)).setCell ⟨w.heap.size, 2, none⟩ (.slice A2 n2 c2)).setCell ⟨w.heap.size, 3, none⟩ (.slice A3 n3 c3)).setCell ⟨w.heap.size, 4, none⟩ (.slice A4 n4 c4)).setCell ⟨w.heap.size, 5, none⟩ (.slice A5 fl.length c5)).setCell ⟨w.heap.size, 6, none⟩ (.int .i64 r0)).setCell ⟨w.heap.size, 7, none⟩ (.bool r1)).setCell ⟨w.heap.size, 8, none⟩ (.int .i64 p)).setCell ⟨w.heap.size, 9, none⟩ (.int .i64 q)).setCell ⟨w.heap.size, 10, none⟩ (.int .i64 r)).setCell ⟨w.heap.size, 11, none⟩ (.slice A6 n6 c6)) = W := ⟨_, rfl⟩
      have HK := hide (show RowX W9 w.heap.size [.int .i64 m0, .slice A1 n1 c1, .slice A2 n2 c2, .slice A3 n3 c3, .slice A4 n4 c4, .slice A5 fl.length c5, .int .i64 r0, .bool r1, .int .i64 p, .int .i64 q, .int .i64 r, .slice A6 n6 c6] by rw [← hW9]; exact ((((((((((((HZ.out.store (o := 0) (u := .int .i64 m0) (by simp)).store (o := 1) (u := .slice A1 n1 c1) (by simp)).store (o := 2) (u := .slice A2 n2 c2) (by simp)).store (o := 3) (u := .slice A3 n3 c3) (by simp)).store (o := 4) (u := .slice A4 n4 c4) (by simp)).store (o := 5) (u := .slice A5 fl.length c5) (by simp)).store (o := 6) (u := .int .i64 r0) (by simp)).store (o := 7) (u := .bool r1) (by simp)).store (o := 8) (u := .int .i64 p) (by simp)).store (o := 9) (u := .int .i64 q) (by simp)).store (o := 10) (u := .int .i64 r) (by simp)).store (o := 11) (u := .slice A6 n6 c6) (by simp)))
      have HOF := hide (show Own W9 W0.heap.size 31 6 ShipD.enc (.slice A5 fl.length c5) fl by rw [← hW9]; exact ((((((((((((hfo.setFar hnb _).setFar hnb _).setFar hnb _).setFar hnb _).setFar hnb _).setFar hnb _).setFar hnb _).setFar hnb _).setFar hnb _).setFar hnb _).setFar hnb _).setFar hnb _))
      have HCF := hide (show Cur W9 B g v bs by rw [← hW9]; exact HCU.out.keep (((((((((((((Below.refl w.heap.size wo).setCell (p := ⟨w.heap.size, 0, none⟩) (Nat.le_refl _) _).setCell (p := ⟨w.heap.size, 1, none⟩) (Nat.le_refl _) _).setCell (p := ⟨w.heap.size, 2, none⟩) (Nat.le_refl _) _).setCell (p := ⟨w.heap.size, 3, none⟩) (Nat.le_refl _) _).setCell (p := ⟨w.heap.size, 4, none⟩) (Nat.le_refl _) _).setCell (p := ⟨w.heap.size, 5, none⟩) (Nat.le_refl _) _).setCell (p := ⟨w.heap.size, 6, none⟩) (Nat.le_refl _) _).setCell (p := ⟨w.heap.size, 7, none⟩) (Nat.le_refl _) _).setCell (p := ⟨w.heap.size, 8, none⟩) (Nat.le_refl _) _).setCell (p := ⟨w.heap.size, 9, none⟩) (Nat.le_refl _) _).setCell (p := ⟨w.heap.size, 10, none⟩) (Nat.le_refl _) _).setCell (p := ⟨w.heap.size, 11, none⟩) (Nat.le_refl _) _) hg)
      have HWG := hide (show CurW g w W9 by rw [← hW9]; exact ((((((((((((HWF.out.store (Nat.le_refl _) _).store (Nat.le_refl _) _).store (Nat.le_refl _) _).store (Nat.le_refl _) _).store (Nat.le_refl _) _).store (Nat.le_refl _) _).store (Nat.le_refl _) _).store (Nat.le_refl _) _).store (Nat.le_refl _) _).store (Nat.le_refl _) _).store (Nat.le_refl _) _).store (Nat.le_refl _) _))
      clear hfo hnb hrow hbr
      go_wp2
      try rw [hW9]
      clear hW9 HZ HWF y0 r0x t0 y1 r1x t1 y2 r2x t2 y3 r3x t3 y4 r4x t4 y5 r5x t5 y6 r6x t6 y7 r7x t7 y8 r8x t8 y9 r9x t9 y10 r10x t10 y11 r11x t11
      have k0 := (HK.out 0 _ rfl).1
      have k1 := (HK.out 1 _ rfl).1
      have k2 := (HK.out 2 _ rfl).1
      have k3 := (HK.out 3 _ rfl).1
      have k4 := (HK.out 4 _ rfl).1
      have k5 := (HK.out 5 _ rfl).1
      have k6 := (HK.out 6 _ rfl).1
      have k7 := (HK.out 7 _ rfl).1
      have k8 := (HK.out 8 _ rfl).1
      have k9 := (HK.out 9 _ rfl).1
      have k10 := (HK.out 10 _ rfl).1
      have k11 := (HK.out 11 _ rfl).1
      refine bodyPost_ret (v := .tuple #[.agg #[.int .i64 m0, .slice A1 n1 c1, .slice A2 n2 c2, .slice A3 n3 c3, .slice A4 n4 c4, .slice A5 fl.length c5, .int .i64 r0, .bool r1, .int .i64 p, .int .i64 q, .int .i64 r, .slice A6 n6 c6], .slice A8 xs.length c8]) (by simp [results, Try.results69, go_sem, k0, k1, k2, k3, k4, k5, k6, k7, k8, k9, k10, k11]) rfl ⟨m0, r0, p, q, r, r1, A1, A2, A3, A4, A5, A6, A8, n1, n2, n3, n4, n6, _, c1, c2, c3, c4, c5, c6, c8, fl, rfl, HOF.out.mono (by omega), hf0, hf1, HFI.out, HCF.out, HWG.out⟩
end Go.Proofs.Ytjfppjhlkeopnaa
