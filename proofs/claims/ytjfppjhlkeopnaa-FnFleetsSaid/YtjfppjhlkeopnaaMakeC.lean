/- A harbour and its calls made out of a row of bytes. No condition. -/
import Derived.Test.YtjfppjhlkeopnaaCase
namespace Go.Proofs.Ytjfppjhlkeopnaa
open Go.RowKit
set_option linter.unusedVariables false
def MakeCallsRes (w : World) (e : Ending) (w' : World) : Prop := ∃ (m0 r0 p q r : Int) (r1 : Bool) (A1 A2 A3 A4 A5 A6 A7 : Option Addr) (n1 n2 n3 n4 n6 n7 c1 c2 c3 c4 c5 c6 c7 : Nat) (fl : List ShipD), e = .returned (.tuple #[.agg #[.int .i64 m0, .slice A1 n1 c1, .slice A2 n2 c2, .slice A3 n3 c3, .slice A4 n4 c4, .slice A5 fl.length c5, .int .i64 r0, .bool r1, .int .i64 p, .int .i64 q, .int .i64 r, .slice A6 n6 c6], .slice A7 n7 c7]) ∧ Own w' w.heap.size 31 6 ShipD.enc (.slice A5 fl.length c5) fl ∧ 1 ≤ fl.length ∧ fl.length ≤ 3 ∧ FleetIs fl ∧ Below w.heap.size w w'
set_option maxRecDepth 100000 in
set_option maxHeartbeats 16000000 in
theorem MakeCalls_any (v : Value) (bs : List Int) (w : World) (h : RdB w w.heap.size 1 enc8 v bs) (hby : Byt bs) (hn : bs.length ≤ 1048576) :
    Calls Try.prog 31 #[v] w (MakeCallsRes w) := by
  have HR := hide h; have HBY := hide hby; have HN := hide hn; clear hby hn
  obtain ⟨A0, cc1, rfl, hc1, hm1, -⟩ := h
  go_enter Try.func31, Try.ntmps31
  go_wp2_with fail
  generalize hW0 : w.alloc (.cells #[.int .i64 0, .slice none 0 0, .slice none 0 0, .slice none 0 0, .slice none 0 0, .slice none 0 0, .int .i64 0, .bool false, .int .i64 0, .int .i64 0, .int .i64 0, .slice none 0 0] 68) = W0
  have hb0 : Below w.heap.size w W0 := by rw [← hW0]; exact (Below.refl _ _).alloc (Nat.le_refl _) _
  have hl0 : w.heap.size < W0.heap.size := by rw [← hW0]; simp
  have Z := hide (show RowX W0 w.heap.size zeroH by rw [← hW0]; exact RowX.new w zeroH _)
  clear hW0
  refine (l01New_any _ bs _ ((HR.out.keep hb0 (Nat.le_refl _)).mono hb0.size) HBY.out HN.out).mono ?_
  rintro e w2 ⟨g, rfl, hg, hcur, hb2⟩
  have HC := hide hcur; clear hcur
  have hs2 := hb2.size
  go_wp2_with fail
  refine (l16Case_any _ g _ bs _ HC.out).mono ?_
  rintro e wo ⟨m0, r0, p, q, r, r1, A1, A2, A3, A4, A5, A6, A7, n1, n2, n3, n4, n6, n7, c1, c2, c3, c4, c5, c6, c7, fl, rfl, hfo, hf0, hf1, hfi, hc3, hw3⟩
  have hb3 : Below W0.heap.size W0 wo := hb2.trans (hw3.below hg hs2)
  have hs3 := hw3.size
  have HBW := hide (show Below w.heap.size w wo from hb0.trans (hb3.mono (by omega)))
  have HZ := hide (Z.out.kept (hb3.block w.heap.size hl0))
  have hnb : (Value.slice A5 fl.length c5).ownBlock ≠ some w.heap.size := fun e => by have := (World.ownsRow.lt hfo _ e).1; omega
  have HFI := hide hfi
  have hwo : w.heap.size < wo.heap.size := by omega
  have r0x := (HZ.out 0 _ rfl).1; have t0 := (HZ.out 0 _ rfl).2
  have r1x := (HZ.out 1 _ rfl).1; have t1 := (HZ.out 1 _ rfl).2
  have r2x := (HZ.out 2 _ rfl).1; have t2 := (HZ.out 2 _ rfl).2
  have r3x := (HZ.out 3 _ rfl).1; have t3 := (HZ.out 3 _ rfl).2
  have r4x := (HZ.out 4 _ rfl).1; have t4 := (HZ.out 4 _ rfl).2
  have r5x := (HZ.out 5 _ rfl).1; have t5 := (HZ.out 5 _ rfl).2
  have r6x := (HZ.out 6 _ rfl).1; have t6 := (HZ.out 6 _ rfl).2
  have r7x := (HZ.out 7 _ rfl).1; have t7 := (HZ.out 7 _ rfl).2
  have r8x := (HZ.out 8 _ rfl).1; have t8 := (HZ.out 8 _ rfl).2
  have r9x := (HZ.out 9 _ rfl).1; have t9 := (HZ.out 9 _ rfl).2
  have r10x := (HZ.out 10 _ rfl).1; have t10 := (HZ.out 10 _ rfl).2
  have r11x := (HZ.out 11 _ rfl).1; have t11 := (HZ.out 11 _ rfl).2
  obtain ⟨W9, hW9⟩ : ∃ W, ((((((((((((wo.setCell ⟨w.heap.size, 0, none⟩ (.int .i64 m0)).setCell ⟨w.heap.size, 1, none⟩ (.slice A1 n1 c1)).setCell ⟨w.heap.size, 2, none⟩ (.slice A2 n2 c2)).setCell ⟨w.heap.size, 3, none⟩ (.slice A3 n3 c3)).setCell ⟨w.heap.size, 4, none⟩ (.slice A4 n4 c4)).setCell ⟨w.heap.size, 5, none⟩ (.slice A5 fl.length c5)).setCell ⟨w.heap.size, 6, none⟩ (.int .i64 r0)).setCell ⟨w.heap.size, 7, none⟩ (.bool r1)).setCell ⟨w.heap.size, 8, none⟩ (.int .i64 p)).setCell ⟨w.heap.size, 9, none⟩ (.int .i64 q)).setCell ⟨w.heap.size, 10, none⟩ (.int .i64 r)).setCell ⟨w.heap.size, 11, none⟩ (.slice A6 n6 c6)) = W := ⟨_, rfl⟩
  have HK := hide (show RowX W9 w.heap.size [.int .i64 m0, .slice A1 n1 c1, .slice A2 n2 c2, .slice A3 n3 c3, .slice A4 n4 c4, .slice A5 fl.length c5, .int .i64 r0, .bool r1, .int .i64 p, .int .i64 q, .int .i64 r, .slice A6 n6 c6] by rw [← hW9]; exact ((((((((((((HZ.out.store (o := 0) (u := .int .i64 m0) (by simp)).store (o := 1) (u := .slice A1 n1 c1) (by simp)).store (o := 2) (u := .slice A2 n2 c2) (by simp)).store (o := 3) (u := .slice A3 n3 c3) (by simp)).store (o := 4) (u := .slice A4 n4 c4) (by simp)).store (o := 5) (u := .slice A5 fl.length c5) (by simp)).store (o := 6) (u := .int .i64 r0) (by simp)).store (o := 7) (u := .bool r1) (by simp)).store (o := 8) (u := .int .i64 p) (by simp)).store (o := 9) (u := .int .i64 q) (by simp)).store (o := 10) (u := .int .i64 r) (by simp)).store (o := 11) (u := .slice A6 n6 c6) (by simp)))
  have HOF := hide (show Own W9 w2.heap.size 31 6 ShipD.enc (.slice A5 fl.length c5) fl by rw [← hW9]; exact ((((((((((((hfo.setFar hnb _).setFar hnb _).setFar hnb _).setFar hnb _).setFar hnb _).setFar hnb _).setFar hnb _).setFar hnb _).setFar hnb _).setFar hnb _).setFar hnb _).setFar hnb _))
  have HWG := hide (show Below w.heap.size w W9 by rw [← hW9]; exact ((((((((((((HBW.out.setCell (p := ⟨w.heap.size, 0, none⟩) (Nat.le_refl _) _).setCell (p := ⟨w.heap.size, 1, none⟩) (Nat.le_refl _) _).setCell (p := ⟨w.heap.size, 2, none⟩) (Nat.le_refl _) _).setCell (p := ⟨w.heap.size, 3, none⟩) (Nat.le_refl _) _).setCell (p := ⟨w.heap.size, 4, none⟩) (Nat.le_refl _) _).setCell (p := ⟨w.heap.size, 5, none⟩) (Nat.le_refl _) _).setCell (p := ⟨w.heap.size, 6, none⟩) (Nat.le_refl _) _).setCell (p := ⟨w.heap.size, 7, none⟩) (Nat.le_refl _) _).setCell (p := ⟨w.heap.size, 8, none⟩) (Nat.le_refl _) _).setCell (p := ⟨w.heap.size, 9, none⟩) (Nat.le_refl _) _).setCell (p := ⟨w.heap.size, 10, none⟩) (Nat.le_refl _) _).setCell (p := ⟨w.heap.size, 11, none⟩) (Nat.le_refl _) _))
  clear hfo hnb hc3 hw3 hfi hb3 hb2
  go_wp2
  try rw [hW9]
  clear hW9 HZ r0x t0 r1x t1 r2x t2 r3x t3 r4x t4 r5x t5 r6x t6 r7x t7 r8x t8 r9x t9 r10x t10 r11x t11
  have k0 := (HK.out 0 _ rfl).1
  have k1 := (HK.out 1 _ rfl).1
  have k2 := (HK.out 2 _ rfl).1
  have k3 := (HK.out 3 _ rfl).1
  have k4 := (HK.out 4 _ rfl).1
  have k5 := (HK.out 5 _ rfl).1
  have k6 := (HK.out 6 _ rfl).1
  have k7 := (HK.out 7 _ rfl).1
  have k8 := (HK.out 8 _ rfl).1
  have k9 := (HK.out 9 _ rfl).1
  have k10 := (HK.out 10 _ rfl).1
  have k11 := (HK.out 11 _ rfl).1
  refine bodyPost_ret (v := .tuple #[.agg #[.int .i64 m0, .slice A1 n1 c1, .slice A2 n2 c2, .slice A3 n3 c3, .slice A4 n4 c4, .slice A5 fl.length c5, .int .i64 r0, .bool r1, .int .i64 p, .int .i64 q, .int .i64 r, .slice A6 n6 c6], .slice A7 n7 c7]) (by simp [results, Try.results31, go_sem, k0, k1, k2, k3, k4, k5, k6, k7, k8, k9, k10, k11]) rfl ⟨m0, r0, p, q, r, r1, A1, A2, A3, A4, A5, A6, A7, n1, n2, n3, n4, n6, n7, c1, c2, c3, c4, c5, c6, c7, fl, rfl, HOF.out.mono (by omega), hf0, hf1, HFI.out, HWG.out⟩
end Go.Proofs.Ytjfppjhlkeopnaa
