/- A chamber and lengths out of bytes. No condition. -/
import Derived.Test.YtjmffhpfmfmnlaaDraw
import Derived.Test.YtjmffhpfmfmnlaaPrefix
namespace Go.Proofs.Ytjmffhpfmfmnlaa
open Go.RowKit
set_option linter.unusedVariables false
def ChRes (B g : Nat) (v : Value) (bs : List Int) (w : World) (e : Ending) (w' : World) : Prop := ∃ x0 x1 x2 : Int, e = .returned (.agg #[.int .i64 x0, .int .i64 x1, .int .i64 x2]) ∧ 150 ≤ x0 ∧ x0 ≤ 399 ∧ 1 ≤ x1 ∧ x1 ≤ 2 ∧ 10 ≤ x2 ∧ x2 ≤ 39 ∧ Cur w' B g v bs ∧ CurW g w w'
set_option maxRecDepth 100000 in
set_option maxHeartbeats 8000000 in
theorem l10Chamber_any (B g : Nat) (v : Value) (bs : List Int) (w : World) (h : Cur w B g v bs) :
    Calls Try.prog 64 #[.pointer (some ⟨g, 0, none⟩)] w (ChRes B g v bs w) := by
  have hg := h.lt
  have HC := hide h; clear h
  go_enter Try.func64, Try.ntmps64
  go_wp2_with fail
  generalize hW0 : w.alloc (.cells #[.int .i64 0, .int .i64 0, .int .i64 0] 26) = W0
  have hb0 : Below w.heap.size w W0 := by rw [← hW0]; exact (Below.refl _ _).alloc (Nat.le_refl _) _
  have hl0 : w.heap.size < W0.heap.size := by rw [← hW0]; simp
  have z0 : W0.cell? ⟨w.heap.size, 0, none⟩ = some (.int .i64 0) := by rw [← hW0]; simp [go_sem]
  have z1 : W0.cell? ⟨w.heap.size, 1, none⟩ = some (.int .i64 0) := by rw [← hW0]; simp [go_sem]
  have z2 : W0.cell? ⟨w.heap.size, 2, none⟩ = some (.int .i64 0) := by rw [← hW0]; simp [go_sem]
  have q0 : W0.frozen? ⟨w.heap.size, 0, none⟩ = false := by rw [← hW0]; simp [go_sem]
  have q1 : W0.frozen? ⟨w.heap.size, 1, none⟩ = false := by rw [← hW0]; simp [go_sem]
  have q2 : W0.frozen? ⟨w.heap.size, 2, none⟩ = false := by rw [← hW0]; simp [go_sem]
  clear hW0
  refine (l01Below_any B g v bs 250 _ (HC.out.keep hb0 hg) (by omega)).mono ?_
  rintro e w1 ⟨xa, rfl, xa0, -, -, xa1, hca, hwa⟩
  have HCA := hide hca; clear hca
  replace xa1 := xa1 (by omega)
  go_wp2_with fail
  refine (l01Below_any B g v bs 2 _ HCA.out (by omega)).mono ?_
  rintro e w2 ⟨xb, rfl, xb0, -, -, xb1, hcb, hwb⟩
  have HCB := hide hcb; clear hcb
  replace xb1 := xb1 (by omega)
  go_wp2_with fail
  refine (l01Below_any B g v bs 30 _ HCB.out (by omega)).mono ?_
  rintro e w3 ⟨xc, rfl, xc0, -, -, xc1, hcc, hwc⟩
  have HCC := hide hcc; clear hcc
  replace xc1 := xc1 (by omega)
  have hw3 : CurW g W0 w3 := (hwa.trans hwb).trans hwc
  have hbk := hw3.block w.heap.size hl0 (fun e => by have := Option.some.inj e; omega)
  have y0 := (World.cell?_of_block (a := ⟨w.heap.size, 0, none⟩) hbk).trans z0
  have y1 := (World.cell?_of_block (a := ⟨w.heap.size, 1, none⟩) hbk).trans z1
  have y2 := (World.cell?_of_block (a := ⟨w.heap.size, 2, none⟩) hbk).trans z2
  have r0 := (World.frozen?_of_block (a := ⟨w.heap.size, 0, none⟩) hbk).trans q0
  have r1 := (World.frozen?_of_block (a := ⟨w.heap.size, 1, none⟩) hbk).trans q1
  have r2 := (World.frozen?_of_block (a := ⟨w.heap.size, 2, none⟩) hbk).trans q2
  have hl3 : w.heap.size < w3.heap.size := Nat.lt_of_lt_of_le hl0 hw3.size
  clear z0 z1 z2 q0 q1 q2 hbk
  have hwf : CurW g w w3 := (CurW.ofBelow hb0).trans hw3
  go_wp2
  refine bodyPost_ret (v := .agg #[.int .i64 (150 + xa), .int .i64 (1 + xb), .int .i64 (10 + xc)]) (by simp [results, Try.results64, go_sem, y0, y1, y2, r0, r1, r2]) rfl ⟨_, _, _, rfl, by omega, by omega, by omega, by omega, by omega, by omega, ?_, ?_⟩
  · exact HCC.out.keep ((((Below.refl w.heap.size w3).setCell (by simp) _).setCell (by simp) _).setCell (by simp) _) hg
  · exact ((hwf.store (Nat.le_refl _) _).store (Nat.le_refl _) _).store (Nat.le_refl _) _
def K2 (w : World) (p : Nat) (x0 x1 x2 : Int) : Prop := w.cell? ⟨p, 0, none⟩ = some (.int .i64 x0) ∧ w.cell? ⟨p, 1, none⟩ = some (.int .i64 x1) ∧ w.cell? ⟨p, 2, none⟩ = some (.int .i64 x2)
theorem BoxK2.keepW {p : Nat} {w w' : World} {x0 x1 x2 : Int} (h : K2 w p x0 x1 x2) {r : Option Nat} (hw : w.grownBy w' r) (hp : p < w.heap.size) (hne : r ≠ some p) : K2 w' p x0 x1 x2 := by
  have hb := hw.block p hp (fun e => hne e.symm)
  exact ⟨(World.cell?_of_block (a := ⟨p, 0, none⟩) hb).trans h.1, (World.cell?_of_block (a := ⟨p, 1, none⟩) hb).trans h.2.1, (World.cell?_of_block (a := ⟨p, 2, none⟩) hb).trans h.2.2⟩
def ChamRes (w : World) (e : Ending) (w' : World) : Prop := ∃ (x0 x1 x2 : Int) (vl : Value) (ns : List Int), e = .returned (.tuple #[.agg #[.int .i64 x0, .int .i64 x1, .int .i64 x2], vl]) ∧ 150 ≤ x0 ∧ x0 ≤ 399 ∧ 1 ≤ x1 ∧ x1 ≤ 2 ∧ 10 ≤ x2 ∧ x2 ≤ 39 ∧ Own w' w.heap.size 3 1 encI vl ns ∧ ns.length ≤ 5 ∧ (∀ n ∈ ns, 20 ≤ n ∧ n ≤ 149) ∧ Below w.heap.size w w'
set_option maxRecDepth 100000 in
set_option maxHeartbeats 16000000 in
theorem MakeChamber_any (v : Value) (bs : List Int) (w : World) (h : RdB w w.heap.size 1 enc8 v bs) (hby : Byt bs) (hn : bs.length ≤ 1048576) :
    Calls Try.prog 27 #[v] w (ChamRes w) := by
  have HR := hide h; have HBY := hide hby; have HN := hide hn; clear hby hn
  obtain ⟨A1, cc1, rfl, hc1, hm1, h1⟩ := h
  unfold maxLen at hm1
  clear h1
  obtain ⟨i0, hi, hz0, hz1, hz2⟩ := info_parts int_info
  go_enter Try.func27, Try.ntmps27
  go_wp2_with fail
  generalize hW0 : w.alloc (.cells #[.int .i64 0, .int .i64 0, .int .i64 0] 26) = W0
  have hb0 : Below w.heap.size w W0 := by rw [← hW0]; exact (Below.refl _ _).alloc (Nat.le_refl _) _
  have hl0 : w.heap.size < W0.heap.size := by rw [← hW0]; simp
  have z0 : W0.cell? ⟨w.heap.size, 0, none⟩ = some (.int .i64 0) := by rw [← hW0]; simp [go_sem]
  have z1 : W0.cell? ⟨w.heap.size, 1, none⟩ = some (.int .i64 0) := by rw [← hW0]; simp [go_sem]
  have z2 : W0.cell? ⟨w.heap.size, 2, none⟩ = some (.int .i64 0) := by rw [← hW0]; simp [go_sem]
  have q0 : W0.frozen? ⟨w.heap.size, 0, none⟩ = false := by rw [← hW0]; simp [go_sem]
  have q1 : W0.frozen? ⟨w.heap.size, 1, none⟩ = false := by rw [← hW0]; simp [go_sem]
  have q2 : W0.frozen? ⟨w.heap.size, 2, none⟩ = false := by rw [← hW0]; simp [go_sem]
  clear hW0
  refine (l01New_any _ bs _ ((RdB.keep HR.out hb0 (Nat.le_refl _)).mono hb0.size) HBY.out HN.out).mono ?_
  rintro e w2 ⟨g, rfl, hg, hcur, hb2⟩
  have HC := hide hcur; clear hcur
  go_wp2_with fail
  refine (l10Chamber_any _ g _ bs _ HC.out).mono ?_
  rintro e w3 ⟨x0, x1, x2, rfl, a0, a1, a2, a3, a4, a5, hcur, hw3⟩
  have HC3 := hide hcur; clear hcur
  have hw3s := hw3.size
  have hg3 := HC3.out.lt
  go_wp2_with fail
  generalize hW4 : (w3.alloc (.cells #[.int .i64 x0, .int .i64 x1, .int .i64 x2] 26)).alloc (.cells #[] 3) = W4
  have hb4 : Below w3.heap.size w3 W4 := by rw [← hW4]; exact (by repeat (first | exact Below.refl _ _ | assumption | refine Below.setCell ?_ (by first | omega | (simp <;> omega)) _ | refine Below.alloc ?_ (by first | omega | (simp <;> omega)) _ | refine below_drewN ?_ _ | refine Below.drew ?_ | refine Below.trans ?_ (Below.mono (by assumption) (by first | omega | (simp <;> omega)))))
  have hs4 : W4.heap.size = w3.heap.size + 2 := by rw [← hW4]; simp
  have k4 : W4.cell? ⟨w3.heap.size, 0, none⟩ = some (.int .i64 x0) ∧ W4.cell? ⟨w3.heap.size, 1, none⟩ = some (.int .i64 x1) ∧ W4.cell? ⟨w3.heap.size, 2, none⟩ = some (.int .i64 x2) := by rw [← hW4]; simp [go_sem]
  have ho4 : Own W4 (w3.heap.size + 1) 3 1 encI (.slice (some ⟨w3.heap.size + 1, 0, none⟩) 0 0) [] := by
    have := own_built0 (enc := encI) (w3.alloc (.cells #[.int .i64 x0, .int .i64 x1, .int .i64 x2] 26)) 3 1
    rw [hW4] at this; simpa using this
  clear hW4
  refine (l01Below_any _ g _ bs 6 _ (HC3.out.keep hb4 hg3) (by omega)).mono ?_
  rintro e w5 ⟨n0, rfl, n00, -, -, n01, hcur, hw5⟩
  replace n01 := n01 (by omega)
  have HC5 := hide hcur; clear hcur
  have hw5s := hw5.size
  have K5 := hide (BoxK2.keepW k4 hw5 (by omega) (fun e => by have := Option.some.inj e; omega))
  have HO5 := hide (ho4.curw hw5 (by omega))
  clear k4 ho4
  -- what lies below the cursor's block stands
  have hbg5 : Below W0.heap.size W0 w5 := hb2.trans ((hw3.below hg (Nat.le_of_lt (Nat.lt_of_le_of_lt hg HC.out.lt))).trans ((hb4.mono (by omega)).trans (hw5.below hg (by omega))))
  obtain ⟨n, rfl⟩ : ∃ n : Nat, n0 = n := ⟨n0.toNat, by omega⟩
  obtain ⟨P, hP⟩ : ∃ P, w3.heap.size = P := ⟨_, rfl⟩
  rw [hP] at K5 HO5 ⊢
  have hPs : P + 2 ≤ w5.heap.size := by omega
  have hgP : g < P := by omega
  have hWg : W0.heap.size ≤ g := hg
  clear hP hw3s hw5s hs4 hb4 hw3 hw5
  go_wp2
  go_loopw [6, 7] (fun o s wr => ∃ (k : Nat) (xs : List Int), k + xs.length ≤ 5 ∧ s = .int .i64 k ∧ Hid (Own wr (P + 1) 3 1 encI o xs) ∧ Hid (∀ n ∈ xs, 20 ≤ n ∧ n ≤ 149) ∧ Hid (Cur wr W0.heap.size g (.slice A1 bs.length cc1) bs) ∧ Hid (K2 wr P x0 x1 x2) ∧ P + 2 ≤ wr.heap.size ∧ Below W0.heap.size W0 wr) (fun _ s _ => (intOf s).toNat)
  case atStart => exact ⟨n, [], by simp <;> omega, rfl, HO5, hide (by simp), HC5, K5, hPs, hbg5⟩
  case round =>
    clear HC5 K5 HO5 hPs hbg5 HC HC3
    obtain ⟨k, xs, hk, rfl, HO, HX, HC, HK, hPs, hbk⟩ := hrel
    obtain ⟨wo, rfl⟩ : ∃ wo : World, wo = wr := ⟨_, rfl⟩
    rcases Nat.eq_zero_or_pos k with h0 | h0
    · subst h0
      have y0 := cellKeep hbk z0 hl0; have y1 := cellKeep hbk z1 hl0; have y2 := cellKeep hbk z2 hl0
      have r0 := frozenKeep hbk q0 hl0; have r1 := frozenKeep hbk q1 hl0; have r2 := frozenKeep hbk q2 hl0
      obtain ⟨k0, k1, k2⟩ := HK.out
      have hPl : P < wo.heap.size := by omega
      obtain ⟨A3, c3, rfl, hc3, hm3, -⟩ := Own.rd encI_len HO.out
      have hbw : Below w.heap.size w wo := hb0.trans (hbk.mono (by omega))
      go_wp2
      refine bodyPost_ret (v := .tuple #[.agg #[.int .i64 x0, .int .i64 x1, .int .i64 x2], .slice A3 xs.length c3]) (by simp [results, Try.results27, go_sem, y0, y1, y2, r0, r1, r2]) rfl ⟨x0, x1, x2, _, xs, rfl, a0, a1, a2, a3, a4, a5, ?_, by omega, HX.out, ?_⟩
      · refine Own.mono (base := P + 1) ?_ (by omega)
        refine Own.setFar (Own.setFar (Own.setFar HO.out ?_ _) ?_ _) ?_ _
        all_goals (intro e; have := (World.ownsRow.lt HO.out _ e).1; simp at this; omega)
      · exact ((hbw.setCell (p := ⟨w.heap.size, 0, none⟩) (Nat.le_refl _) _).setCell (p := ⟨w.heap.size, 1, none⟩) (Nat.le_refl _) _).setCell (p := ⟨w.heap.size, 2, none⟩) (Nat.le_refl _) _
    · obtain ⟨j, rfl⟩ : ∃ j, k = j + 1 := ⟨k - 1, by omega⟩
      have hkp : (0 : Int) < ((j + 1 : Nat) : Int) := by omega
      have hjw : IntKind.i64.wrap (((j + 1 : Nat) : Int) - 1) = (j : Int) := by rw [IntWalk.i64_in _ (by omega)]; omega
      have hje : ((j + 1 : Nat) : Int) - 1 = (j : Int) := by omega
      have hjw2 : IntKind.i64.wrap (j : Int) = (j : Int) := IntWalk.i64_in _ (by omega)
      obtain ⟨A3, c3, rfl, hc3, hm3, -⟩ := Own.rd encI_len HO.out
      unfold maxLen at hm3
      go_wp2_with fail
      refine (l01Below_any _ g _ bs 130 _ HC.out (by omega)).mono ?_
      rintro e w6 ⟨x, rfl, x00, -, -, x01, hcur, hw6⟩
      replace x01 := x01 (by omega)
      have HC6 := hide hcur; clear hcur
      have hs6 := hw6.size
      have HK6 := hide (BoxK2.keepW HK.out hw6 (by omega) (fun e => by have := Option.some.inj e; omega))
      have HO6 := hide (HO.out.curw hw6 (by omega))
      have hbk6 : Below W0.heap.size W0 w6 := hbk.trans (hw6.below hWg (by omega))
      have HLN := hide (show xs.length ≤ 5 by omega)
      go_wp2_with (at_builtin; refine wpList_append_rd _ encI_len encI_one (by rfl) _ _ 24 (by rfl) (P + 1) 3 i0 (.int .i64 0) 8 Try.underlying24 hi hz0 hz1 hz2 rfl (by decide) _ _ (by rfl) (HO6.out.below ((Below.refl _ _).alloc (Nat.le_refl _) _)) _ _ [20 + x] (by rfl) (rd_new (enc := encI) _ (20 + x) _) (by have := HLN.out; unfold maxLen; simp <;> omega) (by have := HLN.out; simp <;> omega) (by simp <;> omega) ?_; intro r9 w9 hown9 hgrow9 hblk9)
      have ha : Below w6.heap.size w6 (w6.alloc (.cells #[.int .i64 (20 + x)] 3)) := (Below.refl _ _).alloc (Nat.le_refl _) _
      have hog := HO6.out.below ha
      have hb9 : Below (P + 1) w6 w9 := (ha.mono (by omega)).trans (Own.belowGrown (B := P + 1) hog hgrow9 (Nat.le_refl _) (by simp <;> omega))
      go_roundw
      case rel => exact ⟨j, xs ++ [20 + x], by simp <;> omega, by first | rfl | go_num, hide hown9, hide (fun n hn => by rcases List.mem_append.1 hn with hn | hn; exact HX.out n hn; (simp at hn; omega)), hide (HC6.out.keep hb9 (by omega)), hide ⟨cellKeep hb9 HK6.out.1 (by omega), cellKeep hb9 HK6.out.2.1 (by omega), cellKeep hb9 HK6.out.2.2 (by omega)⟩, by have := hb9.size; omega, hbk6.trans (hb9.mono (by omega))⟩
      case measure => simp [intOf] <;> omega
end Go.Proofs.Ytjmffhpfmfmnlaa
