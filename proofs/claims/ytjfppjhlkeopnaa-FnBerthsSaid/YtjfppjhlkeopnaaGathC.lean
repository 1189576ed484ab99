/- Windows gathered: the program's closure and its walk over the minutes. No condition. -/
import Derived.Test.YtjfppjhlkeopnaaOtherI
import Derived.Test.YtjfppjhlkeopnaaGathS
import Derived.Test.YtjfppjhlkeopnaaWin2
import Derived.Test.YtjfppjhlkeopnaaDraw
import Derived.Deep.DeepCutAuto
import Derived.StillTailTactics
namespace Go.Proofs.Ytjfppjhlkeopnaa
open Go.RowKit
set_option linter.unusedVariables false
theorem CurW.growG {g : Nat} {w0 w w' : World} {base sz : Nat} {T : TypeId} {α : Type} {enc : α → List Value} {v : Value} {xs : List α} (h : CurW g w0 w) (ho : Own w base T sz enc v xs) (hb : w0.heap.size ≤ base) (hg : w.grownBy w' v.ownBlock) : CurW g w0 w' :=
  h.fresh (Own.belowGrown (B := w0.heap.size) ho hg hb h.size)
/-- what the closure reads: the number covered so far in block gC, the row of turns in block gB -/
structure GaSt (w : World) (P gB gC : Nat) (T : TypeId) (us : List WindowD) (m : Nat) : Prop where
  c : w.cell? ⟨gC, 0, none⟩ = some (.int .i64 (covTo (begAt us) m))
  f : w.frozen? ⟨gC, 0, none⟩ = false
  hC : gC < w.heap.size
  ne : gB ≠ gC
  ow : Own w P T 1 encI (.slice (some ⟨gB, 0, none⟩) 2882 2882) (rowG 2882 (begAt us))
theorem GaSt.below {w w' : World} {P gB gC : Nat} {T : TypeId} {us : List WindowD} {m : Nat} (h : GaSt w P gB gC T us m) (hb : Below w.heap.size w w') : GaSt w' P gB gC T us m :=
  ⟨cellKeep hb h.c h.hC, frozenKeep hb h.f h.hC, Nat.lt_of_lt_of_le h.hC hb.size, h.ne, h.ow.below hb⟩
theorem GaSt.far {w w' : World} {P gB gC : Nat} {T : TypeId} {us : List WindowD} {m : Nat} (h : GaSt w P gB gC T us m) {row : Option Nat} (hg : w.grownBy w' row) (h1 : row ≠ some gB) (h2 : row ≠ some gC) : GaSt w' P gB gC T us m := by
  have hk := hg.block gC h.hC (fun e => h2 e.symm)
  exact ⟨(World.cell?_of_block (a := ⟨gC, 0, none⟩) hk).trans h.c, (World.frozen?_of_block (a := ⟨gC, 0, none⟩) hk).trans h.f, Nat.lt_of_lt_of_le h.hC hg.size, h.ne, World.ownsRow.kept h.ow hg (.inr (fun e => h1 e.symm))⟩
theorem GaSt.step {w : World} {P gB gC : Nat} {T : TypeId} {us : List WindowD} {m : Nat} (h : GaSt w P gB gC T us m) : GaSt (w.setCell ⟨gC, 0, none⟩ (.int .i64 (covTo (begAt us) (m + 1)))) P gB gC T us (m + 1) :=
  ⟨by simp [go_sem, h.c], by simp [go_sem, h.f], by simpa [World.setCell] using h.hC, h.ne, h.ow.setFar (by intro e; exact h.ne (Option.some.inj e)) _⟩
set_option maxRecDepth 100000 in
set_option maxHeartbeats 8000000 in
theorem cloGath_any (P gB gC : Nat) (T : TypeId) (us : List WindowD) (hl : us.length ≤ 1048576) (m : Nat) (hm : m ≤ 2880) (w : World) (h : GaSt w P gB gC T us m) :
    Calls Try.prog 97 #[.int .i64 m, .pointer (some ⟨gC, 0, none⟩), .pointer (some ⟨gB, 0, none⟩)] w fun e w' => e = .returned (.bool (decide (0 < covTo (begAt us) (m + 1)))) ∧ GaSt w' P gB gC T us (m + 1) ∧ CurW gC w w' := by
  have hcr := cov_range us m
  have hcr1 := cov_range us (m + 1)
  have hbr := begAt_range us m
  have hml : m < 2882 := by omega
  have hml' : (m : Int) < 2882 := by omega
  have hfc := ownG_cell encI_len h.ow hml (z := .int .i64 (begAt us m)) rfl
  have r1 := hfc.1
  have y0 := h.c; have y1 := h.f; have hC := h.hC
  have hgB := (World.ownsRow.lt h.ow _ rfl).2
  have hsum : covTo (begAt us) (m + 1) = covTo (begAt us) m + begAt us m := rfl
  have HST := hide h
  obtain ⟨N, hN⟩ : ∃ N, covTo (begAt us) (m + 1) = N := ⟨_, rfl⟩
  obtain ⟨C, hCC⟩ : ∃ C, covTo (begAt us) m = C := ⟨_, rfl⟩
  obtain ⟨b, hb⟩ : ∃ b, begAt us m = b := ⟨_, rfl⟩
  rw [hN] at hcr1 hsum ⊢
  rw [hCC] at hcr hsum y0
  rw [hb] at hbr hsum r1
  have hw : IntKind.i64.wrap (C + b) = C + b := IntWalk.i64_in _ (by omega)
  have HSUM := hide hsum; have HNN := hide hN
  clear hfc h hN hCC hb hsum
  go_enter Try.func97, Try.ntmps97
  go_wp2
  go_still_tail 5, (by kernel_rfl)
  change wpList _ _ _ _ _ w.drew
  have hbd : Below w.heap.size w w.drew := Below.drew (Below.refl _ _)
  have HS2 := hide (HST.out.below hbd)
  have HW2 := hide (CurW.ofBelow (g := gC) hbd)
  have z0 := cellKeep hbd y0 hC; have z1 := frozenKeep hbd y1 hC
  generalize w.drew = W2 at HS2 HW2 z0 z1 ⊢
  clear hbd y0 y1 r1
  have HS3 := hide (HS2.out.step)
  rw [HNN.out, HSUM.out] at HS3
  have hgr : W2.grownBy (W2.setCell ⟨gC, 0, none⟩ (.int .i64 (C + b))) (some gC) := ⟨rfl, rfl, rfl, by simp [World.setCell], fun k hk hne => Below.heap_setCell W2 ⟨gC, 0, none⟩ (.int .i64 (C + b)) k (fun e => hne (by rw [e]))⟩
  have HW3 := hide (HW2.out.trans hgr)
  clear hgr
  go_wp2
  go_ret
  exact ⟨by rw [HSUM.out]; rfl, HS3.out, HW3.out⟩
-- windowsOf
theorem GaSt.store {w : World} {P gB gC : Nat} {T : TypeId} {us : List WindowD} {m g : Nat} (h : GaSt w P gB gC T us m) (h1 : g ≠ gB) (h2 : g ≠ gC) (o : Nat) (u : Value) : GaSt (w.setCell ⟨g, o, none⟩ u) P gB gC T us m :=
  h.far (row := some g) ⟨rfl, rfl, rfl, by simp [World.setCell], fun k hk hne => Below.heap_setCell w ⟨g, o, none⟩ u k (fun e => hne (by rw [e]))⟩ (fun e => h1 (Option.some.inj e)) (fun e => h2 (Option.some.inj e))
theorem GaSt.farO {α : Type} {w w' : World} {P gB gC base sz : Nat} {T T' : TypeId} {enc : α → List Value} {v : Value} {xs : List α} {us : List WindowD} {m : Nat} (h : GaSt w P gB gC T us m) (hg : w.grownBy w' v.ownBlock) (ho : Own w base T' sz enc v xs) (h1 : gB < base) (h2 : gC < base) : GaSt w' P gB gC T us m :=
  h.far hg (fun e => by have := (World.ownsRow.lt ho _ e).1; omega) (fun e => by have := (World.ownsRow.lt ho _ e).1; omega)
set_option maxRecDepth 100000 in
set_option maxHeartbeats 8000000 in
theorem winsGath_any (P gB gC : Nat) (T : TypeId) (us : List WindowD) (hl : us.length ≤ 1048576) (w : World) (hgB : gB < w.heap.size) (hgC : gC < w.heap.size) (hst : GaSt w P gB gC T us 0) :
    Calls Try.prog 96 #[.func (.func 97) #[] #[.pointer (some ⟨gC, 0, none⟩), .pointer (some ⟨gB, 0, none⟩)]] w fun e w' => ∃ v, e = .returned v ∧ Own w' w.heap.size 117 2 WindowD.enc v (gatherL us) ∧ CurW gC w w' := by
  have HFN := hide (gather_cov us)
  have HACC := hide (fun (k : Nat) (hk : k ≤ 2880) (wo : World) (h : GaSt wo P gB gC T us k) => cloGath_any P gB gC T us hl k hk wo h)
  have HST0 := hide (hst.below ((Below.refl _ _).alloc (Nat.le_refl _) (.cells #[] 117)))
  have HW0 := hide (CurW.ofBelow (g := gC) ((Below.refl w.heap.size w).alloc (Nat.le_refl _) (.cells #[] 117)))
  clear hst hl
  obtain ⟨acc, hacc⟩ : ∃ acc : Nat → Bool, (fun m => decide (0 < covTo (begAt us) (m + 1))) = acc := ⟨_, rfl⟩
  rw [hacc] at HFN
  have HAE := hide (fun k => (congrFun hacc k : decide (0 < covTo (begAt us) (k + 1)) = acc k))
  clear hacc
  obtain ⟨i0, hi, hz0, hz1, hz2⟩ := info_parts window_info
  go_enter Try.func96, Try.ntmps96
  go_wp2
  have hou0 := own_built0 (enc := WindowD.enc) w 117 2
  go_loopw [3, 4, 5] (fun o s4 s wr => ∃ k : Nat, k ≤ 2881 ∧ s = .int .i64 k ∧ s4 = .bool (openAt acc k) ∧ Hid (Own wr w.heap.size 117 2 WindowD.enc o (winsTo acc k)) ∧ Hid (GaSt wr P gB gC T us k) ∧ Hid (CurW gC w wr)) (fun _ _ s _ => 2881 - (intOf s).toNat)
  case atStart => exact ⟨0, Nat.zero_le _, rfl, rfl, hide hou0, HST0, HW0⟩
  case round =>
    clear hou0 HST0 HW0
    obtain ⟨k, hk, rfl, rfl, HO, HST, HW⟩ := hrel
    obtain ⟨wo, rfl⟩ : ∃ wo : World, wo = wr := ⟨_, rfl⟩
    have hbs := HW.out.size
    by_cases hlt : k ≤ 2880
    · have hlt' : (k : Int) ≤ 2880 := by omega
      have hlen := winsTo_len acc k
      have HCL := hide (HACC.out k hlt wo HST.out)
      rw [HAE.out k] at HCL
      rcases ch1 (acc k) with ga | ga
      · rw [ga] at HCL
        have HOP := hide (show openAt acc (k + 1) = true from ga)
        rcases ch1 (openAt acc k) with gl | gl
        · have HT := hide (winsTo_ext ga (by rw [open_last]; exact gl))
          obtain ⟨l, hl1, hl2⟩ := lastAt_iff.1 (show lastAt (winsTo acc k) ((k : Int) - 1) = true by rw [open_last]; exact gl)
          obtain ⟨xs, hxs⟩ : ∃ xs, winsTo acc k = xs := ⟨_, rfl⟩
          simp only [hxs] at HO hlen hl1 HT
          clear hl2 hxs ga
          obtain ⟨N, hN⟩ : ∃ N, xs.length = N := ⟨_, rfl⟩
          have hN0' : 0 < N := by omega
          have HN := hide hN
          obtain ⟨g, cap, rfl, hg0, hg1, hcp, hcm⟩ := Own.slot HO.out hN hN0'
          have hlN1 : l + 1 = N := by omega
          have HLN := hide hlN1
          have hlN : (l : Int) < N := by omega
          have hlN2 : l < N := by omega
          have hN0 : (0 : Int) < N := by omega
          have hN0n : 0 < N := by omega
          have hNk : N ≤ 2881 := by omega
          have hl1w : IntKind.i64.wrap ((N : Int) - 1) = (l : Int) := by rw [IntWalk.i64_in _ (by omega)]; omega
          have hlw2 : IntKind.i64.wrap (l : Int) = (l : Int) := IntWalk.i64_in _ (by omega)
          have hl1e : (N : Int) - 1 = l := by omega
          clear hl1 hN hlN1 hlen
          rw [gl]
          clear gl
          go_wp2_with (go_at_call 97; (with_reducible refine HCL.out.mono ?_); rintro e5 w5 ⟨rfl, hst5, hw5⟩; have hgl5 : g < w5.heap.size := Nat.lt_of_lt_of_le hg1 hw5.size; have HO5 := hide (HO.out.curw hw5 hgC); have HS5 := hide hst5; have HW5 := hide (HW.out.trans hw5); have hof := ownW_fin HO5.out HN.out hlN2; have r1 := hof.1; have r2 := hof.2; clear hof)
          have HO2 := hide (ownW_set HO5.out HN.out HLN.out (k : Int))
          rw [← HT.out] at HO2
          go_roundw
          case rel => exact ⟨k + 1, by omega, by go_num, by rw [HOP.out], HO2, hide (HS5.out.store (by omega) (by omega) _ _), hide (HW5.out.store hg0 _)⟩
          case measure => simp [intOf]; omega
        · have HT := hide (winsTo_new ga (by rw [open_last]; exact gl))
          obtain ⟨xs, hxs⟩ : ∃ xs, winsTo acc k = xs := ⟨_, rfl⟩
          simp only [hxs] at HO hlen HT
          clear hxs ga
          obtain ⟨A3, c3, hov, hc3, hm3, -⟩ := Own.rd WindowD.enc_len HO.out
          subst hov
          unfold maxLen at hm3
          obtain ⟨l, hl⟩ : ∃ l, xs.length = l := ⟨_, rfl⟩
          simp only [hl] at HO hlen hc3 ⊢
          obtain ⟨N, hN⟩ : ∃ N, l + 1 = N := ⟨_, rfl⟩
          have HNN := hide (show (xs ++ [(⟨k, 0⟩ : WindowD)]).length = N by simp; omega)
          have HLN := hide hN
          have hN0' : 0 < N := by omega
          have hlN : (l : Int) < N := by omega
          have hlN2 : l < N := by omega
          have hN0 : (0 : Int) < N := by omega
          have hN0n : 0 < N := by omega
          have hNk : N ≤ 2881 := by omega
          have hl1w : IntKind.i64.wrap ((N : Int) - 1) = (l : Int) := by rw [IntWalk.i64_in _ (by omega)]; omega
          have hlw2 : IntKind.i64.wrap (l : Int) = (l : Int) := IntWalk.i64_in _ (by omega)
          have hl1e : (N : Int) - 1 = l := by omega
          have HXL := hide hl
          clear hl hN
          rw [gl]
          clear gl
          go_wp2_with (first
            | (go_at_call 97; (with_reducible refine HCL.out.mono ?_); rintro e5 w5 ⟨rfl, hst5, hw5⟩; have HO5 := hide (HO.out.curw hw5 hgC); have HS5 := hide hst5; have HW5 := hide (HW.out.trans hw5); have hbs5 := HW5.out.size)
            | (at_builtin; refine wpList_append_rd _ WindowD.enc_len WindowD.one (by rfl) _ _ 85 (by rfl) w.heap.size 117 i0 (.agg #[.int .i64 0, .int .i64 0]) 16 Try.underlying85 hi hz0 hz1 hz2 rfl (by decide) _ _ (by rfl) (HO5.out.below ((Below.refl _ _).alloc (Nat.le_refl _) _)) _ _ [(⟨k, 0⟩ : WindowD)] (by rfl) (rd_new (enc := WindowD.enc) _ ⟨k, 0⟩ _) (by have := HXL.out; unfold maxLen; simp; omega) (by have := HXL.out; simp; omega) (by simp; omega) ?_; intro r9 w9 hown9 hgrow9 hblk9; have HS9 := hide ((HS5.out.below ((Below.refl _ _).alloc (Nat.le_refl _) _)).farO hgrow9 (HO5.out.below ((Below.refl _ _).alloc (Nat.le_refl _) _)) hgB hgC); have HW9 := hide (CurW.growG (HW5.out.alloc _) (HO5.out.below ((Below.refl _ _).alloc (Nat.le_refl _) _)) (Nat.le_refl _) hgrow9); obtain ⟨g9, cap9, rfl, hg90, hg91, hcp9, hcm9⟩ := Own.slot hown9 HNN.out hN0'; have hof := ownW_fin hown9 HNN.out hlN2; have r1 := hof.1; have r2 := hof.2; clear hof; have HO9 := hide hown9))
          have HO2 := hide (ownW_set HO9.out HNN.out HLN.out (k : Int))
          rw [setLast_new, ← HT.out] at HO2
          go_roundw
          case rel => exact ⟨k + 1, by omega, by go_num, by rw [HOP.out], HO2, hide (HS9.out.store (by omega) (by omega) _ _), hide (HW9.out.store hg90 _)⟩
          case measure => simp [intOf]; omega
      · rw [ga] at HCL
        have HT := hide (winsTo_skip ga)
        have HOP := hide (show openAt acc (k + 1) = false from ga)
        clear ga
        go_wp2_with (go_at_call 97; (with_reducible refine HCL.out.mono ?_); rintro e5 w5 ⟨rfl, hst5, hw5⟩)
        go_roundw
        case rel => exact ⟨k + 1, by omega, by go_num, by rw [HOP.out], hide (by rw [HT.out]; exact HO.out.curw hw5 hgC), hide hst5, hide (HW.out.trans hw5)⟩
        case measure => simp [intOf]; omega
    · obtain rfl : k = 2881 := by omega
      go_wp2
      go_ret
      exact ⟨_, rfl, by rw [← HFN.out]; exact HO.out, HW.out⟩
end Go.Proofs.Ytjfppjhlkeopnaa
