/- All other minutes: both texts. No condition. -/
import Derived.Test.YtjfppjhlkeopnaaFreeL
import Derived.Test.YtjfppjhlkeopnaaFind
import Derived.Deep.DeepCutAuto
namespace Go.Proofs.Ytjfppjhlkeopnaa
open Go.RowKit
set_option linter.unusedVariables false
theorem atTo_succ {xs : List WindowD} {k : Nat} (h : k < xs.length) : atTo xs (k + 1) = xs[k].fin + 1 := by rw [atTo, getD_at h]
theorem gapsTo_succ {xs : List WindowD} {k : Nat} (h : k < xs.length) : gapsTo xs (k + 1) = gapsTo xs k ++ if atTo xs k < xs[k].start then [⟨atTo xs k, xs[k].start - 1⟩] else [] := by rw [gapsTo, getD_at h]
/-- a block that is no row's is as it was behind an append -/
theorem appKeep {α : Type} {w w' : World} {base sz g : Nat} {T : TypeId} {enc : α → List Value} {v : Value} {xs : List α} (h : Own w base T sz enc v xs) (hg : w.grownBy w' v.ownBlock) (hl : g < w.heap.size) (hne : v.ownBlock ≠ some g) : w'.heap[g]? = w.heap[g]? := hg.block g hl (fun e => hne e.symm)
theorem appFar {α : Type} {w : World} {base sz : Nat} {T : TypeId} {enc : α → List Value} {v : Value} {xs : List α} (h : Own w base T sz enc v xs) : v.ownBlock ≠ some w.heap.size := fun e => by have := (World.ownsRow.lt h _ e).2; omega
set_option maxRecDepth 100000 in
set_option maxHeartbeats 16000000 in
theorem spec_OtherWindows_any (v : Value) (xs : List WindowD) (w : World) (h1 : RdWindow w v xs) (hok : WinOk xs 2881) (hl : xs.length ≤ 2881) :
    Calls Try.prog 76 #[v] w fun e w' => ∃ u, e = .returned u ∧ Own w' w.heap.size 117 2 WindowD.enc u (otherL xs) ∧ Below w.heap.size w w' := by
  have HR1 := hide h1
  obtain ⟨A1, c1, rfl, hc1, hm1, h1⟩ := h1
  unfold maxLen at hm1
  have H1 := hide h1; clear h1
  have HOK := hide hok
  have HXL := hide hl; have HXR := hide hok.1
  have HATR := hide (fun (k : Nat) (hk : k ≤ xs.length) => atTo_range hok k hk)
  clear hok hl
  obtain ⟨i0, hi, hz0, hz1, hz2⟩ := info_parts window_info
  go_enter Try.func76, Try.ntmps76
  go_upto_region 5 with (go_at_call 93; with_reducible refine (spec_WindowsOk_any _ xs _ ((RdB.keep HR1.out (B' := w.heap.size) (by repeat (first | exact Below.refl _ _ | assumption | refine Below.setCell ?_ (by first | omega | (simp <;> omega)) _ | refine Below.alloc ?_ (by first | omega | (simp <;> omega)) _ | refine below_drewN ?_ _ | refine Below.drew ?_ | refine Below.trans ?_ (Below.mono (by assumption) (by first | omega | (simp <;> omega))))) (Nat.le_refl _)).mono (by first | omega | (simp <;> omega))) HOK.out).mono ?_; rintro e w1 ⟨rfl, hb1⟩)
  have hs1 := hb1.size
  have HO0 := hide ((own_built0 (enc := WindowD.enc) w1 117 2).mono (base' := w.heap.size) hs1)
  have HB0 := hide (show Below w.heap.size w (w1.alloc (.cells #[] 117)) from (by repeat (first | exact Below.refl _ _ | assumption | refine Below.setCell ?_ (by first | omega | (simp <;> omega)) _ | refine Below.alloc ?_ (by first | omega | (simp <;> omega)) _ | refine below_drewN ?_ _ | refine Below.drew ?_ | refine Below.trans ?_ (Below.mono (by assumption) (by first | omega | (simp <;> omega))))))
  generalize w1.alloc (.cells #[] 117) = W0 at HO0 HB0 ⊢
  clear hb1
  go_wp2_with fail
  go_loopw [3, 4, 13] (fun o a s wr => ∃ k : Nat, k ≤ xs.length ∧ s = .int .i64 k ∧ a = .int .i64 (atTo xs k) ∧ Hid (Own wr w.heap.size 117 2 WindowD.enc o (gapsTo xs k)) ∧ Below w.heap.size w wr) (fun _ _ s _ => xs.length - (intOf s).toNat)
  case atStart => exact ⟨0, Nat.zero_le _, rfl, rfl, HO0, HB0.out⟩
  case round =>
    clear HO0 HB0
    obtain ⟨k, hk, rfl, rfl, HO, hbk⟩ := hrel
    obtain ⟨wo, rfl⟩ : ∃ wo : World, wo = wr := ⟨_, rfl⟩
    have hbs := hbk.size
    have HAR := HATR.out k hk
    by_cases hlt : k < xs.length
    · have hlt' : (k : Int) < xs.length := by omega
      obtain ⟨b1, o1, rfl, hb1, hcell1⟩ := H1.out (by omega)
      have e0 : wo.cell? ⟨b1, o1 + k * 2, none⟩ = some (.int .i64 xs[k].start) := by
        rw [hbk.cell (p := ⟨b1, _, none⟩) hb1]; have := hcell1 k xs[k] (List.getElem?_eq_getElem hlt) 0 _ rfl; simpa using this
      have e1 : wo.cell? ⟨b1, o1 + k * 2 + 1, none⟩ = some (.int .i64 xs[k].fin) := by
        rw [hbk.cell (p := ⟨b1, _, none⟩) hb1]; have := hcell1 k xs[k] (List.getElem?_eq_getElem hlt) 1 _ rfl; simpa using this
      clear hcell1
      have HLN := hide (show (gapsTo xs k).length ≤ 100000 by have := gapsTo_len xs k; have := HXL.out; omega)
      have hAT := atTo_succ hlt
      have hGP := gapsTo_succ hlt
      have hxr := HXR.out k hlt
      obtain ⟨x, hxe⟩ : ∃ x, xs[k] = x := ⟨_, rfl⟩
      rw [hxe] at e0 e1 hAT hGP hxr
      obtain ⟨at0, hat0⟩ : ∃ z, atTo xs k = z := ⟨_, rfl⟩
      rw [hat0] at hGP HAR ⊢
      obtain ⟨gp, hgp⟩ : ∃ z, gapsTo xs k = z := ⟨_, rfl⟩
      rw [hgp] at hGP HO HLN
      have HAT := hide hAT; have HGP := hide hGP
      clear hxe hat0 hgp hAT hGP
      obtain ⟨x0, x1⟩ := x
      simp only at e0 e1 hxr HAT HGP
      obtain ⟨hr0, hr1, hr2⟩ := hxr
      have hw1 : IntKind.i64.wrap (x1 + 1) = x1 + 1 := IntWalk.i64_in _ (by omega)
      have hw2 : IntKind.i64.wrap (x0 - 1) = x0 - 1 := IntWalk.i64_in _ (by omega)
      obtain ⟨A3, c3, rfl, hc3, hm3, -⟩ := Own.rd WindowD.enc_len HO.out
      unfold maxLen at hm3
      by_cases hgt : at0 < x0
      · have HG2 := hide (show gapsTo xs (k + 1) = gp ++ [⟨at0, x0 - 1⟩] by rw [HGP.out, if_pos hgt])
        clear HGP
        have hbx : Below wo.heap.size wo (wo.alloc (.cells #[.int .i64 x0, .int .i64 x1] 117)) := (Below.refl _ _).alloc (Nat.le_refl _) _
        have HOX := hide (HO.out.below hbx)
        have HBX := hide (bnext hbk hbx (Nat.le_refl _))
        go_upto_region 9 with fail
        obtain ⟨W1, hW1⟩ : ∃ W, wo.alloc (.cells #[.int .i64 x0, .int .i64 x1] 117) = W := ⟨_, rfl⟩
        have f0 : W1.cell? ⟨wo.heap.size, 0, none⟩ = some (.int .i64 x0) := by rw [← hW1]; simp [go_sem]
        have f1 : W1.cell? ⟨wo.heap.size, 1, none⟩ = some (.int .i64 x1) := by rw [← hW1]; simp [go_sem]
        have f2 : wo.heap.size < W1.heap.size := by rw [← hW1]; simp
        rw [hW1] at HOX HBX ⊢
        clear hW1 e0 e1 hbx
        have hs1 : w.heap.size ≤ W1.heap.size := by omega
        go_upto_region 10 with (at_builtin; refine wpList_append_rd _ WindowD.enc_len WindowD.one (by rfl) _ _ 85 (by rfl) w.heap.size 117 i0 (.agg #[.int .i64 0, .int .i64 0]) 16 Try.underlying85 hi hz0 hz1 hz2 rfl (by decide) _ _ (by rfl) (HOX.out.below ((Below.refl _ _).alloc (Nat.le_refl _) _)) _ _ [(⟨at0, x0 - 1⟩ : WindowD)] (by rfl) (rd_new (enc := WindowD.enc) _ (⟨at0, x0 - 1⟩ : WindowD) _) (by have := HLN.out; unfold maxLen; simp <;> omega) (by have := HLN.out; simp <;> omega) (by simp <;> omega) ?_; intro r9 w9 hown9 hgrow9 hblk9)
        have hb9 : Below w.heap.size w w9 := (HBX.out.trans (((Below.refl _ _).alloc (Nat.le_refl _) _).mono hs1)).trans (Own.belowGrown (B := w.heap.size) (HOX.out.below ((Below.refl _ _).alloc (Nat.le_refl _) _)) hgrow9 (Nat.le_refl _) (by simp <;> omega))
        have hb19 : Below wo.heap.size W1 w9 ∨ True := .inr trivial
        have HO9 := hide (show Own w9 w.heap.size 117 2 WindowD.enc r9 (gapsTo xs (k + 1)) by rw [HG2.out]; exact hown9)
        have hfx := appKeep (HOX.out.below ((Below.refl _ _).alloc (Nat.le_refl _) _)) hgrow9 (g := wo.heap.size) (by rw [World.size_alloc]; omega) (appFar HO.out)
        have g1 : w9.cell? ⟨wo.heap.size, 1, none⟩ = some (.int .i64 x1) := (World.cell?_of_block (a := ⟨wo.heap.size, 1, none⟩) hfx).trans (cellKeep ((Below.refl _ _).alloc (Nat.le_refl _) _) f1 f2)
        have hl9 : wo.heap.size < w9.heap.size := by have := hgrow9.size; (try simp at this); omega
        clear hown9 hgrow9 hblk9 f0 f1 hfx HOX HBX
        go_wp2
        go_roundw
        case rel => exact ⟨k + 1, by omega, by go_num, by rw [HAT.out], HO9, hb9⟩
        case measure => simp [intOf]; omega
      · have HG2 := hide (show gapsTo xs (k + 1) = gp by rw [HGP.out, if_neg hgt, List.append_nil])
        clear HGP
        have hbx : Below wo.heap.size wo (wo.alloc (.cells #[.int .i64 x0, .int .i64 x1] 117)) := (Below.refl _ _).alloc (Nat.le_refl _) _
        go_wp2
        go_roundw
        case rel => exact ⟨k + 1, by omega, by go_num, by rw [HAT.out], hide (by rw [HG2.out]; exact HO.out.below hbx), bnext hbk hbx (Nat.le_refl _)⟩
        case measure => simp [intOf]; omega
    · obtain rfl : k = xs.length := by omega
      clear hlt
      obtain ⟨A3, c3, rfl, hc3, hm3, -⟩ := Own.rd WindowD.enc_len HO.out
      unfold maxLen at hm3
      have HLN := hide (show (gapsTo xs xs.length).length ≤ 100000 by have := gapsTo_len xs xs.length; have := HXL.out; omega)
      obtain ⟨at0, hat0⟩ : ∃ z, atTo xs xs.length = z := ⟨_, rfl⟩
      by_cases hle : at0 ≤ 2880
      · have HFN := hide (show otherL xs = gapsTo xs xs.length ++ [⟨at0, 2880⟩] by unfold otherL; rw [hat0, if_pos hle])
        rw [hat0] at HAR ⊢
        clear hat0
        go_wp2_with (at_builtin; refine wpList_append_rd _ WindowD.enc_len WindowD.one (by rfl) _ _ 85 (by rfl) w.heap.size 117 i0 (.agg #[.int .i64 0, .int .i64 0]) 16 Try.underlying85 hi hz0 hz1 hz2 rfl (by decide) _ _ (by rfl) (HO.out.below ((Below.refl _ _).alloc (Nat.le_refl _) _)) _ _ [(⟨at0, 2880⟩ : WindowD)] (by rfl) (rd_new (enc := WindowD.enc) _ (⟨at0, 2880⟩ : WindowD) _) (by have := HLN.out; unfold maxLen; simp <;> omega) (by have := HLN.out; simp <;> omega) (by simp <;> omega) ?_; intro r9 w9 hown9 hgrow9 hblk9)
        have hb9 : Below w.heap.size w w9 := (hbk.trans (((Below.refl _ _).alloc (Nat.le_refl _) _).mono hbs)).trans (Own.belowGrown (B := w.heap.size) (HO.out.below ((Below.refl _ _).alloc (Nat.le_refl _) _)) hgrow9 (Nat.le_refl _) (by simp <;> omega))
        go_ret
        exact ⟨_, rfl, by rw [HFN.out]; exact hown9, hb9⟩
      · have HFN := hide (show otherL xs = gapsTo xs xs.length by unfold otherL; rw [hat0, if_neg hle, List.append_nil])
        rw [hat0] at HAR ⊢
        clear hat0
        go_wp2
        go_ret
        exact ⟨_, rfl, by rw [HFN.out]; exact HO.out, hbk⟩
set_option maxRecDepth 100000 in
set_option maxHeartbeats 4000000 in
theorem cloneWindow_any (v : Value) (xs : List WindowD) (w : World) (h : RdWindow w v xs) (hn : xs.length ≤ 1048576) :
    Calls Try.prog 95 #[v] w fun e w' => ∃ u, e = .returned u ∧ Own w' w.heap.size 117 2 WindowD.enc u xs ∧ Below w.heap.size w w' := by
  have HR := hide h
  obtain ⟨A1, c1, rfl, hc1, hm1, h1⟩ := h
  unfold maxLen at hm1
  clear h1
  obtain ⟨i0, hi, hz0, hz1, hz2⟩ := info_parts window_info
  go_enter Try.func95, Try.ntmps95
  go_wp2_with (first
    | (refine wpList_make_own _ rfl _ _ _ rfl w.heap.size 117 i0 _ 2 Try.underlying85 hi hz0 hz1 _ _ _ xs.length rfl rfl rfl (by rw [hz2]; omega) (by unfold maxLen; omega) (Nat.le_refl _) ?_; intro w1 hown hg)
    | (at_builtin; refine wpList_append_rd _ WindowD.enc_len WindowD.one (by rfl) _ _ 85 (by rfl) w.heap.size 117 i0 (.agg #[.int .i64 0, .int .i64 0]) 16 Try.underlying85 hi hz0 hz1 hz2 rfl (by decide) _ _ (by rfl) (show Own w1 w.heap.size 117 2 WindowD.enc _ ([] : List WindowD) from hown) _ _ _ (by rfl) (RdB.keep HR.out (((Below.refl _ _).grown hg (Nat.le_refl _) (by simp)) : Below w.heap.size w w1) (Nat.le_refl _)) (by unfold maxLen; simp; omega) (by simp; omega) (by have := hg.size; omega) ?_; intro v' w2 hown2 hgrow hblk))
  go_ret
  have hb1 : Below w.heap.size w w1 := (Below.refl _ _).grown hg (Nat.le_refl _) (by simp)
  exact ⟨_, rfl, by simpa using hown2, hb1.trans (Own.belowGrown (B := w.heap.size) (show Own w1 w.heap.size 117 2 WindowD.enc _ ([] : List WindowD) from hown) hgrow (Nat.le_refl _) hb1.size)⟩
end Go.Proofs.Ytjfppjhlkeopnaa
