/- All other minutes: the program. No condition. -/
import Derived.Test.YtjfppjhlkeopnaaOtherW
namespace Go.Proofs.Ytjfppjhlkeopnaa
open Go.RowKit
set_option linter.unusedVariables false
theorem blkAlloc {w : World} {b : Nat} (o : Obj) (h : b < w.heap.size) : (w.alloc o).heap[b]? = w.heap[b]? := (show Below w.heap.size w (w.alloc o) from (Below.refl _ _).alloc (Nat.le_refl _) o).block b h
theorem blkNew {v v' : Value} {b n : Nat} (h : v.ownBlock ≠ some b) (hv : v'.ownBlock = v.ownBlock ∨ v'.ownBlock = some n) (hn : n ≠ b) : v'.ownBlock ≠ some b := by
  rcases hv with e | e
  · rw [e]; exact h
  · rw [e]; intro e2; exact hn (Option.some.inj e2)
theorem day_range {xs : List WindowD} (h : WinOk xs 2881) : (∀ k (hk : k < (xs ++ [dayEnd]).length), 0 ≤ (xs ++ [dayEnd])[k].start ∧ (xs ++ [dayEnd])[k].start ≤ (xs ++ [dayEnd])[k].fin ∧ (xs ++ [dayEnd])[k].fin < 2882) ∧ ∀ k, k ≤ (xs ++ [dayEnd]).length → 0 ≤ atTo (xs ++ [dayEnd]) k ∧ atTo (xs ++ [dayEnd]) k ≤ 2882 := by
  have h1 : ∀ k (hk : k < (xs ++ [dayEnd]).length), 0 ≤ (xs ++ [dayEnd])[k].start ∧ (xs ++ [dayEnd])[k].start ≤ (xs ++ [dayEnd])[k].fin ∧ (xs ++ [dayEnd])[k].fin < 2882 := by
    intro k hk
    rw [List.getElem_append]
    split
    · rename_i hl; have := h.1 k hl; omega
    · simp [dayEnd]
  refine ⟨h1, fun k hk => ?_⟩
  cases k with
  | zero => simp [atTo]
  | succ j => have := h1 j (by omega); rw [atTo_succ (show j < (xs ++ [dayEnd]).length by omega)]; omega
theorem day_rangeY {xs ys : List WindowD} (h : WinOk xs 2881) (e : xs ++ [dayEnd] = ys) : (∀ k (hk : k < ys.length), 0 ≤ ys[k].start ∧ ys[k].start ≤ ys[k].fin ∧ ys[k].fin < 2882) ∧ ∀ k, k ≤ ys.length → 0 ≤ atTo ys k ∧ atTo ys k ≤ 2882 := by
  subst e; exact day_range h
set_option maxRecDepth 100000 in
set_option maxHeartbeats 16000000 in
theorem impl_OtherWindows_any (v : Value) (xs : List WindowD) (w : World) (h1 : RdWindow w v xs) (hok : WinOk xs 2881) (hl : xs.length ≤ 2881) :
    Calls Try.prog 78 #[v] w fun e w' => ∃ u, e = .returned u ∧ Own w' w.heap.size 117 2 WindowD.enc u (otherL xs) ∧ Below w.heap.size w w' := by
  have HR1 := hide h1
  obtain ⟨A1, c1, rfl, hc1, hm1, h1⟩ := h1
  unfold maxLen at hm1
  clear h1
  have HOK := hide hok
  have HEND := hide (other_end xs)
  obtain ⟨ys, hys⟩ : ∃ ys, xs ++ [dayEnd] = ys := ⟨_, rfl⟩
  have hday := day_rangeY hok hys
  have hyl : ys.length = xs.length + 1 := by rw [← hys]; simp
  rw [hys] at HEND
  have HXL := hide (show ys.length ≤ 2882 by omega)
  have HL0 := hide hl
  have HXR := hide hday.1
  have HATR := hide hday.2
  have HYS := hide hys
  clear hok hl hday hys hyl
  obtain ⟨i0, hi, hz0, hz1, hz2⟩ := info_parts window_info
  go_enter Try.func78, Try.ntmps78
  go_upto_region 5 with (go_at_call 87; with_reducible refine (impl_WindowsOk_any _ xs _ ((RdB.keep HR1.out (B' := w.heap.size) (by repeat (first | exact Below.refl _ _ | assumption | refine Below.setCell ?_ (by first | omega | (simp <;> omega)) _ | refine Below.alloc ?_ (by first | omega | (simp <;> omega)) _ | refine below_drewN ?_ _ | refine Below.drew ?_ | refine Below.trans ?_ (Below.mono (by assumption) (by first | omega | (simp <;> omega))))) (Nat.le_refl _)).mono (by first | omega | (simp <;> omega))) HOK.out).mono ?_; rintro e w1 ⟨rfl, hb1⟩)
  have hs1 := hb1.size
  have HO0 := hide ((own_built0 (enc := WindowD.enc) w1 117 2).mono (base' := w.heap.size) hs1)
  have HB0 := hide (show Below w.heap.size w (w1.alloc (.cells #[] 117)) from (by repeat (first | exact Below.refl _ _ | assumption | refine Below.setCell ?_ (by first | omega | (simp <;> omega)) _ | refine Below.alloc ?_ (by first | omega | (simp <;> omega)) _ | refine below_drewN ?_ _ | refine Below.drew ?_ | refine Below.trans ?_ (Below.mono (by assumption) (by first | omega | (simp <;> omega))))))
  have hsz : (w1.alloc (.cells #[] 117)).heap.size = w1.heap.size + 1 := by simp
  generalize w1.alloc (.cells #[] 117) = W0 at HO0 HB0 hsz ⊢
  clear hb1
  have hsw := HB0.out.size
  have HSZ := hide hsz
  have hsz2 : w1.heap.size < W0.heap.size := by omega
  clear hsz
  go_wp2_with (first
    | (go_at_call 95; (with_reducible refine (cloneWindow_any _ xs _ ((HR1.out.keep HB0.out (Nat.le_refl _)).mono hsw) (by have := HL0.out; omega)).mono ?_); rintro e w2 ⟨u2, rfl, ho2, hb2⟩; have HO2 := hide ho2; have hs2 := hb2.size; obtain ⟨A2, c2, rfl, hc2, hm2, -⟩ := Own.rd WindowD.enc_len ho2)
    | (at_builtin; refine wpList_append_rd _ WindowD.enc_len WindowD.one (by rfl) _ _ 85 (by rfl) W0.heap.size 117 i0 (.agg #[.int .i64 0, .int .i64 0]) 16 Try.underlying85 hi hz0 hz1 hz2 rfl (by decide) _ _ (by rfl) (HO2.out.below ((Below.refl _ _).alloc (Nat.le_refl _) _)) _ _ [dayEnd] (by rfl) (rd_new (enc := WindowD.enc) _ dayEnd _) (by have := HL0.out; unfold maxLen; simp <;> omega) (by have := HL0.out; simp <;> omega) (by simp <;> omega) ?_; intro r5 W5 hown5 hgrow5 hblk5; rw [HYS.out] at hown5; have HY5 := hide (Own.rd WindowD.enc_len hown5); have HB5 := hide (show Below W0.heap.size w2 W5 from ((Below.refl _ _).alloc (by omega) _).trans (Own.belowGrown (B := W0.heap.size) (HO2.out.below ((Below.refl _ _).alloc (Nat.le_refl _) _)) hgrow5 (Nat.le_refl _) (by simp <;> omega))); have hpl := (fun b e => World.ownsRow.lt hown5 b e); obtain ⟨A5, c5, rfl, hc5, hm5, -⟩ := Own.rd WindowD.enc_len hown5))
  have hb05 : Below W0.heap.size W0 W5 := hb2.trans HB5.out
  have HO5 := hide (OwnB.below (hi := W0.heap.size) (B := W0.heap.size) ⟨HO0.out, fun g hg => by cases hg; exact hsz2⟩ hb05 (Nat.le_refl _)).1
  have HB6 := hide (show Below w.heap.size w W5 from HB0.out.trans (hb05.mono hsw))
  obtain ⟨A5x, c5x, e5, -, -, h5⟩ := HY5.out
  obtain ⟨b1, o1, e5x, hb1, hcell1⟩ := h5 (by have := HYS.out; rw [← this]; simp)
  obtain ⟨rfl, rfl⟩ : A5 = A5x ∧ c5 = c5x := by injection e5 with q1 q2 q3; exact ⟨q1, q3⟩
  subst e5x
  have hno : (Value.slice (some ⟨w1.heap.size, 0, none⟩) 0 0).ownBlock ≠ some b1 := fun e => by
    have h1 := (hpl b1 rfl).1
    have := Option.some.inj e
    simp only at this
    omega
  have HCE := hide hcell1
  unfold maxLen at hm5
  clear HO0 HB0 HY5 HB5 hb2 hb05 h5 e5 hcell1 HO2 hown5 hgrow5 hblk5 hpl
  have HO0 := HO5; have HB0 := HB6
  clear HO5 HB6
  go_loopw [3, 4, 17] (fun o a s wr => ∃ k : Nat, k ≤ ys.length ∧ s = .int .i64 k ∧ a = .int .i64 (atTo ys k) ∧ Hid (Own wr w.heap.size 117 2 WindowD.enc o (gapsTo ys k)) ∧ Below w.heap.size w wr ∧ Hid (wr.heap[b1]? = W5.heap[b1]?) ∧ b1 < wr.heap.size ∧ o.ownBlock ≠ some b1) (fun _ _ s _ => ys.length - (intOf s).toNat)
  case atStart => exact ⟨0, Nat.zero_le _, rfl, rfl, HO0, HB0.out, hide rfl, hb1, hno⟩
  case round =>
    clear HO0 HB0 hb1 hno
    obtain ⟨k, hk, rfl, rfl, HO, hbk, HBQ, hb1l, hof⟩ := hrel
    obtain ⟨wo, rfl⟩ : ∃ wo : World, wo = wr := ⟨_, rfl⟩
    have hbs := hbk.size
    have HAR := HATR.out k hk
    by_cases hlt : k < ys.length
    · have hlt' : (k : Int) < ys.length := by omega
      have e0 : wo.cell? ⟨b1, o1 + k * 2, none⟩ = some (.int .i64 ys[k].start) := by
        rw [World.cell?_of_block (a := ⟨b1, o1 + k * 2, none⟩) HBQ.out]; have := HCE.out k ys[k] (List.getElem?_eq_getElem hlt) 0 _ rfl; simpa using this
      have e1 : wo.cell? ⟨b1, o1 + k * 2 + 1, none⟩ = some (.int .i64 ys[k].fin) := by
        rw [World.cell?_of_block (a := ⟨b1, o1 + k * 2 + 1, none⟩) HBQ.out]; have := HCE.out k ys[k] (List.getElem?_eq_getElem hlt) 1 _ rfl; simpa using this
      have HLN := hide (show (gapsTo ys k).length ≤ 100000 by have := gapsTo_len ys k; have := HXL.out; omega)
      have hAT := atTo_succ hlt
      have hGP := gapsTo_succ hlt
      have hxr := HXR.out k hlt
      obtain ⟨x, hxe⟩ : ∃ x, ys[k] = x := ⟨_, rfl⟩
      rw [hxe] at e0 e1 hAT hGP hxr
      obtain ⟨at0, hat0⟩ : ∃ z, atTo ys k = z := ⟨_, rfl⟩
      rw [hat0] at hGP HAR ⊢
      obtain ⟨gp, hgp⟩ : ∃ z, gapsTo ys k = z := ⟨_, rfl⟩
      rw [hgp] at hGP HO HLN
      have HAT := hide hAT; have HGP := hide hGP
      clear hxe hat0 hgp hAT hGP
      obtain ⟨x0, x1⟩ := x
      simp only at e0 e1 hxr HAT HGP
      obtain ⟨hr0, hr1, hr2⟩ := hxr
      have hw1 : IntKind.i64.wrap (x1 + 1) = x1 + 1 := IntWalk.i64_in _ (by omega)
      have hw2 : IntKind.i64.wrap (x0 - 1) = x0 - 1 := IntWalk.i64_in _ (by omega)
      obtain ⟨A3, c3, rfl, hc3, hm3, -⟩ := Own.rd WindowD.enc_len HO.out
      unfold maxLen at hm3
      by_cases hgt : at0 < x0
      · have HG2 := hide (show gapsTo ys (k + 1) = gp ++ [⟨at0, x0 - 1⟩] by rw [HGP.out, if_pos hgt])
        clear HGP
        have hbx : Below wo.heap.size wo (wo.alloc (.cells #[.int .i64 x0, .int .i64 x1] 117)) := (Below.refl _ _).alloc (Nat.le_refl _) _
        have HOX := hide (HO.out.below hbx)
        have HBX := hide (bnext hbk hbx (Nat.le_refl _))
        go_upto_region 9 with fail
        obtain ⟨W1, hW1⟩ : ∃ W, wo.alloc (.cells #[.int .i64 x0, .int .i64 x1] 117) = W := ⟨_, rfl⟩
        have f0 : W1.cell? ⟨wo.heap.size, 0, none⟩ = some (.int .i64 x0) := by rw [← hW1]; simp [go_sem]
        have f1 : W1.cell? ⟨wo.heap.size, 1, none⟩ = some (.int .i64 x1) := by rw [← hW1]; simp [go_sem]
        have f2 : wo.heap.size < W1.heap.size := by rw [← hW1]; simp
        have HW1B := hide (show W1.heap[b1]? = wo.heap[b1]? by rw [← hW1]; exact blkAlloc _ hb1l)
        rw [hW1] at HOX HBX ⊢
        clear hW1 e0 e1 hbx
        have hs1 : w.heap.size ≤ W1.heap.size := by omega
        go_upto_region 10 with (at_builtin; refine wpList_append_rd _ WindowD.enc_len WindowD.one (by rfl) _ _ 85 (by rfl) w.heap.size 117 i0 (.agg #[.int .i64 0, .int .i64 0]) 16 Try.underlying85 hi hz0 hz1 hz2 rfl (by decide) _ _ (by rfl) (HOX.out.below ((Below.refl _ _).alloc (Nat.le_refl _) _)) _ _ [(⟨at0, x0 - 1⟩ : WindowD)] (by rfl) (rd_new (enc := WindowD.enc) _ (⟨at0, x0 - 1⟩ : WindowD) _) (by have := HLN.out; unfold maxLen; simp <;> omega) (by have := HLN.out; simp <;> omega) (by simp <;> omega) ?_; intro r9 w9 hown9 hgrow9 hblk9)
        have hb9 : Below w.heap.size w w9 := (HBX.out.trans (((Below.refl _ _).alloc (Nat.le_refl _) _).mono hs1)).trans (Own.belowGrown (B := w.heap.size) (HOX.out.below ((Below.refl _ _).alloc (Nat.le_refl _) _)) hgrow9 (Nat.le_refl _) (by simp <;> omega))
        have hgq : w9.heap[b1]? = (W1.alloc (.cells #[.int .i64 at0, .int .i64 (x0 - 1)] 117)).heap[b1]? := hgrow9.block b1 (by rw [World.size_alloc]; omega) (fun e => hof e.symm)
        have HQ9 := hide (show w9.heap[b1]? = W5.heap[b1]? from hgq.trans ((blkAlloc _ (by omega)).trans (HW1B.out.trans HBQ.out)))
        have hof9 : r9.ownBlock ≠ some b1 := blkNew hof hblk9 (by first | (rw [World.size_alloc]; omega) | omega)
        have HO9 := hide (show Own w9 w.heap.size 117 2 WindowD.enc r9 (gapsTo ys (k + 1)) by rw [HG2.out]; exact hown9)
        have hfx := appKeep (HOX.out.below ((Below.refl _ _).alloc (Nat.le_refl _) _)) hgrow9 (g := wo.heap.size) (by rw [World.size_alloc]; omega) (appFar HO.out)
        have g1 : w9.cell? ⟨wo.heap.size, 1, none⟩ = some (.int .i64 x1) := (World.cell?_of_block (a := ⟨wo.heap.size, 1, none⟩) hfx).trans (cellKeep ((Below.refl _ _).alloc (Nat.le_refl _) _) f1 f2)
        have hl9 : wo.heap.size < w9.heap.size := by have := hgrow9.size; (try simp at this); omega
        clear hown9 hgrow9 hblk9 f0 f1 hfx HOX HBX hgq HW1B
        go_wp2
        go_roundw
        case rel => exact ⟨k + 1, by omega, by go_num, by rw [HAT.out], HO9, hb9, HQ9, by omega, hof9⟩
        case measure => simp [intOf]; omega
      · have HG2 := hide (show gapsTo ys (k + 1) = gp by rw [HGP.out, if_neg hgt, List.append_nil])
        clear HGP
        have hbx : Below wo.heap.size wo (wo.alloc (.cells #[.int .i64 x0, .int .i64 x1] 117)) := (Below.refl _ _).alloc (Nat.le_refl _) _
        go_wp2
        go_roundw
        case rel => exact ⟨k + 1, by omega, by go_num, by rw [HAT.out], hide (by rw [HG2.out]; exact HO.out.below hbx), bnext hbk hbx (Nat.le_refl _), hide ((blkAlloc _ hb1l).trans HBQ.out), by simp; omega, hof⟩
        case measure => simp [intOf]; omega
    · obtain rfl : k = ys.length := by omega
      clear hlt
      go_wp2
      go_ret
      exact ⟨_, rfl, by rw [← HEND.out]; exact HO.out, hbk⟩
end Go.Proofs.Ytjfppjhlkeopnaa
