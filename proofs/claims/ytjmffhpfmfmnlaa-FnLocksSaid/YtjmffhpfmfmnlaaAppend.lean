/- The spec's copy of a plan, and one locking more. No condition. -/
import Derived.Test.YtjmffhpfmfmnlaaAppendL
import Derived.Deep.RegionHeld3
namespace Go.Proofs.Ytjmffhpfmfmnlaa
open Go.RowKit
set_option linter.unusedVariables false
set_option maxRecDepth 100000 in
set_option maxHeartbeats 16000000 in
theorem l11Copy_any (v : Value) (rs : List LockR) (w : World) (h2 : RdLk w w.heap.size v rs) (hn : rs.length ≤ 1048576) (hnx : ∀ r ∈ rs, r.ships.length ≤ 1048576) :
    Calls Try.prog 79 #[v] w fun e w' => ∃ v' rs', e = .returned v' ∧ LkOut w' w.heap.size v' rs' ∧ rs'.map LockR.d = rs.map LockR.d ∧ Below w.heap.size w w' := by
  obtain ⟨h2, hsh⟩ := h2
  obtain ⟨A2, c2, rfl, hc2, hm2, h2⟩ := h2
  unfold maxLen at hm2
  have H2 := hide h2; clear h2
  have HSH := hide hsh; clear hsh
  have HNR := hide hnx; clear hnx
  obtain ⟨i0, hi, hz0, hz1, hz2⟩ := info_parts int_info
  obtain ⟨j0, hj, hy0, hy1, hy2⟩ := info_parts lock_info
  go_enter Try.func79, Try.ntmps79
  go_wp2
  have hou0 := own_built0 (enc := LockR.enc) w 68 3
  have hb0 : Below w.heap.size w (w.alloc (.cells #[] 68)) := (Below.refl _ _).alloc (Nat.le_refl _) _
  go_loopw [3, 9] (fun o s wr => ∃ (k : Nat) (rs' : List LockR), k ≤ rs.length ∧ s = .int .i64 k ∧ Hid (LkOut wr w.heap.size o rs') ∧ Hid (rs'.map LockR.d = (rs.take k).map LockR.d) ∧ Below w.heap.size w wr) (fun _ s _ => rs.length - (intOf s).toNat)
  case atStart => exact ⟨0, [], Nat.zero_le _, rfl, hide (LkOut.start hou0), hide rfl, hb0⟩
  case round =>
    clear hou0 hb0
    obtain ⟨k, rs', hk, rfl, HO, HD, hbk⟩ := hrel
    obtain ⟨wo, rfl⟩ : ∃ wo : World, wo = wr := ⟨_, rfl⟩
    have hbs := hbk.size
    by_cases hlt : k < rs.length
    · obtain ⟨b2, o2, rfl, hb2, hcell2⟩ := H2.out (by omega)
      have hbkw : Below w.heap.size w wo := hbk
      have e0 : wo.cell? ⟨b2, o2 + k * 3, none⟩ = some (.int .i64 rs[k].start) := by
        rw [hbkw.cell (p := ⟨b2, _, none⟩) hb2]; have := hcell2 k rs[k] (List.getElem?_eq_getElem hlt) 0 _ rfl; simpa using this
      have e1 : wo.cell? ⟨b2, o2 + k * 3 + 1, none⟩ = some (.bool rs[k].up) := by
        rw [hbkw.cell (p := ⟨b2, _, none⟩) hb2]; have := hcell2 k rs[k] (List.getElem?_eq_getElem hlt) 1 _ rfl; simpa using this
      have e2 : wo.cell? ⟨b2, o2 + k * 3 + 2, none⟩ = some (rs[k].v) := by
        rw [hbkw.cell (p := ⟨b2, _, none⟩) hb2]; have := hcell2 k rs[k] (List.getElem?_eq_getElem hlt) 2 _ rfl; simpa using this
      have HS := hide (HSH.out rs[k] (List.getElem_mem hlt))
      have HNX := hide (HNR.out rs[k] (List.getElem_mem hlt))
      have HTK := hide (show (rs.take (k + 1)).map LockR.d = (rs.take k).map LockR.d ++ [rs[k].d] by rw [List.take_succ_eq_append_getElem hlt, List.map_append]; rfl)
      have hlt' : (k : Int) < rs.length := by omega
      obtain ⟨r, hr⟩ : ∃ r, rs[k] = r := ⟨_, rfl⟩
      rw [hr] at e0 e1 e2 HS HNX HTK
      clear hr hcell2
      obtain ⟨sK, uK, vK, xs⟩ := r
      have hrl : rs'.length = k := by have := congrArg List.length HD.out; simp at this; omega
      have HRL := hide hrl; clear hrl
      replace HS := hide (show RdB w w.heap.size 1 encI vK xs from HS.out)
      replace HNX := hide (show xs.length ≤ 1048576 from HNX.out)
      simp only at e0 e1 e2
      obtain ⟨A4, c4, rfl, hc4, hm4, -⟩ := HS.out
      unfold maxLen at hm4
      go_wp2_with fail
      generalize hW0 : (wo.alloc (.cells #[.int .i64 sK, .bool uK, .slice A4 xs.length c4] 68)) = W0
      have hB0 : Below wo.heap.size wo W0 := by rw [← hW0]; exact (by repeat (first | exact Below.refl _ _ | assumption | refine Below.setCell ?_ (by first | omega | (simp <;> omega)) _ | refine Below.alloc ?_ (by first | omega | (simp <;> omega)) _ | refine below_drewN ?_ _ | refine Below.drew ?_ | refine Below.trans ?_ (Below.mono (by assumption) (by first | omega | (simp <;> omega)))))
      have hl0 : wo.heap.size < W0.heap.size := by rw [← hW0]; simp
      have hx0 : W0.cell? ⟨wo.heap.size, 0, none⟩ = some (.int .i64 sK) := by rw [← hW0]; simp [go_sem]
      have hx1 : W0.cell? ⟨wo.heap.size, 1, none⟩ = some (.bool uK) := by rw [← hW0]; simp [go_sem]
      have hx2 : W0.cell? ⟨wo.heap.size, 2, none⟩ = some (.slice A4 xs.length c4) := by rw [← hW0]; simp [go_sem]
      clear hW0 e0 e1 e2
      have hbw : Below w.heap.size w W0 := bnext hbk hB0 (Nat.le_refl _)
      have HRS := hide ((RdB.keep HS.out (bnext hbkw hB0 (Nat.le_refl _)) (Nat.le_refl _)).mono (show w.heap.size ≤ W0.heap.size by have := hbkw.size; have := hB0.size; omega))
      have HOW := hide (HO.out.below hB0)
      have hsb : w.heap.size ≤ W0.heap.size := hbw.size
      have keepS : ∀ w', Below W0.heap.size W0 w' → w'.cell? ⟨wo.heap.size, 0, none⟩ = some (.int .i64 sK) ∧ w'.cell? ⟨wo.heap.size, 1, none⟩ = some (.bool uK) ∧ w'.cell? ⟨wo.heap.size, 2, none⟩ = some (.slice A4 xs.length c4) ∧ wo.heap.size < w'.heap.size ∧ Below w.heap.size w w' := fun w' hB => ⟨cellKeep hB hx0 hl0, cellKeep hB hx1 hl0, cellKeep hB hx2 hl0, Nat.lt_of_lt_of_le hl0 hB.size, hbw.trans (hB.mono hsb)⟩
      obtain ⟨A5, c5, rfl, hc5, hm5, -⟩ := Own.rd LockR.enc_len HOW.out.1
      unfold maxLen at hm5
      have hne5 : ∀ w5 : World, Below W0.heap.size W0 w5 → (Value.slice A5 rs'.length c5).ownBlock ≠ some wo.heap.size := fun w5 _ e => by have := (World.ownsRow.lt HO.out.1 _ e).2; omega
      have HRSW := HRS
      go_region_held3 (fun w' => w'.cell? ⟨wo.heap.size, 0, none⟩ = some (.int .i64 sK) ∧ w'.cell? ⟨wo.heap.size, 1, none⟩ = some (.bool uK) ∧ w'.cell? ⟨wo.heap.size, 2, none⟩ = some (.slice A4 xs.length c4) ∧ wo.heap.size < w'.heap.size ∧ Below w.heap.size w w')
        (first
          | exact keepS _ (Below.drew (Below.refl _ _))
          | exact keepS _ hB7
          | exact keepS _ (Below.alloc (Below.refl _ _) (Nat.le_refl _) _)
          | exact keepS _ (Below.alloc (Below.drew (Below.refl _ _)) (Nat.le_refl _) _)
          | exact keepS _ (hB7.alloc hB7.size _)
          | exact hS9)
        (first
          | (obtain ⟨q0, q1, q2, q3, qB⟩ := (by with_reducible assumption : _ ∧ _); refine step_append_rd _ encI_len encI_one (by rfl) _ _ 24 (by rfl) W0.heap.size 3 i0 (.int .i64 0) 8 Try.underlying24 hi hz0 hz1 hz2 rfl (by decide) (.slice (some ⟨_, 0, none⟩) 0 0) [] (by rfl) (by first | exact (own_empty (enc := encI) W0 3 1) | exact (own_empty (enc := encI) W0 3 1).below (Below.drew (Below.refl _ _)) | exact Own.below (own_empty (enc := encI) W0 3 1) (by repeat (first | exact Below.refl _ _ | assumption | refine Below.setCell ?_ (by first | omega | (simp <;> omega)) _ | refine Below.alloc ?_ (by first | omega | (simp <;> omega)) _ | refine below_drewN ?_ _ | refine Below.drew ?_ | refine Below.trans ?_ (Below.mono (by assumption) (by first | omega | (simp <;> omega)))))) W0.heap.size (.slice A4 xs.length c4) xs (by rfl) (RdB.keep HRS.out (by repeat (first | exact Below.refl _ _ | assumption | refine Below.setCell ?_ (by first | omega | (simp <;> omega)) _ | refine Below.alloc ?_ (by first | omega | (simp <;> omega)) _ | refine below_drewN ?_ _ | refine Below.drew ?_ | refine Below.trans ?_ (Below.mono (by assumption) (by first | omega | (simp <;> omega))))) (Nat.le_refl _)) (by have := HNX.out; unfold maxLen; simp; omega) (by have := HNX.out; simp; omega) (by simp) ?_; intro v7 w7 hown7 hgrow7 hblk7; have hB7 : Below W0.heap.size W0 w7 := Below.trans (by repeat (first | exact Below.refl _ _ | assumption | refine Below.setCell ?_ (by first | omega | (simp <;> omega)) _ | refine Below.alloc ?_ (by first | omega | (simp <;> omega)) _ | refine below_drewN ?_ _ | refine Below.drew ?_ | refine Below.trans ?_ (Below.mono (by assumption) (by first | omega | (simp <;> omega))))) (Own.belowGrown (B := W0.heap.size) (T := 3) (sz := 1) (enc := encI) (xs := []) (by first | exact (own_empty (enc := encI) W0 3 1) | exact Own.below (own_empty (enc := encI) W0 3 1) (by repeat (first | exact Below.refl _ _ | assumption | refine Below.setCell ?_ (by first | omega | (simp <;> omega)) _ | refine Below.alloc ?_ (by first | omega | (simp <;> omega)) _ | refine below_drewN ?_ _ | refine Below.drew ?_ | refine Below.trans ?_ (Below.mono (by assumption) (by first | omega | (simp <;> omega)))))) hgrow7 (Nat.le_refl _) (by simp)); replace hown7 : Own w7 W0.heap.size 3 1 encI v7 xs := (by simpa using hown7); clear hgrow7 hblk7; obtain ⟨A7, c7, rfl, hc7, hm7, -⟩ := Own.rd encI_len hown7; unfold maxLen at hm7)
          | (obtain ⟨q0, q1, q2, q3, qB⟩ := (by with_reducible assumption : _ ∧ _); have hB8 := hB7.alloc hB7.size (.cells #[.int .i64 sK, .bool uK, .slice A7 xs.length c7] 68); have hv7 : ∃ A n c, Value.slice A7 xs.length c7 = .slice A n c := ⟨_, _, _, rfl⟩; refine step_append_in _ LockR.enc_len (by rfl) _ _ 51 (by rfl) w.heap.size 68 j0 (.agg #[.int .i64 0, .bool false, .slice none 0 0]) 40 Try.underlying51 hj hy0 hy1 hy2 rfl (by decide) _ _ (by rfl) (HOW.out.1.below hB8) _ (.slice (some ⟨_, 0, none⟩) 1 1) [(⟨sK, uK, .slice A7 xs.length c7, xs⟩ : LockR)] (by rfl) (rd_new (enc := LockR.enc) _ ⟨sK, uK, .slice A7 xs.length c7, xs⟩ _) (by intro y hy; simp at hy; subst hy; exact lock_one _ hv7) (by have := HRL.out; unfold maxLen; simp; omega) (by have := HRL.out; simp; omega) (by have := hB8.size; omega) ?_; intro v9 w9 hown9 hgrow9 hblk9; have hS9 : w9.cell? ⟨wo.heap.size, 0, none⟩ = some (.int .i64 sK) ∧ w9.cell? ⟨wo.heap.size, 1, none⟩ = some (.bool uK) ∧ w9.cell? ⟨wo.heap.size, 2, none⟩ = some (.slice A4 xs.length c4) ∧ wo.heap.size < w9.heap.size ∧ Below w.heap.size w w9 := ⟨by rw [World.cell?_of_block (hgrow9.block _ q3 (fun e => hne5 _ hB8 e.symm))]; exact q0, by rw [World.cell?_of_block (hgrow9.block _ q3 (fun e => hne5 _ hB8 e.symm))]; exact q1, by rw [World.cell?_of_block (hgrow9.block _ q3 (fun e => hne5 _ hB8 e.symm))]; exact q2, Nat.lt_of_lt_of_le q3 hgrow9.size, (hbw.trans (hB8.mono hsb)).trans (Own.belowGrown (B := w.heap.size) (HOW.out.1.below hB8) hgrow9 (Nat.le_refl _) (by have := hB8.size; omega))⟩))
      have hB8 := hB7.alloc hB7.size (.cells #[.int .i64 sK, .bool uK, .slice A7 xs.length c7] 68)
      have HL9 := hide (LkOut.snoc (r := ⟨sK, uK, .slice A7 xs.length c7, xs⟩) (HOW.out.below hB8) ((show Own w7 W0.heap.size 3 1 encI _ xs from hown7).below ((Below.refl _ _).alloc (Nat.le_refl _) _) |>.mono hsb) (fun a ha g hg1 hg2 => by have h1 := (World.ownsRow.lt (HO.out.2.1 a ha) g hg1).2; have h2 := (World.ownsRow.lt hown7 g hg2).1; omega) hown9 hgrow9)
      obtain ⟨_, _, _, _, hb9⟩ := hS9
      go_wp2
      go_roundw
      case rel => exact ⟨k + 1, rs' ++ [⟨sK, uK, .slice A7 xs.length c7, xs⟩], by omega, by go_num, HL9, hide (by rw [List.map_append, HD.out, HTK.out]; rfl), hb9⟩
      case measure => simp [intOf]; omega
    · obtain rfl : k = rs.length := by omega
      have HT := hide (List.take_length (l := rs))
      go_wp2
      go_ret
      exact ⟨_, rs', rfl, HO.out, by rw [HD.out, HT.out], hbk⟩
end Go.Proofs.Ytjmffhpfmfmnlaa
