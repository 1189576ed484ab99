/- The ships of all lockings in a direction. No condition. -/
import Derived.Test.YtjmffhpfmfmnlaaLock
import Derived.Test.YtjmffhpfmfmnlaaApp
import Derived.Test.YtjmffhpfmfmnlaaSeq
namespace Go.Proofs.Ytjmffhpfmfmnlaa
open Go.RowKit
set_option linter.unusedVariables false

def lkOf (up : Bool) (r : LockD) : List Int := if r.up = up then r.ships else []
def lkOrd (ds : List LockD) (up : Bool) : List Int := ds.flatMap (lkOf up)
theorem lkOrd_succ {rs : List LockR} {k : Nat} {up : Bool} (h : k < rs.length) : lkOrd ((rs.take (k + 1)).map LockR.d) up = lkOrd ((rs.take k).map LockR.d) up ++ lkOf up rs[k].d := by
  unfold lkOrd; rw [List.take_succ_eq_append_getElem h, List.map_append, List.flatMap_append]; simp only [List.map_cons, List.map_nil, List.flatMap_cons, List.flatMap_nil, List.append_nil]
theorem lkOrd_len (up : Bool) : ∀ rs : List LockR, (lkOrd (rs.map LockR.d) up).length ≤ lkTotal rs
  | [] => by simp [lkOrd]
  | r :: rs => by
    have := lkOrd_len up rs
    unfold lkOrd at *
    rw [List.map_cons, List.flatMap_cons, List.length_append]
    have h1 : lkTotal (r :: rs) = r.ships.length + lkTotal rs := by simp [lkTotal]
    have h2 : (lkOf up r.d).length ≤ r.ships.length := by unfold lkOf LockR.d; split <;> simp
    omega
theorem lkTotal_d {rs rs' : List LockR} (h : rs.map LockR.d = rs'.map LockR.d) : lkTotal rs = lkTotal rs' := by
  have e : ∀ xs : List LockR, lkTotal xs = ((xs.map LockR.d).map fun r => r.ships.length).sum := by intro xs; unfold lkTotal; rw [List.map_map]; rfl
  rw [e, e, h]
theorem own_empty {α : Type} {enc : α → List Value} (w : World) (T : TypeId) (sz : Nat) : Own (w.alloc (.cells #[] T)) w.heap.size T sz enc (.slice (some ⟨w.heap.size, 0, none⟩) 0 0) ([] : List α) := by
  refine ⟨by simp, .inr ⟨w.heap.size, 0, #[], rfl, Nat.le_refl _, by show (w.heap.push _)[w.heap.size]? = _; simp, Nat.le_refl _, by simp [maxLen], by simp, by simp⟩⟩
set_option maxRecDepth 100000 in
set_option maxHeartbeats 4000000 in
theorem impl_LockOrder_any (v : Value) (rs : List LockR) (up : Bool) (w : World) (h1 : RdLk w w.heap.size v rs) (ht : lkTotal rs ≤ 1048576) :
    Calls Try.prog 47 #[v, .bool up] w fun e w' => ∃ u, e = .returned u ∧ Own w' w.heap.size 3 1 encI u (lkOrd (rs.map LockR.d) up) ∧ Below w.heap.size w w' := by
  obtain ⟨h1, hs⟩ := h1
  obtain ⟨A1, c1, rfl, hc1, hm1, h1⟩ := h1
  unfold maxLen at hm1
  obtain ⟨i0, hi, hz0, hz1, hz2⟩ := info_parts int_info
  have HT := hide ht
  go_enter Try.func47, Try.ntmps47
  go_wp2
  have HO0 := own_empty (enc := encI) w 3 1
  go_loopw [5, 11] (fun u i wr => ∃ k : Nat, k ≤ rs.length ∧ i = .int .i64 k ∧ Own wr w.heap.size 3 1 encI u (lkOrd ((rs.take k).map LockR.d) up) ∧ Below w.heap.size w wr) (fun _ i _ => rs.length - (intOf i).toNat)
  case atStart => exact ⟨0, Nat.zero_le _, rfl, HO0, (by repeat (first | exact Below.refl _ _ | assumption | refine Below.setCell ?_ (by first | omega | (simp <;> omega)) _ | refine Below.alloc ?_ (by first | omega | (simp <;> omega)) _ | refine below_drewN ?_ _ | refine Below.drew ?_ | refine Below.trans ?_ (Below.mono (by assumption) (by first | omega | (simp <;> omega)))))⟩
  case round =>
    clear HO0
    obtain ⟨k, hk, rfl, HO, hb⟩ := hrel
    obtain ⟨wo, rfl⟩ : ∃ wo : World, wo = wr := ⟨_, rfl⟩
    have hbs := hb.size
    by_cases hlt : k < rs.length
    · obtain ⟨b1, o1, rfl, hb1, hcell1⟩ := h1 (by omega)
      have e0 : wo.cell? ⟨b1, o1 + k * 3, none⟩ = some (.int .i64 rs[k].start) := by
        rw [hb.cell (p := ⟨b1, _, none⟩) hb1]; have := hcell1 k rs[k] (List.getElem?_eq_getElem hlt) 0 _ rfl; simpa using this
      have e1 : wo.cell? ⟨b1, o1 + k * 3 + 1, none⟩ = some (.bool rs[k].up) := by
        rw [hb.cell (p := ⟨b1, _, none⟩) hb1]; have := hcell1 k rs[k] (List.getElem?_eq_getElem hlt) 1 _ rfl; simpa using this
      have e2 : wo.cell? ⟨b1, o1 + k * 3 + 2, none⟩ = some (rs[k].v) := by
        rw [hb.cell (p := ⟨b1, _, none⟩) hb1]; have := hcell1 k rs[k] (List.getElem?_eq_getElem hlt) 2 _ rfl; simpa using this
      have hrd := hs rs[k] (List.getElem_mem hlt)
      have HL := hide (lkOrd_succ (up := up) hlt)
      have HN := hide (Nat.le_trans (lkOrd_len up (rs.take k)) (Nat.le_trans (lkTotal_le (rs := rs) (k := k)) ht))
      have HM := hide (Nat.le_trans (lkTotal_mem (List.getElem_mem hlt)) ht)
      have HD := hide (show lkOf up rs[k].d = if rs[k].up = up then rs[k].ships else [] from rfl)
      clear h1 hcell1 hs
      have hzb : b1 < wo.heap.size := by omega
      generalize hxs : rs[k].ships = ys at *
      generalize hxv : rs[k].v = yv at *
      generalize hxu : rs[k].up = yu at *
      generalize lkOrd ((rs.take k).map LockR.d) up = acc at *
      obtain ⟨A2, c2, hyv⟩ : ∃ A2 c2, yv = .slice A2 ys.length c2 := by obtain ⟨A2, c2, h, _⟩ := hrd; exact ⟨A2, c2, h⟩
      subst hyv
      by_cases hu : yu = up
      · subst hu
        have hne : (yu == yu) = true := by simp
        go_wp2_with (at_builtin; refine wpList_append_rd _ encI_len encI_one rfl _ _ 24 rfl w.heap.size 3 i0 (.int .i64 0) 8 Try.underlying24 hi hz0 hz1 hz2 rfl (by decide) _ _ rfl (by first | assumption | exact HO.below (by repeat (first | exact Below.refl _ _ | assumption | refine Below.setCell ?_ (by first | omega | (simp <;> omega)) _ | refine Below.alloc ?_ (by first | omega | (simp <;> omega)) _ | refine below_drewN ?_ _ | refine Below.drew ?_ | refine Below.trans ?_ (Below.mono (by assumption) (by first | omega | (simp <;> omega)))))) _ _ _ rfl (hrd.keep (B' := w.heap.size) (by repeat (first | exact Below.refl _ _ | assumption | refine Below.setCell ?_ (by first | omega | (simp <;> omega)) _ | refine Below.alloc ?_ (by first | omega | (simp <;> omega)) _ | refine below_drewN ?_ _ | refine Below.drew ?_ | refine Below.trans ?_ (Below.mono (by assumption) (by first | omega | (simp <;> omega))))) (Nat.le_refl _)) (by unfold maxLen; have := HN.out; have := HM.out; omega) (by have := HN.out; have := HM.out; omega) (by first | omega | (simp <;> omega)) ?_; intro v' w1 hown hgrow hblk)
        go_roundw
        case rel => exact ⟨k + 1, by omega, by go_num, by rw [HL.out, HD.out, if_pos rfl]; exact hown, (Below.trans (by repeat (first | exact Below.refl _ _ | assumption | refine Below.setCell ?_ (by first | omega | (simp <;> omega)) _ | refine Below.alloc ?_ (by first | omega | (simp <;> omega)) _ | refine below_drewN ?_ _ | refine Below.drew ?_ | refine Below.trans ?_ (Below.mono (by assumption) (by first | omega | (simp <;> omega))))) (Own.belowGrown (B := w.heap.size) (HO.below (by repeat (first | exact Below.refl _ _ | assumption | refine Below.setCell ?_ (by first | omega | (simp <;> omega)) _ | refine Below.alloc ?_ (by first | omega | (simp <;> omega)) _ | refine below_drewN ?_ _ | refine Below.drew ?_ | refine Below.trans ?_ (Below.mono (by assumption) (by first | omega | (simp <;> omega)))))) hgrow (Nat.le_refl _) (by first | omega | (simp <;> omega))))⟩
        case measure => simp [intOf]; omega
      · have hne : (yu == up) = false := by simpa using hu
        have HU := hide hu; clear hu
        go_wp2
        go_roundw
        case rel => exact ⟨k + 1, by omega, by go_num, by rw [HL.out, HD.out, if_neg HU.out, List.append_nil]; exact (by first | exact HO | exact HO.below (by repeat (first | exact Below.refl _ _ | assumption | refine Below.setCell ?_ (by first | omega | (simp <;> omega)) _ | refine Below.alloc ?_ (by first | omega | (simp <;> omega)) _ | refine below_drewN ?_ _ | refine Below.drew ?_ | refine Below.trans ?_ (Below.mono (by assumption) (by first | omega | (simp <;> omega)))))), (by repeat (first | exact Below.refl _ _ | assumption | refine Below.setCell ?_ (by first | omega | (simp <;> omega)) _ | refine Below.alloc ?_ (by first | omega | (simp <;> omega)) _ | refine below_drewN ?_ _ | refine Below.drew ?_ | refine Below.trans ?_ (Below.mono (by assumption) (by first | omega | (simp <;> omega)))))⟩
        case measure => simp [intOf]; omega
    · obtain rfl : k = rs.length := by omega
      rw [List.take_length] at HO
      go_wp2
      go_ret
      exact ⟨_, rfl, HO, hb⟩
end Go.Proofs.Ytjmffhpfmfmnlaa
