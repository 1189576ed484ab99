/- Berths: whether a list of them is valid. No condition. -/
import Derived.Test.YtjfppjhlkeopnaaBerth
namespace Go.Proofs.Ytjfppjhlkeopnaa
open Go.RowKit
set_option linter.unusedVariables false
set_option maxRecDepth 100000 in
set_option maxHeartbeats 8000000 in
theorem spec_BerthsOk_any (v : Value) (xs : List BerthD) (w : World) (h1 : RdBerth w v xs) (hok : ∀ x ∈ xs, x.name.size ≤ maxLen) :
    Calls Try.prog 25 #[v] w fun e w' => e = .returned (.bool (berthsOk xs)) ∧ Below w.heap.size w w' := by
  obtain ⟨A1, c1, rfl, hc1, hm1, h1⟩ := h1
  unfold maxLen at hm1
  by_cases h4 : xs.length ≤ 4
  · go_enter Try.func25, Try.ntmps25
    go_wp2
    have H4 := hide h4
    go_loopw [12] (fun i wr => ∃ k : Nat, k ≤ xs.length ∧ i = .int .i64 k ∧ Hid (allUpTo (berthRow xs) k = true) ∧ Below w.heap.size w wr) (fun i _ => xs.length - (intOf i).toNat)
    case atStart => exact ⟨0, Nat.zero_le _, rfl, hide rfl, Below.refl _ _⟩
    case round =>
      obtain ⟨k, hk, rfl, HN, hb⟩ := hrel
      obtain ⟨wo, rfl⟩ : ∃ wo : World, wo = wr := ⟨_, rfl⟩
      have hbs := hb.size
      by_cases hlt : k < xs.length
      · obtain ⟨b1, o1, rfl, hb1, hcell1⟩ := h1 (by omega)
        have e0 : wo.cell? ⟨b1, o1 + k * 3, none⟩ = some (.string xs[k].name) := by
          rw [hb.cell (p := ⟨b1, _, none⟩) hb1]; have := hcell1 k xs[k] (List.getElem?_eq_getElem hlt) 0 _ rfl; simpa using this
        have e1 : wo.cell? ⟨b1, o1 + k * 3 + 1, none⟩ = some (.int .i64 xs[k].length) := by
          rw [hb.cell (p := ⟨b1, _, none⟩) hb1]; have := hcell1 k xs[k] (List.getElem?_eq_getElem hlt) 1 _ rfl; simpa using this
        have e2 : wo.cell? ⟨b1, o1 + k * 3 + 2, none⟩ = some (.int .i64 xs[k].depth) := by
          rw [hb.cell (p := ⟨b1, _, none⟩) hb1]; have := hcell1 k xs[k] (List.getElem?_eq_getElem hlt) 2 _ rfl; simpa using this
        have hsz := hok xs[k] (List.getElem_mem hlt)
        have HC := hide hcell1
        have HX := hide (getD_at hlt)
        clear hcell1 h1 hok
        have hrow : berthRow xs k = (isName xs[k].name && inB xs[k].length 10 400 && inB xs[k].depth 0 3000 && allUpTo (otherName xs xs[k].name) k) := by unfold berthRow; rw [getD_at hlt]
        have HR := hide hrow
        clear hrow
        by_cases hg : isName xs[k].name = true ∧ inB xs[k].length 10 400 = true ∧ inB xs[k].depth 0 3000 = true
        · obtain ⟨g1, g2, g3⟩ := hg
          have HG := hide g1; have HG2 := hide g2; have HG3 := hide g3
          go_wp2_with (first
            | (go_at_call 62; refine (spec_IsName_any _ _ hsz).mono ?_; rintro e w2 ⟨rfl, hb'⟩; obtain ⟨hc, hf⟩ := bcell hb'; have hs2 := hb'.size; simp at hs2)
            | (go_at_call 63; refine (l01In_any _ _ _ _).mono ?_; rintro e w1 ⟨rfl, hw⟩; obtain rfl := hw.symm))
          have hb2 := hb.trans ((Below.alloc (Below.refl _ wo) (Nat.le_refl _) _).trans (hb'.mono (by simp)) |>.mono hbs)
          have hx0 : w2.cell? ⟨wo.heap.size, 0, none⟩ = some (.string xs[k].name) := by rw [hc _ _ (by simp), World.cell?_alloc_at _ _ _ _ rfl]; rfl
          have hlt0 : wo.heap.size < w2.heap.size := World.block_lt_of_cell? w2 _ hx0
          clear hc hf hb' g1 g2 g3 e0 e1 e2
          have hbs2 := hb2.size
          clear hb
          go_loopw [37] (fun i wr => ∃ j : Nat, j ≤ k ∧ i = .int .i64 j ∧ Hid (allUpTo (otherName xs xs[k].name) j = true) ∧ Below w2.heap.size w2 wr) (fun i _ => k - (intOf i).toNat)
          case atStart => exact ⟨0, Nat.zero_le _, rfl, hide rfl, Below.refl _ _⟩
          case round =>
            obtain ⟨j, hj, rfl, HJ, hbj⟩ := hrel
            have hbI := bnext hb2 hbj (Nat.le_refl _)
            have hbjs := hbj.size
            by_cases hjk : j < k
            · have hjl : j < xs.length := by omega
              have hcell := HC.out
              have f0 : wr.cell? ⟨b1, o1 + j * 3, none⟩ = some (.string xs[j].name) := by
                rw [hbI.cell (p := ⟨b1, _, none⟩) hb1]; have := hcell j xs[j] (List.getElem?_eq_getElem hjl) 0 _ rfl; simpa using this
              have f1 : wr.cell? ⟨b1, o1 + j * 3 + 1, none⟩ = some (.int .i64 xs[j].length) := by
                rw [hbI.cell (p := ⟨b1, _, none⟩) hb1]; have := hcell j xs[j] (List.getElem?_eq_getElem hjl) 1 _ rfl; simpa using this
              have f2 : wr.cell? ⟨b1, o1 + j * 3 + 2, none⟩ = some (.int .i64 xs[j].depth) := by
                rw [hbI.cell (p := ⟨b1, _, none⟩) hb1]; have := hcell j xs[j] (List.getElem?_eq_getElem hjl) 2 _ rfl; simpa using this
              have hx1 : wr.cell? ⟨wo.heap.size, 0, none⟩ = some (.string xs[k].name) := by rw [hbj.cell (p := ⟨_, 0, none⟩) (by omega)]; exact hx0
              have HXJ := hide (getD_at hjl)
              have hws : wo.heap.size < wr.heap.size := by omega
              clear hcell
              by_cases he : xs[j].name = xs[k].name
              · have he' := ba_eq he
                have HE := hide (show otherName xs xs[k].name j = false by unfold otherName; rw [getD_at hjl]; simp [he])
                have HF := hide (show berthRow xs k = false by rw [HR.out, allUpTo_bad hjk HE.out]; simp)
                clear he
                go_wp2
                go_ret
                exact ⟨by simp [berthsOk, allUpTo_bad hlt HF.out], (by repeat (first | exact Below.refl _ _ | assumption | refine Below.setCell ?_ (by first | omega | (simp <;> omega)) _ | refine Below.alloc ?_ (by first | omega | (simp <;> omega)) _ | refine below_drewN ?_ _ | refine Below.drew ?_ | refine Below.trans ?_ (Below.mono (by assumption) (by first | omega | (simp <;> omega)))))⟩
              · have he' := ba_ne he
                have HE := hide (show otherName xs xs[k].name j = true by unfold otherName; rw [getD_at hjl]; simp [he])
                clear he
                go_wp2
                go_roundw
                case rel => exact ⟨j + 1, by omega, by go_num, hide (allUpTo_succ HJ.out HE.out), (by repeat (first | exact Below.refl _ _ | assumption | refine Below.setCell ?_ (by first | omega | (simp <;> omega)) _ | refine Below.alloc ?_ (by first | omega | (simp <;> omega)) _ | refine below_drewN ?_ _ | refine Below.drew ?_ | refine Below.trans ?_ (Below.mono (by assumption) (by first | omega | (simp <;> omega)))))⟩
                case measure => simp [intOf]; omega
            · obtain rfl : j = k := by omega
              have HT := hide (show berthRow xs j = true by rw [HR.out, HG.out, HG2.out, HG3.out, HJ.out]; rfl)
              go_wp2
              go_roundw
              case rel => exact ⟨j + 1, by omega, by go_num, hide (allUpTo_succ HN.out HT.out), hbI⟩
              case measure => simp [intOf]; omega
        · have HF := hide (show berthRow xs k = false by rw [HR.out]; simp only [Bool.and_eq_false_iff]; simp only [← Bool.not_eq_true]; by_cases q1 : isName xs[k].name = true <;> by_cases q2 : inB xs[k].length 10 400 = true <;> simp_all)
          by_cases q1 : isName xs[k].name = true <;> by_cases q2 : inB xs[k].length 10 400 = true <;> by_cases q3 : inB xs[k].depth 0 3000 = true
          case pos => exact absurd ⟨q1, q2, q3⟩ hg
          all_goals
            clear hg
            go_wp2_with (first
              | (go_at_call 62; refine (spec_IsName_any _ _ hsz).mono ?_; rintro e w2 ⟨rfl, hb'⟩; obtain ⟨hc, hf⟩ := bcell hb'; have hs2 := hb'.size; simp at hs2)
              | (go_at_call 63; refine (l01In_any _ _ _ _).mono ?_; rintro e w1 ⟨rfl, hw⟩; obtain rfl := hw.symm))
            have hb2 := hb.trans ((Below.alloc (Below.refl _ wo) (Nat.le_refl _) _).trans (hb'.mono (by simp)) |>.mono hbs)
            go_ret
            exact ⟨by simp [berthsOk, allUpTo_bad hlt HF.out], hb2⟩
      · obtain rfl : k = xs.length := by omega
        go_wp2
        go_ret
        exact ⟨by simp [berthsOk, H4.out, HN.out], hb⟩
  · go_enter Try.func25, Try.ntmps25
    go_wp2
    go_ret
    exact ⟨by simp [berthsOk, h4], Below.refl _ _⟩
set_option maxRecDepth 100000 in
set_option maxHeartbeats 8000000 in
theorem impl_BerthsOk_any (v : Value) (xs : List BerthD) (w : World) (h1 : RdBerth w v xs) (hok : ∀ x ∈ xs, x.name.size ≤ maxLen) :
    Calls Try.prog 27 #[v] w fun e w' => e = .returned (.bool (berthsOk xs)) ∧ Below w.heap.size w w' := by
  obtain ⟨A1, c1, rfl, hc1, hm1, h1⟩ := h1
  unfold maxLen at hm1
  by_cases h4 : xs.length ≤ 4
  · go_enter Try.func27, Try.ntmps27
    go_wp2
    have H4 := hide h4
    go_loopw [12] (fun i wr => ∃ k : Nat, k ≤ xs.length ∧ i = .int .i64 k ∧ Hid (allUpTo (berthRow xs) k = true) ∧ Below w.heap.size w wr) (fun i _ => xs.length - (intOf i).toNat)
    case atStart => exact ⟨0, Nat.zero_le _, rfl, hide rfl, Below.refl _ _⟩
    case round =>
      obtain ⟨k, hk, rfl, HN, hb⟩ := hrel
      obtain ⟨wo, rfl⟩ : ∃ wo : World, wo = wr := ⟨_, rfl⟩
      have hbs := hb.size
      by_cases hlt : k < xs.length
      · obtain ⟨b1, o1, rfl, hb1, hcell1⟩ := h1 (by omega)
        have e0 : wo.cell? ⟨b1, o1 + k * 3, none⟩ = some (.string xs[k].name) := by
          rw [hb.cell (p := ⟨b1, _, none⟩) hb1]; have := hcell1 k xs[k] (List.getElem?_eq_getElem hlt) 0 _ rfl; simpa using this
        have e1 : wo.cell? ⟨b1, o1 + k * 3 + 1, none⟩ = some (.int .i64 xs[k].length) := by
          rw [hb.cell (p := ⟨b1, _, none⟩) hb1]; have := hcell1 k xs[k] (List.getElem?_eq_getElem hlt) 1 _ rfl; simpa using this
        have e2 : wo.cell? ⟨b1, o1 + k * 3 + 2, none⟩ = some (.int .i64 xs[k].depth) := by
          rw [hb.cell (p := ⟨b1, _, none⟩) hb1]; have := hcell1 k xs[k] (List.getElem?_eq_getElem hlt) 2 _ rfl; simpa using this
        have hsz := hok xs[k] (List.getElem_mem hlt)
        have HC := hide hcell1
        have HX := hide (getD_at hlt)
        clear hcell1 h1 hok
        have hrow : berthRow xs k = (isName xs[k].name && inB xs[k].length 10 400 && inB xs[k].depth 0 3000 && allUpTo (otherName xs xs[k].name) k) := by unfold berthRow; rw [getD_at hlt]
        have HR := hide hrow
        clear hrow
        by_cases hg : isName xs[k].name = true ∧ inB xs[k].length 10 400 = true ∧ inB xs[k].depth 0 3000 = true
        · obtain ⟨g1, g2, g3⟩ := hg
          have HG := hide g1; have HG2 := hide g2; have HG3 := hide g3
          go_wp2_with (first
            | (go_at_call 64; refine (impl_IsName_any _ _ hsz).mono ?_; rintro e w2 ⟨rfl, hb'⟩; obtain ⟨hc, hf⟩ := bcell hb'; have hs2 := hb'.size; simp at hs2)
            | (go_at_call 65; refine (within_any _ _ _ _).mono ?_; rintro e w1 ⟨rfl, hw⟩; obtain rfl := hw.symm))
          have hb2 := hb.trans ((Below.alloc (Below.refl _ wo) (Nat.le_refl _) _).trans (hb'.mono (by simp)) |>.mono hbs)
          have hx0 : w2.cell? ⟨wo.heap.size, 0, none⟩ = some (.string xs[k].name) := by rw [hc _ _ (by simp), World.cell?_alloc_at _ _ _ _ rfl]; rfl
          have hlt0 : wo.heap.size < w2.heap.size := World.block_lt_of_cell? w2 _ hx0
          clear hc hf hb' g1 g2 g3 e0 e1 e2
          have hbs2 := hb2.size
          clear hb
          go_loopw [37] (fun i wr => ∃ j : Nat, j ≤ k ∧ i = .int .i64 j ∧ Hid (allUpTo (otherName xs xs[k].name) j = true) ∧ Below w2.heap.size w2 wr) (fun i _ => k - (intOf i).toNat)
          case atStart => exact ⟨0, Nat.zero_le _, rfl, hide rfl, Below.refl _ _⟩
          case round =>
            obtain ⟨j, hj, rfl, HJ, hbj⟩ := hrel
            have hbI := bnext hb2 hbj (Nat.le_refl _)
            have hbjs := hbj.size
            by_cases hjk : j < k
            · have hjl : j < xs.length := by omega
              have hcell := HC.out
              have f0 : wr.cell? ⟨b1, o1 + j * 3, none⟩ = some (.string xs[j].name) := by
                rw [hbI.cell (p := ⟨b1, _, none⟩) hb1]; have := hcell j xs[j] (List.getElem?_eq_getElem hjl) 0 _ rfl; simpa using this
              have f1 : wr.cell? ⟨b1, o1 + j * 3 + 1, none⟩ = some (.int .i64 xs[j].length) := by
                rw [hbI.cell (p := ⟨b1, _, none⟩) hb1]; have := hcell j xs[j] (List.getElem?_eq_getElem hjl) 1 _ rfl; simpa using this
              have f2 : wr.cell? ⟨b1, o1 + j * 3 + 2, none⟩ = some (.int .i64 xs[j].depth) := by
                rw [hbI.cell (p := ⟨b1, _, none⟩) hb1]; have := hcell j xs[j] (List.getElem?_eq_getElem hjl) 2 _ rfl; simpa using this
              have hx1 : wr.cell? ⟨wo.heap.size, 0, none⟩ = some (.string xs[k].name) := by rw [hbj.cell (p := ⟨_, 0, none⟩) (by omega)]; exact hx0
              have HXJ := hide (getD_at hjl)
              have hws : wo.heap.size < wr.heap.size := by omega
              clear hcell
              by_cases he : xs[j].name = xs[k].name
              · have he' := ba_eq he
                have HE := hide (show otherName xs xs[k].name j = false by unfold otherName; rw [getD_at hjl]; simp [he])
                have HF := hide (show berthRow xs k = false by rw [HR.out, allUpTo_bad hjk HE.out]; simp)
                clear he
                go_wp2
                go_ret
                exact ⟨by simp [berthsOk, allUpTo_bad hlt HF.out], (by repeat (first | exact Below.refl _ _ | assumption | refine Below.setCell ?_ (by first | omega | (simp <;> omega)) _ | refine Below.alloc ?_ (by first | omega | (simp <;> omega)) _ | refine below_drewN ?_ _ | refine Below.drew ?_ | refine Below.trans ?_ (Below.mono (by assumption) (by first | omega | (simp <;> omega)))))⟩
              · have he' := ba_ne he
                have HE := hide (show otherName xs xs[k].name j = true by unfold otherName; rw [getD_at hjl]; simp [he])
                clear he
                go_wp2
                go_roundw
                case rel => exact ⟨j + 1, by omega, by go_num, hide (allUpTo_succ HJ.out HE.out), (by repeat (first | exact Below.refl _ _ | assumption | refine Below.setCell ?_ (by first | omega | (simp <;> omega)) _ | refine Below.alloc ?_ (by first | omega | (simp <;> omega)) _ | refine below_drewN ?_ _ | refine Below.drew ?_ | refine Below.trans ?_ (Below.mono (by assumption) (by first | omega | (simp <;> omega)))))⟩
                case measure => simp [intOf]; omega
            · obtain rfl : j = k := by omega
              have HT := hide (show berthRow xs j = true by rw [HR.out, HG.out, HG2.out, HG3.out, HJ.out]; rfl)
              go_wp2
              go_roundw
              case rel => exact ⟨j + 1, by omega, by go_num, hide (allUpTo_succ HN.out HT.out), hbI⟩
              case measure => simp [intOf]; omega
        · have HF := hide (show berthRow xs k = false by rw [HR.out]; simp only [Bool.and_eq_false_iff]; simp only [← Bool.not_eq_true]; by_cases q1 : isName xs[k].name = true <;> by_cases q2 : inB xs[k].length 10 400 = true <;> simp_all)
          by_cases q1 : isName xs[k].name = true <;> by_cases q2 : inB xs[k].length 10 400 = true <;> by_cases q3 : inB xs[k].depth 0 3000 = true
          case pos => exact absurd ⟨q1, q2, q3⟩ hg
          all_goals
            clear hg
            go_wp2_with (first
              | (go_at_call 64; refine (impl_IsName_any _ _ hsz).mono ?_; rintro e w2 ⟨rfl, hb'⟩; obtain ⟨hc, hf⟩ := bcell hb'; have hs2 := hb'.size; simp at hs2)
              | (go_at_call 65; refine (within_any _ _ _ _).mono ?_; rintro e w1 ⟨rfl, hw⟩; obtain rfl := hw.symm))
            have hb2 := hb.trans ((Below.alloc (Below.refl _ wo) (Nat.le_refl _) _).trans (hb'.mono (by simp)) |>.mono hbs)
            go_ret
            exact ⟨by simp [berthsOk, allUpTo_bad hlt HF.out], hb2⟩
      · obtain rfl : k = xs.length := by omega
        go_wp2
        go_ret
        exact ⟨by simp [berthsOk, H4.out, HN.out], hb⟩
  · go_enter Try.func27, Try.ntmps27
    go_wp2
    go_ret
    exact ⟨by simp [berthsOk, h4], Below.refl _ _⟩
end Go.Proofs.Ytjfppjhlkeopnaa
