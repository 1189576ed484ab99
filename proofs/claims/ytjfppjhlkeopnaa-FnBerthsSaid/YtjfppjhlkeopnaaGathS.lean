/- Windows gathered: the spec. No condition. -/
import Derived.Test.YtjfppjhlkeopnaaOtherW
import Derived.Test.YtjfppjhlkeopnaaWin1
import Derived.Test.YtjfppjhlkeopnaaRowG
import Derived.Deep.DeepCutAuto
namespace Go.Proofs.Ytjfppjhlkeopnaa
open Go.RowKit
set_option linter.unusedVariables false
theorem hasMin_take {us : List WindowD} {k : Nat} (h : k < us.length) (m : Int) : hasMin (us.take (k + 1)) m = (hasMin (us.take k) m || inB m us[k].start us[k].fin) := by
  rw [List.take_succ_eq_append_getElem h]
  unfold hasMin
  rw [List.any_append]
  simp
/-- the marks of the first windows, and of the minutes from lo to m -/
def markTo (us : List WindowD) (k : Nat) (lo m : Int) : Nat → Bool := fun j => hasMin (us.take k) (j : Int) || (decide (lo ≤ (j : Int)) && decide ((j : Int) < m))
theorem mark_start {us : List WindowD} {k : Nat} {lo : Int} {n : Nat} : rowG n (markTo us k lo lo) = rowG n (fun j => hasMin (us.take k) (j : Int)) := rowG_congr fun j _ => by
  unfold markTo
  have : (decide (lo ≤ (j : Int)) && decide ((j : Int) < lo)) = false := by simp
  rw [this, Bool.or_false]
theorem mark_next {us : List WindowD} {k n : Nat} {lo : Int} {m : Nat} (h : lo ≤ (m : Int)) : rowG n (fun j => if j = m then true else markTo us k lo m j) = rowG n (markTo us k lo ((m : Int) + 1)) := rowG_congr fun j _ => by
  unfold markTo
  by_cases e : j = m
  · subst e
    rw [if_pos rfl]
    have : decide ((j : Int) < (j : Int) + 1) = true := by simp; omega
    simp [h, this]
  · rw [if_neg e]
    congr 2
    rw [Bool.eq_iff_iff]
    simp
    omega
theorem mark_end {us : List WindowD} {k : Nat} (hk : k < us.length) {lo hi m : Int} (hlo : lo = max 0 us[k].start) (hhi : hi = min 2880 us[k].fin) (h1 : lo ≤ m) (h2 : m = lo ∨ m ≤ hi + 1) (h3 : hi < m) : rowG 2881 (markTo us k lo m) = rowG 2881 (fun j => hasMin (us.take (k + 1)) (j : Int)) := rowG_congr fun j hj => by
  unfold markTo
  rw [hasMin_take hk]
  congr 1
  rw [Bool.eq_iff_iff]
  simp [inB]
  omega
set_option maxRecDepth 100000 in
set_option maxHeartbeats 16000000 in
theorem spec_GatherWindows_any (v : Value) (us : List WindowD) (w : World) (h1 : RdWindow w v us) :
    Calls Try.prog 77 #[v] w fun e w' => ∃ u, e = .returned u ∧ Own w' w.heap.size 117 2 WindowD.enc u (gatherL us) ∧ Below w.heap.size w w' := by
  obtain ⟨A1, c1, rfl, hc1, hm1, h1⟩ := h1
  unfold maxLen at hm1
  have H1 := hide h1; clear h1
  obtain ⟨j0, hj, hy0, hy1, hy2⟩ := info_parts bool_info
  go_enter Try.func77, Try.ntmps77
  go_wp2_with (refine wpList_make_full _ rfl _ _ _ rfl w.heap.size 4 j0 _ 1 Try.underlying133 hj hy0 hy1 _ _ _ _ 2881 rfl rfl rfl rfl (by rw [hy2]; omega) (by unfold maxLen; omega) (by omega) ?_; intro w2 hown2 hg2)
  have hb2 : Below w.heap.size w w2 := (Below.refl _ _).grown hg2 (Nat.le_refl _) (by simp)
  have HO2 := hide (show Own w2 w.heap.size 4 1 encB (.slice (some ⟨w.heap.size, 0, none⟩) 2881 2881) (rowG 2881 (fun j => hasMin (us.take 0) (j : Int))) from ownG_made (enc := encB) false (.bool false) rfl rfl hown2)
  clear hown2 hg2
  go_loopw [10] (fun s wr => ∃ k : Nat, k ≤ us.length ∧ s = .int .i64 k ∧ Hid (Own wr w.heap.size 4 1 encB (.slice (some ⟨w.heap.size, 0, none⟩) 2881 2881) (rowG 2881 (fun j => hasMin (us.take k) (j : Int)))) ∧ Below w.heap.size w wr) (fun s _ => us.length - (intOf s).toNat)
  case atStart => exact ⟨0, Nat.zero_le _, rfl, HO2, hb2⟩
  case round =>
    clear HO2 hb2
    obtain ⟨k, hk, rfl, HO, hbk⟩ := hrel
    obtain ⟨wo, rfl⟩ : ∃ wo : World, wo = wr := ⟨_, rfl⟩
    have hbs := hbk.size
    by_cases hlt : k < us.length
    · have hlt' : (k : Int) < us.length := by omega
      obtain ⟨b1, o1, rfl, hb1, hcell1⟩ := H1.out (by omega)
      have e0 : wo.cell? ⟨b1, o1 + k * 2, none⟩ = some (.int .i64 us[k].start) := by
        rw [hbk.cell (p := ⟨b1, _, none⟩) hb1]; have := hcell1 k us[k] (List.getElem?_eq_getElem hlt) 0 _ rfl; simpa using this
      have e1 : wo.cell? ⟨b1, o1 + k * 2 + 1, none⟩ = some (.int .i64 us[k].fin) := by
        rw [hbk.cell (p := ⟨b1, _, none⟩) hb1]; have := hcell1 k us[k] (List.getElem?_eq_getElem hlt) 1 _ rfl; simpa using this
      clear hcell1
      have HME := hide (fun (lo hi m : Int) h1 h2 h3 h4 h5 => @mark_end us k hlt lo hi m h1 h2 h3 h4 h5)
      obtain ⟨x, hxe⟩ : ∃ x, us[k] = x := ⟨_, rfl⟩
      simp only [hxe] at e0 e1 HME
      clear hxe
      obtain ⟨x0, x1⟩ := x
      simp only at e0 e1 HME
      go_upto_region 5 with fail
      obtain ⟨W1, hW1⟩ : ∃ W, wo.alloc (.cells #[.int .i64 x0, .int .i64 x1] 117) = W := ⟨_, rfl⟩
      have f0 : W1.cell? ⟨wo.heap.size, 0, none⟩ = some (.int .i64 x0) := by rw [← hW1]; simp [go_sem]
      have f1 : W1.cell? ⟨wo.heap.size, 1, none⟩ = some (.int .i64 x1) := by rw [← hW1]; simp [go_sem]
      have f2 : wo.heap.size < W1.heap.size := by rw [← hW1]; simp
      have hbx : Below wo.heap.size wo W1 := by rw [← hW1]; exact (Below.refl _ _).alloc (Nat.le_refl _) _
      have HOX := hide (HO.out.below hbx)
      have hgO := (World.ownsRow.lt HO.out _ rfl).2
      have hbw1 := bnext hbk hbx (Nat.le_refl _)
      rw [hW1]
      clear hW1 e0 e1 hbx HO hbk hbs
      obtain ⟨G, hG⟩ : ∃ G, wo.heap.size = G := ⟨_, rfl⟩
      rw [hG] at f0 f1 f2 hgO ⊢
      clear hG
      obtain ⟨lo, hlo⟩ : ∃ lo, max (0 : Int) x0 = lo := ⟨_, rfl⟩
      have hlo0 : 0 ≤ lo := by omega
      have HLO := hide hlo
      obtain ⟨hi, hhi⟩ : ∃ hi, min (2880 : Int) x1 = hi := ⟨_, rfl⟩
      have HHI := hide hhi
      have hi2 : hi ≤ 2880 := by omega
      go_cut [6] (fun s6 wx => s6 = .int .i64 lo ∧ wx = W1)
      case first =>
        clear hhi HHI HLO HME
        go_wp2_with fail
        all_goals
          go_meet
          exact ⟨by congr 1; omega, rfl⟩
      case rest =>
        obtain ⟨rfl, rfl⟩ := hcut
        clear hlo hhi
        have HO0 := hide (show Own wc w.heap.size 4 1 encB (.slice (some ⟨w.heap.size, 0, none⟩) 2881 2881) (rowG 2881 (markTo us k lo lo)) by rw [mark_start]; exact HOX.out)
        clear HOX
        go_wp2_with fail
        go_loopw [6] (fun s wr => ∃ m : Int, s = .int .i64 m ∧ lo ≤ m ∧ (m = lo ∨ m ≤ hi + 1) ∧ Hid (Own wr w.heap.size 4 1 encB (.slice (some ⟨w.heap.size, 0, none⟩) 2881 2881) (rowG 2881 (markTo us k lo m))) ∧ Hid (wr.cell? ⟨G, 1, none⟩ = some (.int .i64 x1)) ∧ G < wr.heap.size ∧ Below w.heap.size w wr) (fun s _ => (hi + 1 - intOf s).toNat)
        case atStart => exact ⟨lo, rfl, Int.le_refl _, .inl rfl, HO0, hide f1, f2, hbw1⟩
        case round =>
          clear HO0 f0 f1 f2 hbw1
          obtain ⟨m, rfl, hm0, hm1, HO, HF, hG, hbk⟩ := hrel
          rename_i wr
          obtain ⟨wi, rfl⟩ : ∃ wi : World, wi = wr := ⟨_, rfl⟩
          have f1 := HF.out
          go_upto_region 6 with fail
          go_cut [21] (fun s21 wx => s21 = .bool (decide (m ≤ hi)) ∧ wx = wi)
          case first =>
            have hhi := HHI.out
            clear HHI HLO HME
            go_wp2_with fail
            all_goals
              go_meet
              exact ⟨by congr 1; rw [Bool.eq_iff_iff]; simp; omega, rfl⟩
          case rest =>
            obtain ⟨rfl, rfl⟩ := hcut
            by_cases hle : m ≤ hi
            · have hmd : decide (m ≤ hi) = true := by simpa using hle
              obtain ⟨j, rfl⟩ : ∃ j : Nat, m = j := ⟨m.toNat, by omega⟩
              have hj : j < 2881 := by omega
              have hj' : (j : Int) < 2881 := by omega
              have hjw : IntKind.i64.wrap ((j : Int) + 1) = (j : Int) + 1 := IntWalk.i64_in _ (by omega)
              have hfc := ownG_cell encB_len HO.out hj (z := .bool (markTo us k lo j j)) rfl
              have q1 := hfc.1; have q2 := hfc.2
              have hgO2 := (World.ownsRow.lt HO.out _ rfl).2
              have HO2 := hide (ownG_store encB_len HO.out hj (x := true) (z := .bool true) rfl)
              rw [mark_next hm0] at HO2
              have hne : w.heap.size ≠ G := by omega
              have HF2 := hide (show (wc.setCell ⟨w.heap.size, j, none⟩ (.bool true)).cell? ⟨G, 1, none⟩ = some (.int .i64 x1) from (World.cell?_setCell_other _ _ _ _ (fun e => hne (congrArg Addr.block e))).trans f1)
              have hb3 : Below w.heap.size w (wc.setCell ⟨w.heap.size, j, none⟩ (.bool true)) := hbk.setCell (p := ⟨w.heap.size, j, none⟩) (Nat.le_refl _) _
              clear hfc
              rw [hmd]
              go_wp2
              go_roundw
              case rel => exact ⟨(j : Int) + 1, by first | rfl | go_num, by omega, .inr (by omega), HO2, HF2, by simpa [World.setCell] using hG, hb3⟩
              case measure => simp [intOf]; omega
            · have hmd : decide (m ≤ hi) = false := by simpa using hle
              have HE := hide (show Own wc w.heap.size 4 1 encB (.slice (some ⟨w.heap.size, 0, none⟩) 2881 2881) (rowG 2881 (fun j => hasMin (us.take (k + 1)) (j : Int))) by rw [← HME.out lo hi m HLO.out.symm HHI.out.symm hm0 hm1 (by omega)]; exact HO.out)
              rw [hmd]
              go_wp2
              go_roundw
              case rel => exact ⟨k + 1, by omega, by first | rfl | go_num, HE, hbk⟩
              case measure => simp [intOf]; omega
    · obtain rfl : k = us.length := by omega
      have HE := hide (show RdB wo wo.heap.size 1 encB (.slice (some ⟨w.heap.size, 0, none⟩) 2881 2881) (boolRow 2881 (fun m => hasMin us (m : Int))) by have := Own.rd encB_len HO.out; rw [List.take_length] at this; exact this)
      clear HO hlt
      go_wp2_with fail
      refine (l04Of_any _ (fun m => hasMin us (m : Int)) 2881 (by omega) _ HE.out).mono ?_
      rintro e w3 ⟨u, rfl, ho3, hb3⟩
      have HO3 := hide (ho3.mono (base' := w.heap.size) hbs)
      have hb4 := bnext hbk hb3 (Nat.le_refl _)
      clear ho3 hb3
      go_wp2
      go_ret
      exact ⟨_, rfl, HO3.out, hb4⟩
end Go.Proofs.Ytjfppjhlkeopnaa
