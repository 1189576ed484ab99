/- Windows gathered: the program. No condition. -/
import Derived.Test.YtjfppjhlkeopnaaGathC
import Derived.Deep.DeepCutAuto
import Derived.Great.Walk
namespace Go.Proofs.Ytjfppjhlkeopnaa
open Go.RowKit
set_option linter.unusedVariables false
theorem run_alloc_arr {P : Program} {o : Oper} {a : Act} (w : World) (T : TypeId) (i : TypeInfo) (z : Value) (ho : o.op = .alloc T) (hi : P.info? T = some i) (hz : i.zero = some z) : (execOp a.eval o).run P w = .ok (.value (.pointer (some ⟨w.heap.size, 0, none⟩))) (w.alloc (.cells z.cells T)) := by
  unfold execOp
  simp [ho, Instr.alloc, zeroValue, typeInfo, hi, hz, newVar, newRow, newObj, go_sem]
  rfl
theorem arr_info : (Try.prog.info? 135).map (fun i => (i.zero, i.size)) = some (some (.agg (Array.replicate 2882 (.int .i64 0))), 2882) := by kernel_rfl
theorem own_arr (w : World) (n : Nat) (hn : n ≤ maxLen) (T : TypeId) (u : Nat → Int) (hu : ∀ j, j < n → u j = 0) : Own (w.alloc (.cells (Value.agg (Array.replicate n (.int .i64 0))).cells T)) w.heap.size T 1 encI (.slice (some ⟨w.heap.size, 0, none⟩) n n) (rowG n u) := by
  have e : rowG n u = List.replicate n 0 := by rw [← rowG_rep]; exact rowG_congr hu
  have e2 : (List.replicate n (0 : Int)).flatMap encI = List.replicate n (.int .i64 0) := (repV encI 0 (.int .i64 0) rfl n).symm
  unfold Own
  rw [e, e2, List.length_replicate]
  refine ⟨by simp, .inr ⟨w.heap.size, n, Array.replicate n (.int .i64 0), rfl, Nat.le_refl _, by show (w.heap.push _)[w.heap.size]? = _; simp [Value.cells], Nat.le_refl _, hn, by simp, by simp⟩⟩
theorem begin_store {us : List WindowD} {k : Nat} (h : k < us.length) {l g : Nat} (hlo : (l : Int) = max 0 us[k].start) (hhi : (g : Int) = min 2880 us[k].fin) (hle : (l : Int) ≤ g) : rowG 2882 (fun j => if j = g + 1 then begAt (us.take k) (g + 1) - 1 else if j = l then begAt (us.take k) l + 1 else begAt (us.take k) j) = rowG 2882 (begAt (us.take (k + 1))) := rowG_congr fun j hj => by
  rw [List.take_succ_eq_append_getElem h, begAt_snoc]
  unfold beg1
  have e : max us[k].start 0 ≤ min us[k].fin 2880 := by omega
  rw [if_pos e]
  by_cases e1 : j = g + 1
  · subst e1
    rw [if_pos rfl, if_neg (by omega), if_pos (by omega)]; omega
  · rw [if_neg e1]
    by_cases e2 : j = l
    · subst e2
      rw [if_pos rfl, if_pos (by omega), if_neg (by omega)]; omega
    · rw [if_neg e2, if_neg (by omega), if_neg (by omega)]; omega
theorem begin_skip {us : List WindowD} {k : Nat} (h : k < us.length) {lo hi : Int} (hlo : lo = max 0 us[k].start) (hhi : hi = min 2880 us[k].fin) (hle : ¬ lo ≤ hi) : rowG 2882 (begAt (us.take k)) = rowG 2882 (begAt (us.take (k + 1))) := rowG_congr fun j hj => by
  rw [List.take_succ_eq_append_getElem h, begAt_snoc]
  unfold beg1
  have e : ¬ max us[k].start 0 ≤ min us[k].fin 2880 := by omega
  rw [if_neg e]
  omega
set_option maxRecDepth 100000 in
set_option maxHeartbeats 16000000 in
theorem impl_GatherWindows_any (v : Value) (us : List WindowD) (hl : us.length ≤ 1048576) (w : World) (h1 : RdWindow w v us) :
    Calls Try.prog 79 #[v] w fun e w' => ∃ u, e = .returned u ∧ Own w' w.heap.size 117 2 WindowD.enc u (gatherL us) ∧ Below w.heap.size w w' := by
  obtain ⟨A1, c1, rfl, hc1, hm1, h1⟩ := h1
  unfold maxLen at hm1
  have H1 := hide h1; clear h1
  have HL := hide hl; clear hl
  go_enter Try.func79, Try.ntmps79
  go_upto_region 1 with fail
  refine Go.wp_region_lit (l := [_]) ?_
  obtain ⟨ia, hia, hza⟩ : ∃ i, Try.prog.info? 135 = some i ∧ i.zero = some (.agg (Array.replicate 2882 (.int .i64 0))) := by
    have := arr_info
    cases hq : Try.prog.info? 135 with
    | none => rw [hq] at this; cases this
    | some i => rw [hq] at this; injection this with this; injection this with h1 h2; exact ⟨i, rfl, h1⟩
  refine Go.Great.wpList_allocTo rfl (some 3) rfl _ _ (run_alloc_arr w 135 ia _ rfl hia hza) ?_
  have hO0 := own_arr w 2882 (by unfold maxLen; omega) 135 (begAt (us.take 0)) (fun j hj => rfl)
  have hb0 : Below w.heap.size w (w.alloc (.cells (Value.agg (Array.replicate 2882 (.int .i64 0))).cells 135)) := (Below.refl _ _).alloc (Nat.le_refl _) _
  generalize w.alloc (.cells (Value.agg (Array.replicate 2882 (.int .i64 0))).cells 135) = W0 at hO0 hb0 ⊢
  clear hia hza ia
  have HO0 := hide hO0; clear hO0
  go_wp2_with fail
  go_loopw [11] (fun s wr => ∃ k : Nat, k ≤ us.length ∧ s = .int .i64 k ∧ Hid (Own wr w.heap.size 135 1 encI (.slice (some ⟨w.heap.size, 0, none⟩) 2882 2882) (rowG 2882 (begAt (us.take k)))) ∧ Below w.heap.size w wr) (fun s _ => us.length - (intOf s).toNat)
  case atStart => exact ⟨0, Nat.zero_le _, rfl, HO0, hb0⟩
  case round =>
    clear HO0 hb0
    obtain ⟨k, hk, rfl, HO, hbk⟩ := hrel
    obtain ⟨wo, rfl⟩ : ∃ wo : World, wo = wr := ⟨_, rfl⟩
    have hbs := hbk.size
    by_cases hlt : k < us.length
    · have hlt' : (k : Int) < us.length := by omega
      obtain ⟨b1, o1, rfl, hb1, hcell1⟩ := H1.out (by omega)
      have e0 : wo.cell? ⟨b1, o1 + k * 2, none⟩ = some (.int .i64 us[k].start) := by
        rw [hbk.cell (p := ⟨b1, _, none⟩) hb1]; have := hcell1 k us[k] (List.getElem?_eq_getElem hlt) 0 _ rfl; simpa using this
      have e1 : wo.cell? ⟨b1, o1 + k * 2 + 1, none⟩ = some (.int .i64 us[k].fin) := by
        rw [hbk.cell (p := ⟨b1, _, none⟩) hb1]; have := hcell1 k us[k] (List.getElem?_eq_getElem hlt) 1 _ rfl; simpa using this
      clear hcell1
      have HST := hide (fun (l g : Nat) h1 h2 h3 => @begin_store us k hlt l g h1 h2 h3)
      have HSK := hide (fun (lo hi : Int) h1 h2 h3 => @begin_skip us k hlt lo hi h1 h2 h3)
      obtain ⟨x, hxe⟩ : ∃ x, us[k] = x := ⟨_, rfl⟩
      simp only [hxe] at e0 e1 HST HSK
      clear hxe
      obtain ⟨x0, x1⟩ := x
      simp only at e0 e1 HST HSK
      have HKL := hide (show (us.take k).length ≤ 1048576 by rw [List.length_take]; have := HL.out; omega)
      go_upto_region 5 with fail
      obtain ⟨W1, hW1⟩ : ∃ W, wo.alloc (.cells #[.int .i64 x0, .int .i64 x1] 117) = W := ⟨_, rfl⟩
      have f0 : W1.cell? ⟨wo.heap.size, 0, none⟩ = some (.int .i64 x0) := by rw [← hW1]; simp [go_sem]
      have f1 : W1.cell? ⟨wo.heap.size, 1, none⟩ = some (.int .i64 x1) := by rw [← hW1]; simp [go_sem]
      have f2 : wo.heap.size < W1.heap.size := by rw [← hW1]; simp
      have hbx : Below wo.heap.size wo W1 := by rw [← hW1]; exact (Below.refl _ _).alloc (Nat.le_refl _) _
      have HOX := hide (HO.out.below hbx)
      have hgO := (World.ownsRow.lt HO.out _ rfl).2
      have hbw1 := bnext hbk hbx (Nat.le_refl _)
      rw [hW1]
      clear hW1 e0 e1 hbx HO hbk hbs
      obtain ⟨G, hG⟩ : ∃ G, wo.heap.size = G := ⟨_, rfl⟩
      rw [hG] at f0 f1 f2 hgO ⊢
      clear hG
      obtain ⟨lo, hlo⟩ : ∃ lo, max (0 : Int) x0 = lo := ⟨_, rfl⟩
      have hlo0 : 0 ≤ lo := by omega
      have HLO := hide hlo
      obtain ⟨hi, hhi⟩ : ∃ hi, min (2880 : Int) x1 = hi := ⟨_, rfl⟩
      have HHI := hide hhi
      have hi2 : hi ≤ 2880 := by omega
      go_cut [6, 7] (fun s6 s7 wx => s6 = .int .i64 lo ∧ s7 = .int .i64 hi ∧ Below W1.heap.size W1 wx)
      case first =>
        clear HHI HLO HST HSK
        go_region_held3 (fun w' => w'.cell? ⟨G, 0, none⟩ = some (.int .i64 x0) ∧ w'.cell? ⟨G, 1, none⟩ = some (.int .i64 x1) ∧ G < w'.heap.size ∧ Below W1.heap.size W1 w')
          (exact ⟨f0, f1, f2, Below.drew (Below.refl _ _)⟩)
          (fail)
        all_goals
          go_wp2_with fail
          go_meet
          exact ⟨by congr 1; omega, by congr 1; omega, by first | assumption | exact Below.drew (Below.refl _ _)⟩
      case rest =>
        obtain ⟨rfl, rfl, hbc⟩ := hcut
        clear hlo hhi f0 f1 f2
        have HB := hide (bnext hbw1 hbc (Nat.le_refl _))
        have HOC := hide (HOX.out.below hbc)
        have hgC := (World.ownsRow.lt HOC.out _ rfl).2
        clear HOX hbc hbw1 hgO
        obtain ⟨wd, rfl⟩ : ∃ wd : World, wd = wc := ⟨_, rfl⟩
        by_cases hle : lo ≤ hi
        · obtain ⟨l, rfl⟩ : ∃ l : Nat, lo = l := ⟨lo.toNat, by omega⟩
          obtain ⟨g, rfl⟩ : ∃ g : Nat, hi = g := ⟨hi.toNat, by omega⟩
          have hl1 : l < 2882 := by omega
          have hl1' : (l : Int) < 2882 := by omega
          have hg1 : g + 1 < 2882 := by omega
          have hg1' : (g : Int) + 1 < 2882 := by omega
          have hgw : IntKind.i64.wrap ((g : Int) + 1) = ((g + 1 : Nat) : Int) := IntWalk.i64_in _ (by omega)
          have hg1'' : ((g + 1 : Nat) : Int) < 2882 := by omega
          have hbr := begAt_range (us.take k) l
          have hbr2 := begAt_range (us.take k) (g + 1)
          have hkl := HKL.out
          have hfc := ownG_cell encI_len HOC.out hl1 (z := .int .i64 (begAt (us.take k) l)) rfl
          have q1 := hfc.1; have q2 := hfc.2
          clear hfc
          have hlg : l ≠ g + 1 := by omega
          have hfc := ownG_cell encI_len HOC.out hg1 (z := .int .i64 (begAt (us.take k) (g + 1))) rfl
          have q3 := hfc.1; have q4 := hfc.2
          clear hfc
          have HO2 := hide (ownG_store encI_len HOC.out hl1 (x := begAt (us.take k) l + 1) (z := .int .i64 (begAt (us.take k) l + 1)) rfl)
          have HO3 := hide (ownG_store encI_len HO2.out hg1 (x := begAt (us.take k) (g + 1) - 1) (z := .int .i64 (begAt (us.take k) (g + 1) - 1)) rfl)
          have HO4 := hide (show Own _ _ _ _ _ _ (rowG 2882 (begAt (us.take (k + 1)))) by
            rw [← HST.out l g HLO.out.symm HHI.out.symm hle]
            exact HO3.out)
          obtain ⟨y1, hy1⟩ : ∃ y, begAt (us.take k) l = y := ⟨_, rfl⟩
          obtain ⟨y2, hy2⟩ : ∃ y, begAt (us.take k) (g + 1) = y := ⟨_, rfl⟩
          rw [hy1] at q1 hbr HO4
          rw [hy2] at q3 hbr2 HO4
          clear HO2 HO3 HOC HST HSK hy1 hy2
          have hw1 : IntKind.i64.wrap (y1 + 1) = y1 + 1 := IntWalk.i64_in _ (by omega)
          have hw2 : IntKind.i64.wrap (y2 - 1) = y2 - 1 := IntWalk.i64_in _ (by omega)
          have HB3 := hide (show Below w.heap.size w ((wd.setCell ⟨w.heap.size, l, none⟩ (.int .i64 (y1 + 1))).setCell ⟨w.heap.size, g + 1, none⟩ (.int .i64 (y2 - 1))) from (HB.out.setCell (p := ⟨w.heap.size, l, none⟩) (Nat.le_refl _) _).setCell (p := ⟨w.heap.size, g + 1, none⟩) (Nat.le_refl _) _)
          go_wp2_with fail
          go_roundw
          case rel => exact ⟨k + 1, by omega, by first | rfl | go_num, HO4, HB3.out⟩
          case measure => simp [intOf]; omega
        · have HE := hide (show Own wd w.heap.size 135 1 encI (.slice (some ⟨w.heap.size, 0, none⟩) 2882 2882) (rowG 2882 (begAt (us.take (k + 1)))) by rw [← HSK.out lo hi HLO.out.symm HHI.out.symm hle]; exact HOC.out)
          clear HOC HST HSK
          go_wp2_with fail
          go_roundw
          case rel => exact ⟨k + 1, by omega, by first | rfl | go_num, HE, HB.out⟩
          case measure => simp [intOf]; omega
    · obtain rfl : k = us.length := by omega
      have HE := hide (show Own wo w.heap.size 135 1 encI (.slice (some ⟨w.heap.size, 0, none⟩) 2882 2882) (rowG 2882 (begAt us)) by have := HO.out; rw [List.take_length] at this; exact this)
      have hgO := (World.ownsRow.lt HE.out _ rfl).2
      have hb1 : Below w.heap.size w (wo.alloc (.cells #[.int .i64 0] 3)) := hbk.alloc hbs _
      have hst : GaSt (wo.alloc (.cells #[.int .i64 0] 3)) w.heap.size w.heap.size wo.heap.size 135 us 0 :=
        ⟨by simp [go_sem, covTo], by simp [go_sem], by simp, Nat.ne_of_lt hgO, HE.out.below ((Below.refl _ _).alloc (Nat.le_refl _) _)⟩
      have HB1 := hide hb1
      have hs1 : (wo.alloc (.cells #[.int .i64 0] 3)).heap.size = wo.heap.size + 1 := by simp
      have HC := hide (winsGath_any w.heap.size w.heap.size wo.heap.size 135 us HL.out _ (Nat.lt_of_lt_of_le hgO (by rw [hs1]; omega)) (by rw [hs1]; omega) hst)
      clear HO hlt hst hb1 HE hbk
      go_wp2_with (go_at_call 96; (with_reducible refine HC.out.mono ?_); rintro e w3 ⟨u, rfl, ho3, hw3⟩)
      have HB3 := hide (HB1.out.trans (hw3.below (Nat.le_of_lt hgO) HB1.out.size))
      have HO3 := hide (ho3.mono (base' := w.heap.size) HB1.out.size)
      clear ho3 hw3
      go_wp2
      go_ret
      exact ⟨_, rfl, HO3.out, HB3.out⟩
end Go.Proofs.Ytjfppjhlkeopnaa
