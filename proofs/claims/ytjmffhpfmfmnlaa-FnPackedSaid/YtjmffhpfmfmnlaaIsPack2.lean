/- Whether ships fit into given lanes: the program. No condition. -/
import Derived.Test.YtjmffhpfmfmnlaaIsPack
namespace Go.Proofs.Ytjmffhpfmfmnlaa
open Go.RowKit
set_option linter.unusedVariables false
set_option maxRecDepth 100000 in
set_option maxHeartbeats 8000000 in
theorem impl_IsPacking_any (x0 x1 x2 : Int) (v1 v2 : Value) (ns ls : List Int) (w : World) (h1 : RdI w v1 ns) (h2 : RdI w v2 ls) :
    Calls Try.prog 15 #[.agg #[.int .i64 x0, .int .i64 x1, .int .i64 x2], v1, v2] w fun e w' => e = .returned (.bool (isPacking x0 x1 x2 ns ls)) ∧ Below w.heap.size w w' := by
  have HR1 := hide h1
  obtain ⟨A1, c1, rfl, hc1, hm1, h1⟩ := h1
  obtain ⟨A2, c2, rfl, hc2, hm2, h2⟩ := h2
  unfold maxLen at hm1 hm2
  rcases ch3 (chOk x0 x1 x2) (lengthsOk ns) (decide (ls.length = ns.length)) with ⟨g1, g2, g3⟩ | g1 | ⟨g1, g2⟩ | ⟨g1, g2, g3⟩
  · have hll : ls.length = ns.length := by simpa using g3
    have hne : ((ls.length : Int) != (ns.length : Int)) = false := by simp [hll]
    obtain ⟨a0, a1, a2, a3, a4, a5⟩ := chOk_of g1
    obtain ⟨l8, hns⟩ := lengthsOk_of g2
    have HNS := hide hns; clear hns
    obtain ⟨m, rfl⟩ : ∃ m : Nat, x1 = m := ⟨x1.toNat, by omega⟩
    have HP := hide (show isPacking x0 m x2 ns ls = packsL x0 m ns ls zeroU by unfold isPacking; rw [g1, g2, g3, Int.toNat_natCast]; rfl)
    have hm3 : m ≤ 3 := by omega
    have G1 := hide g1; have G2 := hide g2; have HLL := hide hll; clear hll g3
    have H1 := hide h1; have H2 := hide h2; clear h1 h2
    go_enter Try.func15, Try.ntmps15
    go_wp2_with (first
      | (go_at_call 28; with_reducible refine (impl_ChamberOk_any _ _ _ _).mono ?_; rintro e w1 ⟨rfl, hb'⟩; (first | have hb := bnext hb hb' | have hb := bnextA hb hb' | have hb := hb'); clear hb'; obtain ⟨hc, hf⟩ := bcell hb; have hz := hb.size; (try simp at hz))
      | (go_at_call 29; with_reducible refine (impl_LengthsOk_any _ ns _ ((RdB.keep HR1.out (B' := w.heap.size) (by repeat (first | exact Below.refl _ _ | assumption | refine Below.setCell ?_ (by first | omega | (simp <;> omega)) _ | refine Below.alloc ?_ (by first | omega | (simp <;> omega)) _ | refine below_drewN ?_ _ | refine Below.drew ?_ | refine Below.trans ?_ (Below.mono (by assumption) (by first | omega | (simp <;> omega))))) (Nat.le_refl _)).mono (by first | omega | (simp <;> omega)))).mono ?_; rintro e w1 ⟨rfl, hb'⟩; (first | have hb := bnext hb hb' | have hb := bnextA hb hb' | have hb := hb'); clear hb'; obtain ⟨hc, hf⟩ := bcell hb; have hz := hb.size; (try simp at hz)))
    have z0 : w1.cell? ⟨w.heap.size, 0, none⟩ = some (.int .i64 x0) := by rw [hc _ _ (by simp)]; simp [go_sem]
    have z1 : w1.cell? ⟨w.heap.size, 1, none⟩ = some (.int .i64 m) := by rw [hc _ _ (by simp)]; simp [go_sem]
    have z2 : w1.cell? ⟨w.heap.size, 2, none⟩ = some (.int .i64 x2) := by rw [hc _ _ (by simp)]; simp [go_sem]
    have hs1 := hb.size
    simp only [World.size_alloc] at hs1
    have hbw1 : Below w.heap.size w w1 := (by repeat (first | exact Below.refl _ _ | assumption | refine Below.setCell ?_ (by first | omega | (simp <;> omega)) _ | refine Below.alloc ?_ (by first | omega | (simp <;> omega)) _ | refine below_drewN ?_ _ | refine Below.drew ?_ | refine Below.trans ?_ (Below.mono (by assumption) (by first | omega | (simp <;> omega)))))
    have hB2 : Below w1.heap.size w1 (w1.alloc (.cells #[.int .i64 0, .int .i64 0, .int .i64 0] 73)) := (Below.refl _ _).alloc (Nat.le_refl _) _
    have hl1 : w.heap.size < w1.heap.size := by omega
    have y0 := cellKeep hB2 z0 hl1; have y1 := cellKeep hB2 z1 hl1; have y2 := cellKeep hB2 z2 hl1
    have hbw2 := hbw1.trans (hB2.mono (by omega))
    have hu3 : ∀ j, j < 3 → (w1.alloc (.cells #[.int .i64 0, .int .i64 0, .int .i64 0] 73)).cell? ⟨w1.heap.size, j, none⟩ = some (.int .i64 (zeroU j)) ∧ (w1.alloc (.cells #[.int .i64 0, .int .i64 0, .int .i64 0] 73)).frozen? ⟨w1.heap.size, j, none⟩ = false := by
      intro j hj
      obtain rfl | rfl | rfl : j = 0 ∨ j = 1 ∨ j = 2 := by omega
      all_goals simp [go_sem, zeroU]
    have hgs : w1.heap.size < (w1.alloc (.cells #[.int .i64 0, .int .i64 0, .int .i64 0] 73)).heap.size := by simp
    generalize w1.alloc (.cells #[.int .i64 0, .int .i64 0, .int .i64 0] 73) = w2 at hB2 y0 y1 y2 hbw2 hu3 hgs ⊢
    obtain ⟨g, hgg⟩ : ∃ g, w1.heap.size = g := ⟨_, rfl⟩
    rw [hgg] at hl1 hu3 hgs ⊢
    have HU3 := hide hu3
    clear hB2 z0 z1 z2 hbw1 hs1 hgg hc hf hz hb g1 g2 hu3
    go_wp2_with fail
    go_loopw [27] (fun s wr => ∃ (k : Nat) (u : Nat → Int), k ≤ ns.length ∧ s = .int .i64 k ∧ Hid (packsL x0 m (ns.drop k) (ls.drop k) u = packsL x0 m ns ls zeroU) ∧ Hid (∀ j, j < 3 → wr.cell? ⟨g, j, none⟩ = some (.int .i64 (u j)) ∧ wr.frozen? ⟨g, j, none⟩ = false) ∧ Hid (∀ j, j < 3 → 0 ≤ u j ∧ u j ≤ x0) ∧ wr.cell? ⟨w.heap.size, 0, none⟩ = some (.int .i64 x0) ∧ wr.cell? ⟨w.heap.size, 1, none⟩ = some (.int .i64 m) ∧ wr.cell? ⟨w.heap.size, 2, none⟩ = some (.int .i64 x2) ∧ g < wr.heap.size ∧ Below w.heap.size w wr) (fun s _ => ns.length - (intOf s).toNat)
    case atStart => exact ⟨0, zeroU, Nat.zero_le _, rfl, hide rfl, HU3, hide (fun j hj => ⟨by simp [zeroU], by simp [zeroU]; omega⟩), y0, y1, y2, hgs, hbw2⟩
    case round =>
      clear y0 y1 y2 hbw2 hgs HU3
      obtain ⟨k, u, hk, rfl, HN, HCU, HUB, z0, z1, z2, hgl, hbk⟩ := hrel
      obtain ⟨wo, rfl⟩ : ∃ wo : World, wo = wr := ⟨_, rfl⟩
      have hbs := hbk.size
      by_cases hlt : k < ns.length
      · have hlt2 : k < ls.length := by have := HLL.out; omega
        have hlt' : (k : Int) < ns.length := by omega
        have hlt2' : (k : Int) < ls.length := by omega
        obtain ⟨b1, o1, rfl, hb1, hcell1⟩ := H1.out (by omega)
        obtain ⟨b2, o2, rfl, hb2, hcell2⟩ := H2.out (by omega)
        have e0 : w.cell? ⟨b1, o1 + k, none⟩ = some (.int .i64 ns[k]) := by have := hcell1 k ns[k] (List.getElem?_eq_getElem hlt) 0 _ rfl; simpa using this
        have f0 : w.cell? ⟨b2, o2 + k, none⟩ = some (.int .i64 ls[k]) := by have := hcell2 k ls[k] (List.getElem?_eq_getElem hlt2) 0 _ rfl; simpa using this
        replace e0 := cellKeep hbk e0 hb1; replace f0 := cellKeep hbk f0 hb2
        clear hcell1 hcell2
        have HST := hide (packsL_step (L := x0) (m := m) (u := u) hlt hlt2)
        have hx := HNS.out ns[k] (List.getElem_mem hlt)
        obtain ⟨x, hxe⟩ : ∃ x, ns[k] = x := ⟨_, rfl⟩
        obtain ⟨a, hae⟩ : ∃ a, ls[k] = a := ⟨_, rfl⟩
        rw [hxe] at e0 hx HST; rw [hae] at f0 HST
        clear hxe hae
        have hx0 := hx.1; have hx1 := hx.2; clear hx
        have hq1 : b1 < wo.heap.size := by omega
        have hq2 : b2 < wo.heap.size := by omega
        have hq3 : w.heap.size < wo.heap.size := by omega
        rcases ch1 (inB a 0 ((m : Int) - 1)) with ga | ga
        · obtain ⟨ai, rfl, hai⟩ : ∃ ai : Nat, a = ai ∧ ai < m := by simp [inB] at ga; exact ⟨a.toNat, by omega, by omega⟩
          have HGA := hide ga
          rw [Int.toNat_natCast] at HST
          have hai' : (ai : Int) < m := by omega
          have hai3 : ai < 3 := by omega
          have hai3' : (ai : Int) < 3 := by omega
          have hu0 := (HUB.out ai hai3).1; have hu1 := (HUB.out ai hai3).2
          have r1 := (HCU.out ai hai3).1; have r2 := (HCU.out ai hai3).2
          go_wp2_with (go_at_call 53; with_reducible refine (isIndexB _ _ ((m : Int) - 1) _ (by omega)).mono ?_; rintro e w' ⟨rfl, hw⟩; obtain rfl := hw.symm)
          clear ga
          go_still_tail 9, (by kernel_rfl)
          change wpList _ _ _ _ _ wo.drew
          have hbd : Below wo.heap.size wo wo.drew := Below.drew (Below.refl _ _)
          have HC1 : ∀ j, j < 3 → wo.drew.cell? ⟨g, j, none⟩ = some (.int .i64 (u j)) ∧ wo.drew.frozen? ⟨g, j, none⟩ = false := fun j hj => HCU.out j hj
          have s1 := (HC1 ai hai3).1; have s2 := (HC1 ai hai3).2
          have s4 := cellKeep hbd f0 (by omega)
          have s5 := cellKeep hbd z0 (by omega); have s6 := cellKeep hbd z1 (by omega); have s7 := cellKeep hbd z2 (by omega)
          have s3 := cellKeep hbd e0 (by omega)
          generalize wo.drew = W1 at hbd HC1 s1 s2 s3 s4 s5 s6 s7 ⊢
          have HC2 := hide HC1; clear HC1
          have hsx := hbd.size
          have hbz : Below w.heap.size w (W1.setCell ⟨g, ai, none⟩ (.int .i64 (u ai + x))) := (bnext hbk hbd (Nat.le_refl _)).setCell (p := ⟨g, ai, none⟩) (by simp; omega) _
          have hgw2 : g ≠ w.heap.size := by omega
          have hgb2 : g ≠ b2 := by omega
          have q5 : (W1.setCell ⟨g, ai, none⟩ (.int .i64 (u ai + x))).cell? ⟨w.heap.size, 0, none⟩ = some (.int .i64 x0) := (World.cell?_setCell_other _ _ _ _ (fun e => hgw2 (congrArg Addr.block e))).trans s5
          have q6 : (W1.setCell ⟨g, ai, none⟩ (.int .i64 (u ai + x))).cell? ⟨w.heap.size, 1, none⟩ = some (.int .i64 m) := (World.cell?_setCell_other _ _ _ _ (fun e => hgw2 (congrArg Addr.block e))).trans s6
          have q7 : (W1.setCell ⟨g, ai, none⟩ (.int .i64 (u ai + x))).cell? ⟨w.heap.size, 2, none⟩ = some (.int .i64 x2) := (World.cell?_setCell_other _ _ _ _ (fun e => hgw2 (congrArg Addr.block e))).trans s7
          have q4 : (W1.setCell ⟨g, ai, none⟩ (.int .i64 (u ai + x))).cell? ⟨b2, o2 + k, none⟩ = some (.int .i64 ai) := (World.cell?_setCell_other _ _ _ _ (fun e => hgb2 (congrArg Addr.block e))).trans s4
          have HC3 := hide (show ∀ j, j < 3 → (W1.setCell ⟨g, ai, none⟩ (.int .i64 (u ai + x))).cell? ⟨g, j, none⟩ = some (.int .i64 (addAt u ai x j)) ∧ (W1.setCell ⟨g, ai, none⟩ (.int .i64 (u ai + x))).frozen? ⟨g, j, none⟩ = false by
            intro j hj
            have h := HC2.out j hj
            refine ⟨?_, by simpa [go_sem] using h.2⟩
            by_cases e : j = ai
            · subst e
              rw [World.cell?_setCell_same _ _ _ s1]; simp [addAt]
            · rw [World.cell?_setCell_other _ _ _ _ (fun h => e (congrArg Addr.off h).symm), h.1]; simp [addAt, e])
          have hoc : (W1.setCell ⟨g, ai, none⟩ (.int .i64 (u ai + x))).cell? ⟨g, ai, none⟩ = some (.int .i64 (u ai + x)) := World.cell?_setCell_same _ _ _ s1
          have hgl2 : g < (W1.setCell ⟨g, ai, none⟩ (.int .i64 (u ai + x))).heap.size := by simp [World.setCell]; omega
          go_wp2_with fail
          generalize (W1.setCell ⟨g, ai, none⟩ (.int .i64 (u ai + x))) = W3 at HC3 hoc hbz q4 q5 q6 q7 hgl2 ⊢
          clear s1 s2 s3 s4 s5 s6 s7
          by_cases hfit : u ai + x ≤ x0
          · have hdec : decide (x0 < u ai + x) = false := by simp; omega
            go_quiet (fail)
            go_wp2
            go_roundw
            case rel => exact ⟨k + 1, addAt u ai x, by omega, by go_num, hide (by rw [← HN.out, HST.out, HGA.out]; simp [hfit]), HC3, hide (fun j hj => by have h1 := HUB.out j hj; unfold addAt; split; exact ⟨by omega, by omega⟩; exact h1), by simpa [go_sem] using q5, by simpa [go_sem] using q6, by simpa [go_sem] using q7, by simpa using hgl2, (by repeat (first | exact Below.refl _ _ | assumption | refine Below.setCell ?_ (by first | omega | (simp <;> omega)) _ | refine Below.alloc ?_ (by first | omega | (simp <;> omega)) _ | refine below_drewN ?_ _ | refine Below.drew ?_ | refine Below.trans ?_ (Below.mono (by assumption) (by first | omega | (simp <;> omega)))))⟩
            case measure => simp [intOf]; omega
          · have hdec : decide (x0 < u ai + x) = true := by simp; omega
            have HF := hide (show isPacking x0 m x2 ns ls = false by rw [HP.out, ← HN.out, HST.out]; simp [hfit])
            clear hfit
            go_quiet (fail)
            go_wp2
            go_ret
            exact ⟨by rw [HF.out]; rfl, (by repeat (first | exact Below.refl _ _ | assumption | refine Below.setCell ?_ (by first | omega | (simp <;> omega)) _ | refine Below.alloc ?_ (by first | omega | (simp <;> omega)) _ | refine below_drewN ?_ _ | refine Below.drew ?_ | refine Below.trans ?_ (Below.mono (by assumption) (by first | omega | (simp <;> omega)))))⟩
        · have HF := hide (show isPacking x0 m x2 ns ls = false by rw [HP.out, ← HN.out, HST.out, ga]; rfl)
          go_wp2_with (go_at_call 53; with_reducible refine (isIndexB _ _ ((m : Int) - 1) _ (by omega)).mono ?_; rintro e w' ⟨rfl, hw⟩; obtain rfl := hw.symm)
          go_ret
          exact ⟨by rw [HF.out]; rfl, hbk⟩
      · have HT := hide (show isPacking x0 m x2 ns ls = true by rw [HP.out, ← HN.out]; exact packsL_end (by omega))
        have hxl : (ls.length : Int) ≤ k := by have := HLL.out; omega
        go_wp2
        go_ret
        exact ⟨by rw [HT.out]; rfl, hbk⟩
  all_goals
    have HP := hide (show isPacking x0 x1 x2 ns ls = false by unfold isPacking; simp [*])
    try have hne : ((ls.length : Int) != (ns.length : Int)) = true := by simp at g3 ⊢; omega
    try (have G3 := hide g3; clear g3)
    go_enter Try.func15, Try.ntmps15
    go_wp2_with (first
      | (go_at_call 28; with_reducible refine (impl_ChamberOk_any _ _ _ _).mono ?_; rintro e w1 ⟨rfl, hb'⟩; (first | have hb := bnext hb hb' | have hb := bnextA hb hb' | have hb := hb'); clear hb'; obtain ⟨hc, hf⟩ := bcell hb; have hz := hb.size; (try simp at hz))
      | (go_at_call 29; with_reducible refine (impl_LengthsOk_any _ ns _ ((RdB.keep HR1.out (B' := w.heap.size) (by repeat (first | exact Below.refl _ _ | assumption | refine Below.setCell ?_ (by first | omega | (simp <;> omega)) _ | refine Below.alloc ?_ (by first | omega | (simp <;> omega)) _ | refine below_drewN ?_ _ | refine Below.drew ?_ | refine Below.trans ?_ (Below.mono (by assumption) (by first | omega | (simp <;> omega))))) (Nat.le_refl _)).mono (by first | omega | (simp <;> omega)))).mono ?_; rintro e w1 ⟨rfl, hb'⟩; (first | have hb := bnext hb hb' | have hb := bnextA hb hb' | have hb := hb'); clear hb'; obtain ⟨hc, hf⟩ := bcell hb; have hz := hb.size; (try simp at hz)))
    go_ret
    exact ⟨by rw [HP.out]; rfl, (by repeat (first | exact Below.refl _ _ | assumption | refine Below.setCell ?_ (by first | omega | (simp <;> omega)) _ | refine Below.alloc ?_ (by first | omega | (simp <;> omega)) _ | refine below_drewN ?_ _ | refine Below.drew ?_ | refine Below.trans ?_ (Below.mono (by assumption) (by first | omega | (simp <;> omega)))))⟩
end Go.Proofs.Ytjmffhpfmfmnlaa
