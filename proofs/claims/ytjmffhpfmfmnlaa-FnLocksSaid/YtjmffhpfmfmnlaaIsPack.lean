/- Whether ships fit into given lanes. No condition. -/
import Derived.Test.YtjmffhpfmfmnlaaPack3
namespace Go.Proofs.Ytjmffhpfmfmnlaa
open Go.RowKit
set_option linter.unusedVariables false
theorem calls_bool {P : Program} {f : FuncId} {args : Array Value} {w : World} {R : World → Prop} {b c : Bool} (h : Calls P f args w fun e w' => e = .returned (.bool b) ∧ R w') (hb : b = c) : Calls P f args w fun e w' => e = .returned (.bool c) ∧ R w' := hb ▸ h
/-- the ships ns fit into the lanes ls that are filled to u -/
def packsL (L : Int) (m : Nat) : List Int → List Int → (Nat → Int) → Bool
  | n :: ns, a :: ls, u => inB a 0 ((m : Int) - 1) && decide (u a.toNat + n ≤ L) && packsL L m ns ls (addAt u a.toNat n)
  | _, _, _ => true
def isPacking (x0 x1 x2 : Int) (ns ls : List Int) : Bool := chOk x0 x1 x2 && lengthsOk ns && decide (ls.length = ns.length) && packsL x0 x1.toNat ns ls zeroU
theorem packsL_step {L : Int} {m : Nat} {ns ls : List Int} {u : Nat → Int} {k : Nat} (h1 : k < ns.length) (h2 : k < ls.length) : packsL L m (ns.drop k) (ls.drop k) u = (inB ls[k] 0 ((m : Int) - 1) && decide (u ls[k].toNat + ns[k] ≤ L) && packsL L m (ns.drop (k + 1)) (ls.drop (k + 1)) (addAt u ls[k].toNat ns[k])) := by
  rw [List.drop_eq_getElem_cons h1, List.drop_eq_getElem_cons h2, packsL]
theorem packsL_end {L : Int} {m : Nat} {ns ls : List Int} {u : Nat → Int} {k : Nat} (h1 : ns.length ≤ k) : packsL L m (ns.drop k) (ls.drop k) u = true := by
  rw [List.drop_eq_nil_of_le h1]; rfl
set_option maxRecDepth 100000 in
set_option maxHeartbeats 8000000 in
theorem spec_IsPacking_any (x0 x1 x2 : Int) (v1 v2 : Value) (ns ls : List Int) (w : World) (h1 : RdI w v1 ns) (h2 : RdI w v2 ls) :
    Calls Try.prog 12 #[.agg #[.int .i64 x0, .int .i64 x1, .int .i64 x2], v1, v2] w fun e w' => e = .returned (.bool (isPacking x0 x1 x2 ns ls)) ∧ Below w.heap.size w w' := by
  have HR1 := hide h1
  obtain ⟨A1, c1, rfl, hc1, hm1, h1⟩ := h1
  obtain ⟨A2, c2, rfl, hc2, hm2, h2⟩ := h2
  unfold maxLen at hm1 hm2
  rcases ch3 (chOk x0 x1 x2) (lengthsOk ns) (decide (ls.length = ns.length)) with ⟨g1, g2, g3⟩ | g1 | ⟨g1, g2⟩ | ⟨g1, g2, g3⟩
  · have hll : ls.length = ns.length := by simpa using g3
    have hne : ((ls.length : Int) != (ns.length : Int)) = false := by simp [hll]
    obtain ⟨a0, a1, a2, a3, a4, a5⟩ := chOk_of g1
    obtain ⟨l8, hns⟩ := lengthsOk_of g2
    have HNS := hide hns; clear hns
    obtain ⟨m, rfl⟩ : ∃ m : Nat, x1 = m := ⟨x1.toNat, by omega⟩
    have HP := hide (show isPacking x0 m x2 ns ls = packsL x0 m ns ls zeroU by unfold isPacking; rw [g1, g2, g3, Int.toNat_natCast]; rfl)
    have hm3 : m ≤ 3 := by omega
    have G1 := hide g1; have G2 := hide g2; have HLL := hide hll; clear hll g3
    obtain ⟨i0, hi, hz0, hz1, hz2⟩ := info_parts int_info
    have H1 := hide h1; have H2 := hide h2; clear h1 h2
    go_enter Try.func12, Try.ntmps12
    go_wp2_with (first
      | (go_at_call 50; with_reducible refine (spec_ChamberOk_any _ _ _ _).mono ?_; rintro e w1 ⟨rfl, hb'⟩; (first | have hb := bnext hb hb' | have hb := bnextA hb hb' | have hb := hb'); clear hb'; obtain ⟨hc, hf⟩ := bcell hb; have hz := hb.size; (try simp at hz))
      | (go_at_call 51; with_reducible refine (spec_LengthsOk_any _ ns _ ((RdB.keep HR1.out (B' := w.heap.size) (by repeat (first | exact Below.refl _ _ | assumption | refine Below.setCell ?_ (by first | omega | (simp <;> omega)) _ | refine Below.alloc ?_ (by first | omega | (simp <;> omega)) _ | refine below_drewN ?_ _ | refine Below.drew ?_ | refine Below.trans ?_ (Below.mono (by assumption) (by first | omega | (simp <;> omega))))) (Nat.le_refl _)).mono (by first | omega | (simp <;> omega)))).mono ?_; rintro e w1 ⟨rfl, hb'⟩; (first | have hb := bnext hb hb' | have hb := bnextA hb hb' | have hb := hb'); clear hb'; obtain ⟨hc, hf⟩ := bcell hb; have hz := hb.size; (try simp at hz))
      | (refine wpList_make_full _ rfl _ _ _ rfl w.heap.size 3 i0 _ 1 Try.underlying24 hi hz0 hz1 _ _ _ _ m rfl rfl rfl rfl (by rw [hz2]; omega) (by unfold maxLen; omega) (by have := hb.size; simp at this; omega) ?_; intro w2 hown hg))
    have z0 : w1.cell? ⟨w.heap.size, 0, none⟩ = some (.int .i64 x0) := by rw [hc _ _ (by simp)]; simp [go_sem]
    have z1 : w1.cell? ⟨w.heap.size, 1, none⟩ = some (.int .i64 m) := by rw [hc _ _ (by simp)]; simp [go_sem]
    have z2 : w1.cell? ⟨w.heap.size, 2, none⟩ = some (.int .i64 x2) := by rw [hc _ _ (by simp)]; simp [go_sem]
    have hs1 := hb.size
    simp only [World.size_alloc] at hs1
    have hbw1 : Below w.heap.size w w1 := (by repeat (first | exact Below.refl _ _ | assumption | refine Below.setCell ?_ (by first | omega | (simp <;> omega)) _ | refine Below.alloc ?_ (by first | omega | (simp <;> omega)) _ | refine below_drewN ?_ _ | refine Below.drew ?_ | refine Below.trans ?_ (Below.mono (by assumption) (by first | omega | (simp <;> omega)))))
    have hB2 : Below w1.heap.size w1 w2 := (Below.refl _ _).grown hg (Nat.le_refl _) (by simp)
    have hou := own_zero hown
    rw [← usedL_zero] at hou
    have hl1 : w.heap.size < w1.heap.size := by omega
    have y0 := cellKeep hB2 z0 hl1; have y1 := cellKeep hB2 z1 hl1; have y2 := cellKeep hB2 z2 hl1
    have hbw2 := hbw1.trans (hB2.mono (by omega))
    have hg2 := (Own.lt hou _ rfl).2
    obtain ⟨g, hgg⟩ : ∃ g, w1.heap.size = g := ⟨_, rfl⟩
    rw [hgg] at hou hl1 hg2 ⊢
    have hgw : w.heap.size < g := hl1
    have hgs : g < w2.heap.size := hg2
    clear hown hg hB2 z0 z1 z2 hbw1 hs1 hgg hl1 hg2 hc hf hz hb g1 g2
    go_wp2_with fail
    go_loopw [30] (fun s wr => ∃ (k : Nat) (u : Nat → Int), k ≤ ns.length ∧ s = .int .i64 k ∧ Hid (packsL x0 m (ns.drop k) (ls.drop k) u = packsL x0 m ns ls zeroU) ∧ Own wr w.heap.size 3 1 encI (.slice (some ⟨g, 0, none⟩) m m) (usedL m u) ∧ Hid (∀ j, j < m → 0 ≤ u j ∧ u j ≤ x0) ∧ wr.cell? ⟨w.heap.size, 0, none⟩ = some (.int .i64 x0) ∧ wr.cell? ⟨w.heap.size, 1, none⟩ = some (.int .i64 m) ∧ wr.cell? ⟨w.heap.size, 2, none⟩ = some (.int .i64 x2) ∧ g < wr.heap.size ∧ Below w.heap.size w wr) (fun s _ => ns.length - (intOf s).toNat)
    case atStart => exact ⟨0, zeroU, Nat.zero_le _, rfl, hide rfl, hou, hide (fun j hj => ⟨by simp [zeroU], by simp [zeroU]; omega⟩), y0, y1, y2, hgs, hbw2⟩
    case round =>
      clear hou y0 y1 y2 hbw2 hgs
      obtain ⟨k, u, hk, rfl, HN, hou, HUB, z0, z1, z2, hgl, hbk⟩ := hrel
      obtain ⟨wo, rfl⟩ : ∃ wo : World, wo = wr := ⟨_, rfl⟩
      have hbs := hbk.size
      by_cases hlt : k < ns.length
      · have hlt2 : k < ls.length := by have := HLL.out; omega
        have hlt' : (k : Int) < ns.length := by omega
        have hlt2' : (k : Int) < ls.length := by omega
        obtain ⟨b1, o1, rfl, hb1, hcell1⟩ := H1.out (by omega)
        obtain ⟨b2, o2, rfl, hb2, hcell2⟩ := H2.out (by omega)
        have e0 : w.cell? ⟨b1, o1 + k, none⟩ = some (.int .i64 ns[k]) := by have := hcell1 k ns[k] (List.getElem?_eq_getElem hlt) 0 _ rfl; simpa using this
        have f0 : w.cell? ⟨b2, o2 + k, none⟩ = some (.int .i64 ls[k]) := by have := hcell2 k ls[k] (List.getElem?_eq_getElem hlt2) 0 _ rfl; simpa using this
        replace e0 := cellKeep hbk e0 hb1; replace f0 := cellKeep hbk f0 hb2
        clear hcell1 hcell2
        have HST := hide (packsL_step (L := x0) (m := m) (u := u) hlt hlt2)
        have hx := HNS.out ns[k] (List.getElem_mem hlt)
        obtain ⟨x, hxe⟩ : ∃ x, ns[k] = x := ⟨_, rfl⟩
        obtain ⟨a, hae⟩ : ∃ a, ls[k] = a := ⟨_, rfl⟩
        rw [hxe] at e0 hx HST; rw [hae] at f0 HST
        clear hxe hae
        have hx0 := hx.1; have hx1 := hx.2; clear hx
        have HWR := hide (show IntKind.i64.wrap ((m : Int) - 1) = (m : Int) - 1 from IntWalk.i64_in _ (by omega))
        have HOU := hide hou; clear hou
        have hq1 : b1 < wo.heap.size := by omega
        have hq2 : b2 < wo.heap.size := by omega
        have hq3 : w.heap.size < wo.heap.size := by omega
        go_wp2_with fail
        rcases ch1 (inB a 0 ((m : Int) - 1)) with ga | ga
        · have C0 := fun w : World => calls_bool (l01In_any a 0 (IntKind.i64.wrap ((m : Int) - 1)) w) (show _ = true by rw [HWR.out]; exact ga)
          refine wp_region_below (Below.refl wo.heap.size _) (by kernel_rfl) (by kernel_rfl) ?_
          repeat (first
            | go_big_quiet_skip
            | (go_big_quiet_want
               first
                | (refine quiet_value ?_; apply Exists.intro
                   refine ⟨fun wq hq => ?_, ?_⟩
                   · (obtain ⟨hc, hf⟩ := bcell hq; go_simp; first | done | rfl)
                   go_big_quiet_on
                   simp only [Act.put, List.setIfInBounds_toArray, List.set_cons_zero, List.set_cons_succ])
                | (refine quiet_call ?_; apply Exists.intro; apply Exists.intro; apply Exists.intro
                   refine ⟨fun wq hq => ?_, fun wq hq => ?_, ?_⟩
                   · (obtain ⟨hc, hf⟩ := bcell hq; go_simp; exact ⟨rfl, rfl⟩)
                   · (first | with_reducible exact (C0 _).mono fun e w'' ⟨he, hw⟩ => ⟨he, hw ▸ hq⟩ | with_reducible exact (C0 _).mono fun e w'' ⟨he, hb'⟩ => ⟨he, bnext hq hb'⟩ |  exact (C0 _).mono fun e w'' ⟨he, hb'⟩ => ⟨he, bnext hq hb'⟩ |  exact (C0 _).mono fun e w'' ⟨he, hw⟩ => ⟨he, hw ▸ hq⟩)
                   go_big_quiet_on
                   simp only [Act.put, List.setIfInBounds_toArray, List.set_cons_zero, List.set_cons_succ])
                | (go_big_quiet_op; go_big_quiet_on)
               ))
          refine wpQuiet_nil (fun wq hbq => ?_)
          clear C0
          obtain ⟨ai, rfl, hai⟩ : ∃ ai : Nat, a = ai ∧ ai < m := by simp [inB] at ga; exact ⟨a.toNat, by omega, by omega⟩
          have HGA := hide ga; clear ga
          rw [Int.toNat_natCast] at HST
          have hai' : (ai : Int) < m := by omega
          have hai3 : ai < 3 := by omega
          have hu0 := (HUB.out ai hai).1; have hu1 := (HUB.out ai hai).2
          have hlq := hbq.size
          have hbx : Below wo.heap.size wo wq.drew := Below.drew hbq
          have hou2 := HOU.out.below hbq
          have hoc : wq.cell? ⟨g, ai, none⟩ = some (.int .i64 (u ai)) ∧ wq.frozen? ⟨g, ai, none⟩ = false := by
            have := Own.cells (i := ai) (j := 0) (u := .int .i64 (u ai)) encI_len (by rw [usedL_len]; exact hou2) (by rw [usedL_len]; exact hai) (by rw [usedL_at m u hai]; rfl)
            simpa using this
          have r1 := hoc.1; have r2 := hoc.2
          have r3 := cellKeep hbq e0 hq1; have r4 := cellKeep hbq f0 hq2
          have r5 := cellKeep hbq z0 hq3; have r6 := cellKeep hbq z1 hq3; have r7 := cellKeep hbq z2 hq3
          clear e0 f0 z0 z1 z2 hou2 hoc
          go_wp2_with fail
          go_still_tail 15, (by kernel_rfl)
          change wpList _ _ _ _ _ wq.drew
          have hbd : Below wq.heap.size wq wq.drew := Below.drew (Below.refl _ _)
          have s1 := cellKeep hbd r1 (by omega); have s2 := frozenKeep hbd r2 (by omega)
          have s3 := cellKeep hbd r3 (by omega); have s4 := cellKeep hbd r4 (by omega)
          have s5 := cellKeep hbd r5 (by omega); have s6 := cellKeep hbd r6 (by omega); have s7 := cellKeep hbd r7 (by omega)
          generalize wq.drew = W1 at s1 s2 s3 s4 s5 s6 s7 hbx ⊢
          clear r1 r2 r3 r4 r5 r6 r7 hbd
          have hsx := hbx.size
          have hou3 : Own (W1.setCell ⟨g, ai, none⟩ (.int .i64 (u ai + x))) w.heap.size 3 1 encI (.slice (some ⟨g, 0, none⟩) m m) (usedL m (addAt u ai x)) := by
            have := Own.setRow (i := ai) encI_len (by rw [usedL_len]; exact HOU.out.below hbx) (by rw [usedL_len]; exact hai) (u ai + x)
            rw [usedL_len, usedL_set] at this
            simpa [storeRow] using this
          have hoc : (W1.setCell ⟨g, ai, none⟩ (.int .i64 (u ai + x))).cell? ⟨g, ai, none⟩ = some (.int .i64 (u ai + x)) := by
            have := Own.cells (i := ai) (j := 0) (u := .int .i64 (u ai + x)) encI_len (by rw [usedL_len]; exact hou3) (by rw [usedL_len]; exact hai) (by rw [usedL_at m _ hai]; simp [addAt])
            simpa using this.1
          have hbz : Below w.heap.size w (W1.setCell ⟨g, ai, none⟩ (.int .i64 (u ai + x))) := (bnext hbk hbx (Nat.le_refl _)).setCell (p := ⟨g, ai, none⟩) (by simp; omega) _
          have hgw2 : g ≠ w.heap.size := by omega
          have hgb2 : g ≠ b2 := by omega
          have q5 : (W1.setCell ⟨g, ai, none⟩ (.int .i64 (u ai + x))).cell? ⟨w.heap.size, 0, none⟩ = some (.int .i64 x0) := (World.cell?_setCell_other _ _ _ _ (fun e => hgw2 (congrArg Addr.block e))).trans s5
          have q6 : (W1.setCell ⟨g, ai, none⟩ (.int .i64 (u ai + x))).cell? ⟨w.heap.size, 1, none⟩ = some (.int .i64 m) := (World.cell?_setCell_other _ _ _ _ (fun e => hgw2 (congrArg Addr.block e))).trans s6
          have q7 : (W1.setCell ⟨g, ai, none⟩ (.int .i64 (u ai + x))).cell? ⟨w.heap.size, 2, none⟩ = some (.int .i64 x2) := (World.cell?_setCell_other _ _ _ _ (fun e => hgw2 (congrArg Addr.block e))).trans s7
          have q4 : (W1.setCell ⟨g, ai, none⟩ (.int .i64 (u ai + x))).cell? ⟨b2, o2 + k, none⟩ = some (.int .i64 ai) := (World.cell?_setCell_other _ _ _ _ (fun e => hgb2 (congrArg Addr.block e))).trans s4
          have hgl2 : g < (W1.setCell ⟨g, ai, none⟩ (.int .i64 (u ai + x))).heap.size := by simp [World.setCell]; omega
          go_wp2_with fail
          generalize (W1.setCell ⟨g, ai, none⟩ (.int .i64 (u ai + x))) = W3 at hou3 hoc hbz q4 q5 q6 q7 hgl2 ⊢
          clear s1 s2 s3 s4 s5 s6 s7
          by_cases hfit : u ai + x ≤ x0
          · have hdec : decide (x0 < u ai + x) = false := by simp; omega
            go_quiet (fail)
            go_wp2
            go_roundw
            case rel => exact ⟨k + 1, addAt u ai x, by omega, by go_num, hide (by rw [← HN.out, HST.out, HGA.out]; simp [hfit]), hou3.below (below_drewN (Below.refl _ _) _), hide (fun j hj => by have h1 := HUB.out j hj; unfold addAt; split; exact ⟨by omega, by omega⟩; exact h1), by simpa [go_sem] using q5, by simpa [go_sem] using q6, by simpa [go_sem] using q7, by simpa using hgl2, (by repeat (first | exact Below.refl _ _ | assumption | refine Below.setCell ?_ (by first | omega | (simp <;> omega)) _ | refine Below.alloc ?_ (by first | omega | (simp <;> omega)) _ | refine below_drewN ?_ _ | refine Below.drew ?_ | refine Below.trans ?_ (Below.mono (by assumption) (by first | omega | (simp <;> omega)))))⟩
            case measure => simp [intOf]; omega
          · have hdec : decide (x0 < u ai + x) = true := by simp; omega
            have HF := hide (show isPacking x0 m x2 ns ls = false by rw [HP.out, ← HN.out, HST.out]; simp [hfit])
            clear hfit
            go_quiet (fail)
            go_wp2
            go_ret
            exact ⟨by rw [HF.out]; rfl, (by repeat (first | exact Below.refl _ _ | assumption | refine Below.setCell ?_ (by first | omega | (simp <;> omega)) _ | refine Below.alloc ?_ (by first | omega | (simp <;> omega)) _ | refine below_drewN ?_ _ | refine Below.drew ?_ | refine Below.trans ?_ (Below.mono (by assumption) (by first | omega | (simp <;> omega)))))⟩
        · have C0 := fun w : World => calls_bool (l01In_any a 0 (IntKind.i64.wrap ((m : Int) - 1)) w) (show _ = false by rw [HWR.out]; exact ga)
          refine wp_region_below (Below.refl wo.heap.size _) (by kernel_rfl) (by kernel_rfl) ?_
          repeat (first
            | go_big_quiet_skip
            | (go_big_quiet_want
               first
                | (refine quiet_value ?_; apply Exists.intro
                   refine ⟨fun wq hq => ?_, ?_⟩
                   · (obtain ⟨hc, hf⟩ := bcell hq; go_simp; first | done | rfl)
                   go_big_quiet_on
                   simp only [Act.put, List.setIfInBounds_toArray, List.set_cons_zero, List.set_cons_succ])
                | (refine quiet_call ?_; apply Exists.intro; apply Exists.intro; apply Exists.intro
                   refine ⟨fun wq hq => ?_, fun wq hq => ?_, ?_⟩
                   · (obtain ⟨hc, hf⟩ := bcell hq; go_simp; exact ⟨rfl, rfl⟩)
                   · (first | with_reducible exact (C0 _).mono fun e w'' ⟨he, hw⟩ => ⟨he, hw ▸ hq⟩ | with_reducible exact (C0 _).mono fun e w'' ⟨he, hb'⟩ => ⟨he, bnext hq hb'⟩ |  exact (C0 _).mono fun e w'' ⟨he, hb'⟩ => ⟨he, bnext hq hb'⟩ |  exact (C0 _).mono fun e w'' ⟨he, hw⟩ => ⟨he, hw ▸ hq⟩)
                   go_big_quiet_on
                   simp only [Act.put, List.setIfInBounds_toArray, List.set_cons_zero, List.set_cons_succ])
                | (go_big_quiet_op; go_big_quiet_on)
               ))
          refine wpQuiet_nil (fun wq hbq => ?_)
          clear C0
          have HF := hide (show isPacking x0 m x2 ns ls = false by rw [HP.out, ← HN.out, HST.out, ga]; rfl)
          have hend := bnext hbk hbq (Nat.le_refl _)
          clear ga
          go_wp2
          go_ret
          exact ⟨by rw [HF.out]; rfl, hend⟩
      · have HT := hide (show isPacking x0 m x2 ns ls = true by rw [HP.out, ← HN.out]; exact packsL_end (by omega))
        go_wp2
        go_ret
        exact ⟨by rw [HT.out]; rfl, hbk⟩
  all_goals
    have HP := hide (show isPacking x0 x1 x2 ns ls = false by unfold isPacking; simp [*])
    try have hne : ((ls.length : Int) != (ns.length : Int)) = true := by simp at g3 ⊢; omega
    try (have G3 := hide g3; clear g3)
    go_enter Try.func12, Try.ntmps12
    go_wp2_with (first
      | (go_at_call 50; with_reducible refine (spec_ChamberOk_any _ _ _ _).mono ?_; rintro e w1 ⟨rfl, hb'⟩; (first | have hb := bnext hb hb' | have hb := bnextA hb hb' | have hb := hb'); clear hb'; obtain ⟨hc, hf⟩ := bcell hb; have hz := hb.size; (try simp at hz))
      | (go_at_call 51; with_reducible refine (spec_LengthsOk_any _ ns _ ((RdB.keep HR1.out (B' := w.heap.size) (by repeat (first | exact Below.refl _ _ | assumption | refine Below.setCell ?_ (by first | omega | (simp <;> omega)) _ | refine Below.alloc ?_ (by first | omega | (simp <;> omega)) _ | refine below_drewN ?_ _ | refine Below.drew ?_ | refine Below.trans ?_ (Below.mono (by assumption) (by first | omega | (simp <;> omega))))) (Nat.le_refl _)).mono (by first | omega | (simp <;> omega)))).mono ?_; rintro e w1 ⟨rfl, hb'⟩; (first | have hb := bnext hb hb' | have hb := bnextA hb hb' | have hb := hb'); clear hb'; obtain ⟨hc, hf⟩ := bcell hb; have hz := hb.size; (try simp at hz)))
    go_ret
    exact ⟨by rw [HP.out]; rfl, (by repeat (first | exact Below.refl _ _ | assumption | refine Below.setCell ?_ (by first | omega | (simp <;> omega)) _ | refine Below.alloc ?_ (by first | omega | (simp <;> omega)) _ | refine below_drewN ?_ _ | refine Below.drew ?_ | refine Below.trans ?_ (Below.mono (by assumption) (by first | omega | (simp <;> omega)))))⟩
end Go.Proofs.Ytjmffhpfmfmnlaa
