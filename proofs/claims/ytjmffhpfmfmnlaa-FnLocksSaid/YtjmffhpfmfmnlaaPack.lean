/- Packing: the search through the lanes. No condition. -/
import Derived.Test.YtjmffhpfmfmnlaaPackL
import Derived.Test.YtjmffhpfmfmnlaaAppI
import Derived.Test.YtjmffhpfmfmnlaaLens
import Derived.Test.YtjmffhpfmfmnlaaSeq
import Derived.BigGuardPart
import Derived.StillTailTactics
import Derived.Deep.RegionHeld3
import Derived.Outline
namespace Go.Proofs.Ytjmffhpfmfmnlaa
open Go.RowKit
set_option linter.unusedVariables false

def usedL (m : Nat) (u : Nat → Int) : List Int := (List.range m).map u
theorem usedL_len (m : Nat) (u : Nat → Int) : (usedL m u).length = m := by simp [usedL]
theorem usedL_at (m : Nat) (u : Nat → Int) {k : Nat} (h : k < m) : (usedL m u)[k]'(by rw [usedL_len]; exact h) = u k := by simp [usedL]
theorem usedL_set (m : Nat) (u : Nat → Int) (k : Nat) (n : Int) : (usedL m u).set k (u k + n) = usedL m (addAt u k n) := by
  apply List.ext_getElem
  · simp [usedL]
  · intro i h1 h2
    simp only [usedL, List.getElem_set, List.getElem_map, List.getElem_range, addAt]
    by_cases e : k = i
    · subst e; simp
    · rw [if_neg e, if_neg (fun h => e h.symm)]
def PackRes (w' : World) (lo : Nat) (v : Value) (o : Option (List Int)) : Prop := (∀ ys, o = some ys → Own w' lo 3 1 encI v ys) ∧ (o = none → v = .slice none 0 0)
set_option maxRecDepth 100000 in
set_option maxHeartbeats 16000000 in
theorem l10Pack_any (L M : Int) (m : Nat) (hL0 : 10 ≤ L) (hL1 : L ≤ 1000) (hm0 : 1 ≤ m) (hm1 : m ≤ 3) (v1 : Value) (ns : List Int) (hns : ∀ x ∈ ns, 1 ≤ x ∧ x ≤ 400) (h8 : ns.length ≤ 8) :
    ∀ (n : Nat) (d : List Int) (i : Nat) (ii : Int) (u : Nat → Int) (vd : Value) (g cap : Nat) (lo : Nat) (w : World), RdI w v1 ns → Own w lo 3 1 encI vd d → Own w lo 3 1 encI (.slice (some ⟨g, 0, none⟩) m cap) (usedL m u) → vd.ownBlock ≠ some g →
    lo ≤ w.heap.size → ii = (i : Int) → ns.length = n + i → d.length ≤ i → (∀ j, j < m → 0 ≤ u j ∧ u j ≤ L) → (0 < n → v1.ownBlock ≠ some g) →
    Calls Try.prog 54 #[.agg #[.int .i64 L, .int .i64 m, .int .i64 M], v1, .int .i64 ii, .slice (some ⟨g, 0, none⟩) m cap, vd] w fun e w' => ∃ v, e = .returned (.tuple #[v, .bool (packL L m (ns.drop i) u d).isSome]) ∧ PackRes w' lo v (packL L m (ns.drop i) u d) ∧ Below w.heap.size w w' ∧ v.ownBlock ≠ some g := by
  intro n
  induction n with
  | zero =>
    intro d i ii u vd g cap lo w h1 hod hou hne hlo hdi hlen hdl hu hv1
    subst hdi
    have HO := hide hod; have HNE := hide hne
    have hrd := Own.rd encI_len hod
    obtain ⟨A4, c4, rfl, hc4, hm4, h4⟩ := hrd
    obtain ⟨A1, c1, rfl, hc1, hm1, h1⟩ := h1
    unfold maxLen at hm1 hm4
    have hli : i = ns.length := by omega
    have hq : ((i : Int) == (ns.length : Int)) = true := by simp; omega
    have HD := hide (show ns.drop i = [] by rw [hli, List.drop_length])
    clear h4 h1 hod hou hli hlen hv1 hne
    go_enter Try.func54, Try.ntmps54
    go_wp2
    go_ret2
    exact ⟨_, by rw [HD.out]; rfl, ⟨fun ys hy => by rw [HD.out, packL] at hy; have := Option.some.inj hy; subst this; exact HO.out.below (by repeat (first | exact Below.refl _ _ | assumption | refine Below.setCell ?_ (by first | omega | (simp <;> omega)) _ | refine Below.alloc ?_ (by first | omega | (simp <;> omega)) _ | refine below_drewN ?_ _ | refine Below.drew ?_ | refine Below.trans ?_ (Below.mono (by assumption) (by first | omega | (simp <;> omega))))), fun hn => by rw [HD.out, packL] at hn; cases hn⟩, (by repeat (first | exact Below.refl _ _ | assumption | refine Below.setCell ?_ (by first | omega | (simp <;> omega)) _ | refine Below.alloc ?_ (by first | omega | (simp <;> omega)) _ | refine below_drewN ?_ _ | refine Below.drew ?_ | refine Below.trans ?_ (Below.mono (by assumption) (by first | omega | (simp <;> omega))))), HNE.out⟩
  | succ n ih =>
    intro d i ii u vd g cap lo w h1 hod hou hne hlo hdi hlen hdl hu hv1
    subst hdi
    have HR1 := hide h1
    have HO := hide hod; have HU := hide hou
    have hrd := Own.rd encI_len hod
    have HRD := hide hrd
    obtain ⟨A4, c4, rfl, hc4, hm4, h4⟩ := hrd
    obtain ⟨A1, c1, rfl, hc1, hmx1, h1⟩ := h1
    unfold maxLen at hmx1 hm4
    have hil : i < ns.length := by omega
    obtain ⟨b1, o1, rfl, hb1, hcell1⟩ := h1 (by omega)
    replace hv1 := hv1 (by omega)
    have hne1 : b1 ≠ g := fun e => hv1 (by rw [← e]; rfl)
    have hx := hns ns[i] (List.getElem_mem hil)
    have e0 : w.cell? ⟨b1, o1 + i, none⟩ = some (.int .i64 ns[i]) := by have := hcell1 i ns[i] (List.getElem?_eq_getElem hil) 0 _ rfl; simpa using this
    have hgl : g < w.heap.size := (World.ownsRow.lt hou g rfl).2
    have HCU := hide (show ∀ j, j < m → w.cell? ⟨g, j, none⟩ = some (.int .i64 (u j)) ∧ w.frozen? ⟨g, j, none⟩ = false by
      intro j hj
      have := Own.cells (i := j) (j := 0) (u := .int .i64 (u j)) encI_len (by rw [usedL_len]; exact hou) (by rw [usedL_len]; exact hj) (by rw [usedL_at m u hj]; rfl)
      simpa using this)
    have hq : ((i : Int) == (ns.length : Int)) = false := by rw [beq_eq_false_iff_ne]; omega
    obtain ⟨x, hxe⟩ : ∃ x, ns[i] = x := ⟨_, rfl⟩
    rw [hxe] at e0 hx
    have HD := hide (show packL L m (ns.drop i) u d = firstSome (fun lane => if u lane + x ≤ L then packL L m (ns.drop (i + 1)) (addAt u lane x) (d ++ [(lane : Int)]) else none) m by rw [List.drop_eq_getElem_cons hil, hxe, packL])
    have HLEN := hide hlen; have HV := hide hv1; have HUB := hide hu; have HNE := hide hne
    obtain ⟨hx0, hx1⟩ := hx
    clear hcell1 h1 h4 hod hou hlen hv1 hu hne hxe
    go_enter Try.func54, Try.ntmps54
    go_wp2
    go_loopw [12] (fun s wr => ∃ k : Nat, k ≤ m ∧ s = .int .i64 k ∧ Hid (firstSome (fun lane => if u lane + x ≤ L then packL L m (ns.drop (i + 1)) (addAt u lane x) (d ++ [(lane : Int)]) else none) k = none) ∧ wr.cell? ⟨w.heap.size, 0, none⟩ = some (.int .i64 L) ∧ wr.cell? ⟨w.heap.size, 1, none⟩ = some (.int .i64 m) ∧ wr.cell? ⟨w.heap.size, 2, none⟩ = some (.int .i64 M) ∧ w.heap.size < wr.heap.size ∧ Below w.heap.size w wr) (fun s _ => m - (intOf s).toNat)
    case atStart => exact ⟨0, Nat.zero_le _, rfl, hide rfl, by simp [go_sem], by simp [go_sem], by simp [go_sem], by simp, (by repeat (first | exact Below.refl _ _ | assumption | refine Below.setCell ?_ (by first | omega | (simp <;> omega)) _ | refine Below.alloc ?_ (by first | omega | (simp <;> omega)) _ | refine below_drewN ?_ _ | refine Below.drew ?_ | refine Below.trans ?_ (Below.mono (by assumption) (by first | omega | (simp <;> omega)))))⟩
    case round =>
      obtain ⟨k, hk, rfl, HN, z0, z1, z2, hl1, hbk⟩ := hrel
      obtain ⟨wo, rfl⟩ : ∃ wo : World, wo = wr := ⟨_, rfl⟩
      have hbs := hbk.size
      by_cases hlt : k < m
      · have f0 : wo.cell? ⟨b1, o1 + i, none⟩ = some (.int .i64 x) := cellKeep hbk e0 hb1
        have f1 : wo.cell? ⟨g, k, none⟩ = some (.int .i64 (u k)) := cellKeep hbk (HCU.out k hlt).1 hgl
        have f2 : wo.frozen? ⟨g, k, none⟩ = false := frozenKeep hbk (HCU.out k hlt).2 hgl
        have hu0 := (HUB.out k hlt).1; have hu1 := (HUB.out k hlt).2
        have hil' : (i : Int) < ns.length := by omega
        have hlt' : (k : Int) < m := by omega
        clear e0
        by_cases hfit : u k + x ≤ L
        · have hdec : decide (L < u k + x) = false := by simp; omega
          go_wp2
          go_quiet (fail)
          go_wp2
          have hbW : Below wo.heap.size wo (wo.drewN nq) := below_drewN (Below.refl _ _) _
          replace hbW := Below.drew hbW
          have hbW0 : Below wo.heap.size wo (wo.drewN nq) := below_drewN (Below.refl _ _) _
          have hsW0 := hbW0.size
          have y1 := cellKeep hbW0 f1 (by omega); have y2 := frozenKeep hbW0 f2 (by omega); have y0 := cellKeep hbW0 f0 (by omega)
          have hsW := hbW.size
          have f1' := cellKeep hbW f1 (by omega); have f2' := frozenKeep hbW f2 (by omega); have f0' := cellKeep hbW f0 (by omega)
          have z0' := cellKeep hbW z0 hl1; have z1' := cellKeep hbW z1 hl1; have z2' := cellKeep hbW z2 hl1
          clear f0 f1 f2 z0 z1 z2
          generalize wo.drewN nq = W0 at *
          go_still_tail 12, (by kernel_rfl)
          change wpList _ _ _ _ _ W0.drew
          generalize W0.drew = W1 at *
          clear hbW0 hsW0 y0 y1 y2
          go_wp2
          have HF1 := hide f1'
          have hgw : g ≠ w.heap.size := by omega
          have x0 : (W1.setCell ⟨g, k, none⟩ (.int .i64 (u k + x))).cell? ⟨w.heap.size, 0, none⟩ = some (.int .i64 L) := by simp [go_sem, z0']
          have x1 : (W1.setCell ⟨g, k, none⟩ (.int .i64 (u k + x))).cell? ⟨w.heap.size, 1, none⟩ = some (.int .i64 m) := by simp [go_sem, z1']
          have x2 : (W1.setCell ⟨g, k, none⟩ (.int .i64 (u k + x))).cell? ⟨w.heap.size, 2, none⟩ = some (.int .i64 M) := by simp [go_sem, z2']
          have x3 : (W1.setCell ⟨g, k, none⟩ (.int .i64 (u k + x))).cell? ⟨b1, o1 + i, none⟩ = some (.int .i64 x) := by simp [go_sem, f0']
          have hbw := hbk.trans (hbW.mono hbs)
          have hd2 : Own (W1.setCell ⟨g, k, none⟩ (.int .i64 (u k + x))) lo 3 1 encI (.slice A4 d.length c4) d := (HO.out.below hbw).setFar HNE.out _
          have hu2 : Own (W1.setCell ⟨g, k, none⟩ (.int .i64 (u k + x))) lo 3 1 encI (.slice (some ⟨g, 0, none⟩) m cap) (usedL m (addAt u k x)) := by
            have := Own.setRow (i := k) encI_len (by rw [usedL_len]; exact HU.out.below hbw) (by rw [usedL_len]; exact hlt) (u k + x)
            rw [usedL_len, usedL_set] at this
            simpa [storeRow] using this
          have hr2 : RdI (W1.setCell ⟨g, k, none⟩ (.int .i64 (u k + x))) (.slice (some ⟨b1, o1, none⟩) ns.length c1) ns := (RdB.setFar ((HR1.out.keep hbw (Nat.le_refl _)).mono (Nat.le_trans hbs hsW)) (by simpa [Value.ownBlock] using hne1) _).mono (by simp [World.setCell])
          have hlW2 : W1.heap.size = (W1.setCell ⟨g, k, none⟩ (.int .i64 (u k + x))).heap.size := by simp [World.setCell]
          obtain ⟨W2, hW2⟩ : ∃ W2, W1.setCell ⟨g, k, none⟩ (.int .i64 (u k + x)) = W2 := ⟨_, rfl⟩
          rw [hW2] at x0 x1 x2 x3 hd2 hu2 hr2 hlW2 ⊢
          have HW2 := hide hW2; clear hW2
          have HD2 := hide hd2; have HU2 := hide hu2; have HR2 := hide hr2
          have HRD2 := hide (Own.rd encI_len hd2)
          have hl2 : w.heap.size < W2.heap.size := by omega
          have hlo2 : lo ≤ W2.heap.size := by omega
          have hg2 : g < W2.heap.size := by omega
          have x4 : W2.cell? ⟨g, k, none⟩ = some (.int .i64 (u k + x)) ∧ W2.frozen? ⟨g, k, none⟩ = false := by
            have := Own.cells (i := k) (j := 0) (u := .int .i64 (u k + x)) encI_len (by rw [usedL_len]; exact hu2) (by rw [usedL_len]; exact hlt) (by rw [usedL_at m _ hlt]; simp [addAt])
            simpa using this
          clear hd2 hu2 hr2
          have HWR := hide (show IntKind.i64.wrap ((i : Int) + 1) = ((i + 1 : Nat) : Int) by rw [IntWalk.i64_in _ (by omega)]; omega)
          have keepS : ∀ w', Below W2.heap.size W2 w' → w'.cell? ⟨w.heap.size, 0, none⟩ = some (.int .i64 L) ∧ w'.cell? ⟨w.heap.size, 1, none⟩ = some (.int .i64 m) ∧ w'.cell? ⟨w.heap.size, 2, none⟩ = some (.int .i64 M) ∧ Below W2.heap.size W2 w' := fun w' hB => ⟨cellKeep hB x0 hl2, cellKeep hB x1 hl2, cellKeep hB x2 hl2, hB⟩
          obtain ⟨i0, hi, hz0, hz1, hz2⟩ := info_parts int_info
          go_region_held3 (fun w' => w'.cell? ⟨w.heap.size, 0, none⟩ = some (.int .i64 L) ∧ w'.cell? ⟨w.heap.size, 1, none⟩ = some (.int .i64 m) ∧ w'.cell? ⟨w.heap.size, 2, none⟩ = some (.int .i64 M) ∧ Below W2.heap.size W2 w')
            (first
              | exact keepS _ (Below.drew (Below.refl _ _))
              | exact keepS _ hB11
              | exact keepS _ hB10
              | exact keepS _ hB7
              | (obtain ⟨_, _, _, qB⟩ := (by with_reducible assumption : _ ∧ _); exact keepS _ (qB.alloc qB.size _)))
            (first
              | (go_at_call 54; obtain ⟨_, _, _, qB⟩ := (by with_reducible assumption : _ ∧ _); with_reducible refine (ih ([] ++ d ++ [(k : Int)]) (i + 1) _ (addAt u k x) _ g cap lo _ ((HR2.out.keep qB (Nat.le_refl _)).mono qB.size) (by first | with_reducible exact hown10.mono hlo2 | exact (hown10.below (by repeat (first | exact Below.refl _ _ | assumption | refine Below.setCell ?_ (by first | omega | (simp <;> omega)) _ | refine Below.alloc ?_ (by first | omega | (simp <;> omega)) _ | refine below_drewN ?_ _ | refine Below.drew ?_ | refine Below.trans ?_ (Below.mono (by assumption) (by first | omega | (simp <;> omega)))))).mono hlo2) (HU2.out.below qB) (fun e => by have := (hown10.lt g e).1; omega) (Nat.le_trans hlo2 qB.size) (by first | exact HWR.out | omega) (by have := HLEN.out; omega) (by simp; omega) (fun j hj => by have h1 := HUB.out j hj; unfold addAt; split; exact ⟨by omega, by omega⟩; exact h1) (fun _ => HV.out)).mono ?_; rintro e w11 ⟨v11, rfl, hres, hb11, hne11⟩; have hB11 := bnext qB hb11 (Nat.le_refl _))
              | (obtain ⟨_, _, _, qB⟩ := (by with_reducible assumption : _ ∧ _); refine step_append_rd _ encI_len encI_one (by rfl) _ _ 24 (by rfl) W2.heap.size 3 i0 (.int .i64 0) 8 Try.underlying24 hi hz0 hz1 hz2 rfl (by decide) (.slice (some ⟨_, 0, none⟩) 0 0) [] (by rfl) (by first | exact ((own_built0 W2 3 1).below (by repeat (first | exact Below.refl _ _ | assumption | refine Below.setCell ?_ (by first | omega | (simp <;> omega)) _ | refine Below.alloc ?_ (by first | omega | (simp <;> omega)) _ | refine below_drewN ?_ _ | refine Below.drew ?_ | refine Below.trans ?_ (Below.mono (by assumption) (by first | omega | (simp <;> omega)))))).mono (Nat.le_refl _) | (have hq := own_built0 (enc := encI) (W2.alloc (.cells #[.int .i64 k] 3)) 3 1; simp only [World.size_alloc] at hq; exact (hq.below (by repeat (first | exact Below.refl _ _ | assumption | refine Below.setCell ?_ (by first | omega | (simp <;> omega)) _ | refine Below.alloc ?_ (by first | omega | (simp <;> omega)) _ | refine below_drewN ?_ _ | refine Below.drew ?_ | refine Below.trans ?_ (Below.mono (by assumption) (by first | omega | (simp <;> omega)))))).mono (by omega))) W2.heap.size _ d (by rfl) (HRD2.out.keep qB (Nat.le_refl _)) (by unfold maxLen; simp; omega) (by simp; omega) qB.size ?_; intro v7 w7 hown7 hgrow7 hblk7; have hB7 := qB.trans (Own.belowGrown (B := W2.heap.size) (T := 3) (sz := 1) (enc := encI) (xs := []) (by first | exact ((own_built0 W2 3 1).below (by repeat (first | exact Below.refl _ _ | assumption | refine Below.setCell ?_ (by first | omega | (simp <;> omega)) _ | refine Below.alloc ?_ (by first | omega | (simp <;> omega)) _ | refine below_drewN ?_ _ | refine Below.drew ?_ | refine Below.trans ?_ (Below.mono (by assumption) (by first | omega | (simp <;> omega)))))).mono (Nat.le_refl _) | (have hq := own_built0 (enc := encI) (W2.alloc (.cells #[.int .i64 k] 3)) 3 1; simp only [World.size_alloc] at hq; exact (hq.below (by repeat (first | exact Below.refl _ _ | assumption | refine Below.setCell ?_ (by first | omega | (simp <;> omega)) _ | refine Below.alloc ?_ (by first | omega | (simp <;> omega)) _ | refine below_drewN ?_ _ | refine Below.drew ?_ | refine Below.trans ?_ (Below.mono (by assumption) (by first | omega | (simp <;> omega)))))).mono (by omega))) hgrow7 (Nat.le_refl _) qB.size))
              | (obtain ⟨_, _, _, qB⟩ := (by with_reducible assumption : _ ∧ _); refine step_append_rd _ encI_len encI_one (by rfl) _ _ 24 (by rfl) W2.heap.size 3 i0 (.int .i64 0) 8 Try.underlying24 hi hz0 hz1 hz2 rfl (by decide) v7 ([] ++ d) (by rfl) (by first | with_reducible exact hown7 | exact hown7.below (by repeat (first | exact Below.refl _ _ | assumption | refine Below.setCell ?_ (by first | omega | (simp <;> omega)) _ | refine Below.alloc ?_ (by first | omega | (simp <;> omega)) _ | refine below_drewN ?_ _ | refine Below.drew ?_ | refine Below.trans ?_ (Below.mono (by assumption) (by first | omega | (simp <;> omega)))))) _ (.slice (some ⟨_, 0, none⟩) 1 1) [(k : Int)] (by rfl) (by first | with_reducible exact rdI9a w7 3 (k : Int) | with_reducible exact rdI9b hgrow7 | with_reducible exact rdI9c hgrow7 (by simp)) (by unfold maxLen; simp; omega) (by simp; omega) qB.size ?_; intro v10 w10 hown10 hgrow10 hblk10; have hB10 := qB.trans (Own.belowGrown (B := W2.heap.size) (by first | with_reducible exact hown7 | exact hown7.below (by repeat (first | exact Below.refl _ _ | assumption | refine Below.setCell ?_ (by first | omega | (simp <;> omega)) _ | refine Below.alloc ?_ (by first | omega | (simp <;> omega)) _ | refine below_drewN ?_ _ | refine Below.drew ?_ | refine Below.trans ?_ (Below.mono (by assumption) (by first | omega | (simp <;> omega)))))) hgrow10 (Nat.le_refl _) qB.size)))
          all_goals
            have hsB := hB11.size
            have g0 := cellKeep hB11 x0 hl2; have g1 := cellKeep hB11 x1 hl2; have g2 := cellKeep hB11 x2 hl2
            have g3 := cellKeep hB11 x3 (by omega); have g4 := cellKeep hB11 x4.1 hg2; have g5 := frozenKeep hB11 x4.2 hg2
            clear x0 x1 x2 x3 x4 f0' f1' f2' z0' z1' z2'
            go_wp2_with fail
            rw [List.nil_append] at hres
            generalize hR : packL L m (ns.drop (i + 1)) (addAt u k x) (d ++ [(k : Int)]) = r at hres ⊢
            have HR := hide hR; clear hR
            have HNE11 := hide hne11; clear hne11
            have hBZ := Below.drew hB11
            have hx1B := Below.drew (Below.refl w11.heap.size w11)
            go_still_tail 12, (by kernel_rfl)
            change wpList _ _ _ _ _ w11.drew
            have h0 := cellKeep hx1B g0 (by omega); have h1 := cellKeep hx1B g1 (by omega); have h2 := cellKeep hx1B g2 (by omega)
            have h3 := cellKeep hx1B g3 (by omega); have h4 := cellKeep hx1B g4 (by omega); have h5 := frozenKeep hx1B g5 (by omega)
            have hres4 : PackRes w11.drew lo v11 r := ⟨fun ys hy => (hres.1 ys hy).below hx1B, hres.2⟩
            have hs4 := hx1B.size
            generalize w11.drew = W4 at hBZ h0 h1 h2 h3 h4 h5 hres4 hs4 ⊢
            have hfin : Below W1.heap.size W1 (W4.setCell ⟨g, k, none⟩ (.int .i64 (u k))) := below_put_back HF1.out (by rw [HW2.out]; exact hBZ.mono (by omega)) (by omega)
            have hend : Below w.heap.size w (W4.setCell ⟨g, k, none⟩ (.int .i64 (u k))) := hbw.trans (hfin.mono (by omega))
            clear g0 g1 g2 g3 g4 g5 hB11 hx1B hres
            cases r with
            | none =>
              go_wp2
              have hgk : ∀ o, (⟨g, k, none⟩ : Addr) ≠ ⟨w.heap.size, o, none⟩ := fun o e => hgw (congrArg Addr.block e)
              go_roundw
              case rel => exact ⟨k + 1, by omega, by go_num, hide (firstSome_step HN.out (by rw [if_pos hfit]; exact HR.out)), (World.cell?_setCell_other _ _ _ _ (fun e => hgk 0 e)).trans h0, (World.cell?_setCell_other _ _ _ _ (fun e => hgk 1 e)).trans h1, (World.cell?_setCell_other _ _ _ _ (fun e => hgk 2 e)).trans h2, by simp [World.setCell]; omega, hend⟩
              case measure => simp [intOf]; omega
            | some ys =>
              have hA := HD.out.trans (firstSome_hit HN.out (by rw [if_pos hfit]; exact HR.out) hlt)
              have HA := hide hA; clear hA
              go_wp2
              go_ret2
              exact ⟨_, by rw [HA.out]; rfl, ⟨fun zs hz => by rw [HA.out] at hz; have := Option.some.inj hz; subst this; exact (hres4.1 _ rfl).setFar (fun e => HNE11.out e) _, (fun hn => by rw [HA.out] at hn; cases hn)⟩, hend, HNE11.out⟩
        · have hdec : decide (L < u k + x) = true := by simp; omega
          have HG := hide hfit
          clear hfit
          go_wp2
          go_quiet (fail)
          go_wp2
          go_roundw
          case rel => exact ⟨k + 1, by omega, by go_num, hide (firstSome_step HN.out (by rw [if_neg (by have := HG.out; omega)])), by simpa [go_sem] using z0, by simpa [go_sem] using z1, by simpa [go_sem] using z2, by simpa using hl1, (by repeat (first | exact Below.refl _ _ | assumption | refine Below.setCell ?_ (by first | omega | (simp <;> omega)) _ | refine Below.alloc ?_ (by first | omega | (simp <;> omega)) _ | refine below_drewN ?_ _ | refine Below.drew ?_ | refine Below.trans ?_ (Below.mono (by assumption) (by first | omega | (simp <;> omega)))))⟩
          case measure => simp [intOf]; omega
      · obtain rfl : k = m := by omega
        go_wp2
        go_ret2
        exact ⟨_, by rw [HD.out, HN.out]; rfl, ⟨(fun ys hy => by rw [HD.out, HN.out] at hy; cases hy), fun _ => rfl⟩, hbk, by simp [Value.ownBlock]⟩
end Go.Proofs.Ytjmffhpfmfmnlaa
