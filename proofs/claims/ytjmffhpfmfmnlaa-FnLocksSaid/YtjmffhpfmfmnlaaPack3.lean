/- Packing of ships: the exported functions. No condition. -/
import Derived.Test.YtjmffhpfmfmnlaaPack2
namespace Go.Proofs.Ytjmffhpfmfmnlaa
open Go.RowKit
set_option linter.unusedVariables false
def packShips (x0 x1 x2 : Int) (ns : List Int) : Option (List Int) := if (chOk x0 x1 x2 && lengthsOk ns) = true then packL x0 x1.toNat ns zeroU [] else none
theorem lengthsOk_of {ns : List Int} (h : lengthsOk ns = true) : ns.length ≤ 8 ∧ ∀ x ∈ ns, 1 ≤ x ∧ x ≤ 400 := by
  unfold lengthsOk at h
  simp only [Bool.and_eq_true, decide_eq_true_eq, allUpTo_iff] at h
  refine ⟨h.1, fun x hx => ?_⟩
  obtain ⟨i, hi, rfl⟩ := List.getElem_of_mem hx
  have := h.2 i hi
  unfold lenRow at this
  rw [getD_at hi] at this
  simpa [inB] using this
theorem lengthsOk_mk {ns : List Int} (h8 : ns.length ≤ 8) (h : ∀ x ∈ ns, 1 ≤ x ∧ x ≤ 400) : lengthsOk ns = true := by
  unfold lengthsOk
  simp only [Bool.and_eq_true, decide_eq_true_eq, allUpTo_iff]
  refine ⟨h8, fun i hi => ?_⟩
  unfold lenRow
  rw [getD_at hi]
  have := h _ (List.getElem_mem hi)
  simpa [inB] using this
theorem lengthsOk_sub {ns ms : List Int} (h : lengthsOk ns = true) (hl : ms.length ≤ ns.length) (hs : ∀ x ∈ ms, x ∈ ns) : lengthsOk ms = true := by
  obtain ⟨h8, hb⟩ := lengthsOk_of h
  exact lengthsOk_mk (by omega) (fun x hx => hb x (hs x hx))
theorem packShips_len (x0 x1 x2 : Int) (ns : List Int) : ((packShips x0 x1 x2 ns).getD []).length ≤ 8 := by
  unfold packShips
  split
  · rename_i h
    simp only [Bool.and_eq_true] at h
    have := (lengthsOk_of h.2).1
    cases hq : packL x0 x1.toNat ns zeroU [] with
    | none => simp
    | some ys => have := packL_len hq; simp at this ⊢; omega
  · simp
theorem usedL_zero (m : Nat) : usedL m zeroU = List.replicate m 0 := by
  apply List.ext_getElem
  · simp [usedL]
  · intro i h1 h2; simp [usedL, zeroU]
set_option maxRecDepth 100000 in
set_option maxHeartbeats 8000000 in
theorem spec_PackShips_any (x0 x1 x2 : Int) (v1 : Value) (ns : List Int) (w : World) (h1 : RdI w v1 ns) :
    Calls Try.prog 17 #[.agg #[.int .i64 x0, .int .i64 x1, .int .i64 x2], v1] w fun e w' => ∃ v, e = .returned (.tuple #[v, .bool (packShips x0 x1 x2 ns).isSome]) ∧ Own w' w.heap.size 3 1 encI v ((packShips x0 x1 x2 ns).getD []) ∧ Below w.heap.size w w' := by
  have HR1 := hide h1
  obtain ⟨A1, c1, rfl, hc1, hm1, h1⟩ := h1
  unfold maxLen at hm1
  clear h1
  rcases ch2 (chOk x0 x1 x2) (lengthsOk ns) with ⟨g1, g2⟩ | g1 | ⟨g1, g2⟩
  · have HP := hide (show packShips x0 x1 x2 ns = packL x0 x1.toNat ns zeroU [] by unfold packShips; rw [g1, g2]; rfl)
    obtain ⟨a0, a1, a2, a3, a4, a5⟩ := chOk_of g1
    obtain ⟨l8, hns⟩ := lengthsOk_of g2
    have HNS := hide hns; clear hns
    have G1 := hide g1; have G2 := hide g2
    obtain ⟨m, rfl⟩ : ∃ m : Nat, x1 = m := ⟨x1.toNat, by omega⟩
    rw [Int.toNat_natCast] at HP
    obtain ⟨i0, hi, hz0, hz1, hz2⟩ := info_parts int_info
    go_enter Try.func17, Try.ntmps17
    go_wp2_with (first
      | (go_at_call 50; with_reducible refine (spec_ChamberOk_any _ _ _ _).mono ?_; rintro e w1 ⟨rfl, hb'⟩; (first | have hb := bnext hb hb' | have hb := bnextA hb hb' | have hb := hb'); clear hb'; obtain ⟨hc, hf⟩ := bcell hb; have hz := hb.size; (try simp at hz))
      | (go_at_call 51; with_reducible refine (spec_LengthsOk_any _ ns _ ((RdB.keep HR1.out (B' := w.heap.size) (by repeat (first | exact Below.refl _ _ | assumption | refine Below.setCell ?_ (by first | omega | (simp <;> omega)) _ | refine Below.alloc ?_ (by first | omega | (simp <;> omega)) _ | refine below_drewN ?_ _ | refine Below.drew ?_ | refine Below.trans ?_ (Below.mono (by assumption) (by first | omega | (simp <;> omega))))) (Nat.le_refl _)).mono (by first | omega | (simp <;> omega)))).mono ?_; rintro e w1 ⟨rfl, hb'⟩; (first | have hb := bnext hb hb' | have hb := bnextA hb hb' | have hb := hb'); clear hb'; obtain ⟨hc, hf⟩ := bcell hb; have hz := hb.size; (try simp at hz)))
    clear g1 g2
    have z0 : w1.cell? ⟨w.heap.size, 0, none⟩ = some (.int .i64 x0) := by rw [hc _ _ (by simp)]; simp [go_sem]
    have z1 : w1.cell? ⟨w.heap.size, 1, none⟩ = some (.int .i64 m) := by rw [hc _ _ (by simp)]; simp [go_sem]
    have z2 : w1.cell? ⟨w.heap.size, 2, none⟩ = some (.int .i64 x2) := by rw [hc _ _ (by simp)]; simp [go_sem]
    have hs1 := hb.size
    simp only [World.size_alloc] at hs1
    have hl1 : w.heap.size < w1.heap.size := by omega
    have hbw : Below w.heap.size w w1 := (by repeat (first | exact Below.refl _ _ | assumption | refine Below.setCell ?_ (by first | omega | (simp <;> omega)) _ | refine Below.alloc ?_ (by first | omega | (simp <;> omega)) _ | refine below_drewN ?_ _ | refine Below.drew ?_ | refine Below.trans ?_ (Below.mono (by assumption) (by first | omega | (simp <;> omega)))))
    clear hc hf hz hb
    have keepS : ∀ w', Below w1.heap.size w1 w' → w'.cell? ⟨w.heap.size, 0, none⟩ = some (.int .i64 x0) ∧ w'.cell? ⟨w.heap.size, 1, none⟩ = some (.int .i64 m) ∧ w'.cell? ⟨w.heap.size, 2, none⟩ = some (.int .i64 x2) ∧ Below w1.heap.size w1 w' := fun w' hB => ⟨cellKeep hB z0 hl1, cellKeep hB z1 hl1, cellKeep hB z2 hl1, hB⟩
    have HNB := hide (show 0 < ns.length → ∀ g, w1.heap.size ≤ g → (Value.slice A1 ns.length c1).ownBlock ≠ some g by
      intro h0 g hg e
      obtain ⟨A, c, hv, _, _, h⟩ := HR1.out
      obtain ⟨b, off, hA, hlt, _⟩ := h h0
      subst hA
      injection hv with hv1
      subst hv1
      simp [Value.ownBlock] at e
      omega)
    have hmk := make_ints (P := Try.prog) (t := 24) m (by rfl) hi hz0 hz1 hz2 (by omega)
    go_region_held3 (fun w' => w'.cell? ⟨w.heap.size, 0, none⟩ = some (.int .i64 x0) ∧ w'.cell? ⟨w.heap.size, 1, none⟩ = some (.int .i64 m) ∧ w'.cell? ⟨w.heap.size, 2, none⟩ = some (.int .i64 x2) ∧ Below w1.heap.size w1 w')
      (first
        | exact keepS _ (Below.drew (Below.refl _ _))
        | exact keepS _ hB11
        | (obtain ⟨_, _, _, qB⟩ := (by with_reducible assumption : _ ∧ _); exact keepS _ (qB.alloc qB.size _)))
      (first
        | (go_at_call 54; obtain ⟨_, _, _, qB⟩ := (by with_reducible assumption : _ ∧ _); with_reducible refine (l10Pack_any x0 x2 m (by omega) (by omega) (by omega) (by omega) _ ns HNS.out l8 ns.length [] 0 0 zeroU _ w1.heap.size m w1.heap.size (((w1.alloc (.cells (Array.replicate m (Value.int .i64 0)) 3)).alloc (.cells #[] 3)).drew) ((HR1.out.keep (hbw.trans (Below.mono (B := w1.heap.size) (by repeat (first | exact Below.refl _ _ | assumption | refine Below.setCell ?_ (by first | omega | (simp <;> omega)) _ | refine Below.alloc ?_ (by first | omega | (simp <;> omega)) _ | refine below_drewN ?_ _ | refine Below.drew ?_ | refine Below.trans ?_ (Below.mono (by assumption) (by first | omega | (simp <;> omega))))) (by omega))) (Nat.le_refl _)).mono (by simp; omega)) (by have h := own_built0 (enc := encI) (w1.alloc (.cells (Array.replicate m (Value.int .i64 0)) 3)) 3 1; simp only [World.size_alloc] at h; exact (h.below (by repeat (first | exact Below.refl _ _ | assumption | refine Below.setCell ?_ (by first | omega | (simp <;> omega)) _ | refine Below.alloc ?_ (by first | omega | (simp <;> omega)) _ | refine below_drewN ?_ _ | refine Below.drew ?_ | refine Below.trans ?_ (Below.mono (by assumption) (by first | omega | (simp <;> omega)))))).mono (by omega)) (by rw [usedL_zero]; exact (own_rep w1 3 m (by unfold maxLen; omega)).below (by repeat (first | exact Below.refl _ _ | assumption | refine Below.setCell ?_ (by first | omega | (simp <;> omega)) _ | refine Below.alloc ?_ (by first | omega | (simp <;> omega)) _ | refine below_drewN ?_ _ | refine Below.drew ?_ | refine Below.trans ?_ (Below.mono (by assumption) (by first | omega | (simp <;> omega)))))) (by simp [Value.ownBlock]) (by simp <;> omega) (by simp) (by simp) (by simp) (fun j hj => ⟨by simp [zeroU], by simp [zeroU]; omega⟩) (fun h0 => HNB.out h0 w1.heap.size (by omega))).mono ?_; rintro e w11 ⟨v11, rfl, hres, hb11, hne11⟩; have hB11 := bnext qB hb11 (Nat.le_refl _))
        | (go_at_call 54; obtain ⟨_, _, _, qB⟩ := (by with_reducible assumption : _ ∧ _); with_reducible refine (l10Pack_any x0 x2 m (by omega) (by omega) (by omega) (by omega) _ ns HNS.out l8 ns.length [] 0 0 zeroU _ (w1.heap.size + 1) m w1.heap.size (((w1.alloc (.cells #[] 3)).alloc (.cells (Array.replicate m (Value.int .i64 0)) 3)).drew) ((HR1.out.keep (hbw.trans (Below.mono (B := w1.heap.size) (by repeat (first | exact Below.refl _ _ | assumption | refine Below.setCell ?_ (by first | omega | (simp <;> omega)) _ | refine Below.alloc ?_ (by first | omega | (simp <;> omega)) _ | refine below_drewN ?_ _ | refine Below.drew ?_ | refine Below.trans ?_ (Below.mono (by assumption) (by first | omega | (simp <;> omega))))) (by omega))) (Nat.le_refl _)).mono (by simp; omega)) ((own_built0 (enc := encI) w1 3 1).below (by repeat (first | exact Below.refl _ _ | assumption | refine Below.setCell ?_ (by first | omega | (simp <;> omega)) _ | refine Below.alloc ?_ (by first | omega | (simp <;> omega)) _ | refine below_drewN ?_ _ | refine Below.drew ?_ | refine Below.trans ?_ (Below.mono (by assumption) (by first | omega | (simp <;> omega)))))) (by rw [usedL_zero]; have h := own_rep (w1.alloc (.cells #[] 3)) 3 m (by unfold maxLen; omega); simp only [World.size_alloc] at h; exact (h.below (by repeat (first | exact Below.refl _ _ | assumption | refine Below.setCell ?_ (by first | omega | (simp <;> omega)) _ | refine Below.alloc ?_ (by first | omega | (simp <;> omega)) _ | refine below_drewN ?_ _ | refine Below.drew ?_ | refine Below.trans ?_ (Below.mono (by assumption) (by first | omega | (simp <;> omega)))))).mono (by omega)) (by simp [Value.ownBlock]) (by simp <;> omega) (by simp) (by simp) (by simp) (fun j hj => ⟨by simp [zeroU], by simp [zeroU]; omega⟩) (fun h0 => HNB.out h0 (w1.heap.size + 1) (by omega))).mono ?_; rintro e w11 ⟨v11, rfl, hres, hb11, hne11⟩; have hB11 := bnext qB hb11 (Nat.le_refl _)))
    all_goals
      have hend := hbw.trans (hB11.mono (by omega))
      have hs11 := hB11.size
      rw [List.drop_zero] at hres
      have HRES := hide hres; clear hres hmk
      go_wp2_with fail
      go_ret2
      refine ⟨_, by rw [HP.out]; rfl, ?_, hend⟩
      rw [HP.out]
      cases hq : packL x0 m ns zeroU [] with
      | none => rw [HRES.out.2 hq]; exact Own.nil_
      | some ys => exact (HRES.out.1 ys hq).mono (by omega)
  all_goals
    have HP := hide (show packShips x0 x1 x2 ns = none by unfold packShips; rw [if_neg (by simp [*])])
    go_enter Try.func17, Try.ntmps17
    go_wp2_with (first
      | (go_at_call 50; with_reducible refine (spec_ChamberOk_any _ _ _ _).mono ?_; rintro e w1 ⟨rfl, hb'⟩; (first | have hb := bnext hb hb' | have hb := bnextA hb hb' | have hb := hb'); clear hb'; obtain ⟨hc, hf⟩ := bcell hb; have hz := hb.size; (try simp at hz))
      | (go_at_call 51; with_reducible refine (spec_LengthsOk_any _ ns _ ((RdB.keep HR1.out (B' := w.heap.size) (by repeat (first | exact Below.refl _ _ | assumption | refine Below.setCell ?_ (by first | omega | (simp <;> omega)) _ | refine Below.alloc ?_ (by first | omega | (simp <;> omega)) _ | refine below_drewN ?_ _ | refine Below.drew ?_ | refine Below.trans ?_ (Below.mono (by assumption) (by first | omega | (simp <;> omega))))) (Nat.le_refl _)).mono (by first | omega | (simp <;> omega)))).mono ?_; rintro e w1 ⟨rfl, hb'⟩; (first | have hb := bnext hb hb' | have hb := bnextA hb hb' | have hb := hb'); clear hb'; obtain ⟨hc, hf⟩ := bcell hb; have hz := hb.size; (try simp at hz)))
    go_ret2
    exact ⟨_, by rw [HP.out]; rfl, by rw [HP.out]; exact Own.nil_, (by repeat (first | exact Below.refl _ _ | assumption | refine Below.setCell ?_ (by first | omega | (simp <;> omega)) _ | refine Below.alloc ?_ (by first | omega | (simp <;> omega)) _ | refine below_drewN ?_ _ | refine Below.drew ?_ | refine Below.trans ?_ (Below.mono (by assumption) (by first | omega | (simp <;> omega)))))⟩
theorem pack_zero (L M : Int) (m : Nat) (hL0 : 10 ≤ L) (hL1 : L ≤ 1000) (hm0 : 1 ≤ m) (hm1 : m ≤ 3) (v1 : Value) (ns : List Int) (hns : ∀ x ∈ ns, 1 ≤ x ∧ x ≤ 400) (h8 : ns.length ≤ 8) (w : World) (h1 : RdI w v1 ns) :
    Calls Try.prog 55 #[.agg #[.int .i64 L, .int .i64 m, .int .i64 M], v1, .slice none 0 0, .agg #[.int .i64 0, .int .i64 0, .int .i64 0]] w fun e w' => ∃ v, e = .returned (.tuple #[v, .bool (canPack L m ns)]) ∧ Own w' w.heap.size 3 1 encI v ((packL L m ns zeroU []).getD []) ∧ Below w.heap.size w w' := by
  have h := pack_any L M m hL0 hL1 hm0 hm1 v1 ns hns h8 ns.length [] zeroU (.slice none 0 0) w.heap.size w h1 Own.nil_ (Nat.le_refl _) (by simp) (fun j hj => ⟨by simp [zeroU], by simp [zeroU]; omega⟩)
  refine h.mono ?_
  rintro e w' ⟨v, rfl, hres, hb⟩
  rw [List.length_nil, List.drop_zero] at *
  refine ⟨v, rfl, ?_, hb⟩
  cases hq : packL L m ns zeroU [] with
  | none => rw [hres.2 hq]; exact Own.nil_
  | some ys => exact hres.1 ys hq
set_option maxRecDepth 100000 in
set_option maxHeartbeats 8000000 in
theorem packed_any (x0 x2 : Int) (m : Nat) (hL0 : 10 ≤ x0) (hL1 : x0 ≤ 1000) (hm0 : 1 ≤ m) (hm1 : m ≤ 3) (v1 : Value) (ns : List Int) (hns : ∀ x ∈ ns, 1 ≤ x ∧ x ≤ 400) (h8 : ns.length ≤ 8) (w : World) (h1 : RdI w v1 ns) :
    Calls Try.prog 58 #[.agg #[.int .i64 x0, .int .i64 m, .int .i64 x2], v1] w fun e w' => e = .returned (.bool (canPack x0 m ns)) ∧ Below w.heap.size w w' := by
  have HR1 := hide h1; have HNS := hide hns; clear hns
  obtain ⟨A1, c1, rfl, hc1, hmx, h1⟩ := h1
  unfold maxLen at hmx
  clear h1
  go_enter Try.func58, Try.ntmps58
  go_wp2_with (go_at_call 55; with_reducible refine (pack_zero x0 x2 m hL0 hL1 hm0 hm1 _ ns HNS.out h8 _ ((RdB.keep HR1.out (B' := w.heap.size) (by repeat (first | exact Below.refl _ _ | assumption | refine Below.setCell ?_ (by first | omega | (simp <;> omega)) _ | refine Below.alloc ?_ (by first | omega | (simp <;> omega)) _ | refine below_drewN ?_ _ | refine Below.drew ?_ | refine Below.trans ?_ (Below.mono (by assumption) (by first | omega | (simp <;> omega))))) (Nat.le_refl _)).mono (by first | omega | (simp <;> omega)))).mono ?_; rintro e w1 ⟨v, rfl, ho, hb'⟩; clear ho; (first | have hb := bnext hb hb' | have hb := bnextA hb hb' | have hb := hb'); clear hb'; obtain ⟨hc, hf⟩ := bcell hb; have hz := hb.size; (try simp at hz))
  go_ret
  exact ⟨rfl, (by repeat (first | exact Below.refl _ _ | assumption | refine Below.setCell ?_ (by first | omega | (simp <;> omega)) _ | refine Below.alloc ?_ (by first | omega | (simp <;> omega)) _ | refine below_drewN ?_ _ | refine Below.drew ?_ | refine Below.trans ?_ (Below.mono (by assumption) (by first | omega | (simp <;> omega)))))⟩
set_option maxRecDepth 100000 in
set_option maxHeartbeats 8000000 in
theorem impl_PackShips_any (x0 x1 x2 : Int) (v1 : Value) (ns : List Int) (w : World) (h1 : RdI w v1 ns) :
    Calls Try.prog 18 #[.agg #[.int .i64 x0, .int .i64 x1, .int .i64 x2], v1] w fun e w' => ∃ v, e = .returned (.tuple #[v, .bool (packShips x0 x1 x2 ns).isSome]) ∧ Own w' w.heap.size 3 1 encI v ((packShips x0 x1 x2 ns).getD []) ∧ Below w.heap.size w w' := by
  have HR1 := hide h1
  obtain ⟨A1, c1, rfl, hc1, hm1, h1⟩ := h1
  unfold maxLen at hm1
  clear h1
  rcases ch2 (chOk x0 x1 x2) (lengthsOk ns) with ⟨g1, g2⟩ | g1 | ⟨g1, g2⟩
  · have HP := hide (show packShips x0 x1 x2 ns = packL x0 x1.toNat ns zeroU [] by unfold packShips; rw [g1, g2]; rfl)
    obtain ⟨a0, a1, a2, a3, a4, a5⟩ := chOk_of g1
    obtain ⟨l8, hns⟩ := lengthsOk_of g2
    have HNS := hide hns; clear hns
    have G1 := hide g1; have G2 := hide g2
    obtain ⟨m, rfl⟩ : ∃ m : Nat, x1 = m := ⟨x1.toNat, by omega⟩
    rw [Int.toNat_natCast] at HP
    have hm0 : 1 ≤ m := by omega
    have hm3 : m ≤ 3 := by omega
    go_enter Try.func18, Try.ntmps18
    go_wp2_with (first
      | (go_at_call 28; with_reducible refine (impl_ChamberOk_any _ _ _ _).mono ?_; rintro e w1 ⟨rfl, hb'⟩; (first | have hb := bnext hb hb' | have hb := bnextA hb hb' | have hb := hb'); clear hb'; obtain ⟨hc, hf⟩ := bcell hb; have hz := hb.size; (try simp at hz))
      | (go_at_call 29; with_reducible refine (impl_LengthsOk_any _ ns _ ((RdB.keep HR1.out (B' := w.heap.size) (by repeat (first | exact Below.refl _ _ | assumption | refine Below.setCell ?_ (by first | omega | (simp <;> omega)) _ | refine Below.alloc ?_ (by first | omega | (simp <;> omega)) _ | refine below_drewN ?_ _ | refine Below.drew ?_ | refine Below.trans ?_ (Below.mono (by assumption) (by first | omega | (simp <;> omega))))) (Nat.le_refl _)).mono (by first | omega | (simp <;> omega)))).mono ?_; rintro e w1 ⟨rfl, hb'⟩; (first | have hb := bnext hb hb' | have hb := bnextA hb hb' | have hb := hb'); clear hb'; obtain ⟨hc, hf⟩ := bcell hb; have hz := hb.size; (try simp at hz))
      | (go_at_call 55; with_reducible refine (pack_zero x0 x2 m a0 a1 hm0 hm3 _ ns HNS.out l8 _ ((RdB.keep HR1.out (B' := w.heap.size) (by repeat (first | exact Below.refl _ _ | assumption | refine Below.setCell ?_ (by first | omega | (simp <;> omega)) _ | refine Below.alloc ?_ (by first | omega | (simp <;> omega)) _ | refine below_drewN ?_ _ | refine Below.drew ?_ | refine Below.trans ?_ (Below.mono (by assumption) (by first | omega | (simp <;> omega))))) (Nat.le_refl _)).mono (by first | omega | (simp <;> omega)))).mono ?_; rintro e w2 ⟨v, rfl, ho, hb'⟩; have HOW := hide (ho.mono (base' := w.heap.size) (by have := hb.size; simp at this; omega)); clear ho; (first | have hb := bnext hb hb' | have hb := bnextA hb hb' | have hb := hb'); clear hb'; obtain ⟨hc, hf⟩ := bcell hb; have hz := hb.size; (try simp at hz)))
    go_ret2
    exact ⟨v, by rw [HP.out]; rfl, by rw [HP.out]; exact HOW.out, (by repeat (first | exact Below.refl _ _ | assumption | refine Below.setCell ?_ (by first | omega | (simp <;> omega)) _ | refine Below.alloc ?_ (by first | omega | (simp <;> omega)) _ | refine below_drewN ?_ _ | refine Below.drew ?_ | refine Below.trans ?_ (Below.mono (by assumption) (by first | omega | (simp <;> omega)))))⟩
  all_goals
    have HP := hide (show packShips x0 x1 x2 ns = none by unfold packShips; rw [if_neg (by simp [*])])
    go_enter Try.func18, Try.ntmps18
    go_wp2_with (first
      | (go_at_call 28; with_reducible refine (impl_ChamberOk_any _ _ _ _).mono ?_; rintro e w1 ⟨rfl, hb'⟩; (first | have hb := bnext hb hb' | have hb := bnextA hb hb' | have hb := hb'); clear hb'; obtain ⟨hc, hf⟩ := bcell hb; have hz := hb.size; (try simp at hz))
      | (go_at_call 29; with_reducible refine (impl_LengthsOk_any _ ns _ ((RdB.keep HR1.out (B' := w.heap.size) (by repeat (first | exact Below.refl _ _ | assumption | refine Below.setCell ?_ (by first | omega | (simp <;> omega)) _ | refine Below.alloc ?_ (by first | omega | (simp <;> omega)) _ | refine below_drewN ?_ _ | refine Below.drew ?_ | refine Below.trans ?_ (Below.mono (by assumption) (by first | omega | (simp <;> omega))))) (Nat.le_refl _)).mono (by first | omega | (simp <;> omega)))).mono ?_; rintro e w1 ⟨rfl, hb'⟩; (first | have hb := bnext hb hb' | have hb := bnextA hb hb' | have hb := hb'); clear hb'; obtain ⟨hc, hf⟩ := bcell hb; have hz := hb.size; (try simp at hz)))
    go_ret2
    exact ⟨_, by rw [HP.out]; rfl, by rw [HP.out]; exact Own.nil_, (by repeat (first | exact Below.refl _ _ | assumption | refine Below.setCell ?_ (by first | omega | (simp <;> omega)) _ | refine Below.alloc ?_ (by first | omega | (simp <;> omega)) _ | refine below_drewN ?_ _ | refine Below.drew ?_ | refine Below.trans ?_ (Below.mono (by assumption) (by first | omega | (simp <;> omega)))))⟩
end Go.Proofs.Ytjmffhpfmfmnlaa
