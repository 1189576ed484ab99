/- The first berth for a stay. No condition. -/
import Derived.Test.YtjfppjhlkeopnaaStays
import Derived.Test.YtjfppjhlkeopnaaApp
import Derived.Room.Make
import Derived.Deep.RegionHeld3
namespace Go.Proofs.Ytjfppjhlkeopnaa
open Go.RowKit
set_option linter.unusedVariables false

theorem stay_one (x : StayD) : ∀ u ∈ StayD.enc x, u.oneCell' = true := by
  intro u hu; simp [StayD.enc] at hu; rcases hu with rfl | rfl | rfl | rfl <;> rfl
theorem rd_grown {α : Type} {w w' : World} {sz : Nat} {enc : α → List Value} {v : Value} {xs : List α} {row : Option Nat} (h : Rd w sz enc v xs) (hg : w.grownBy w' row) (hne : ∀ g, v.ownBlock = some g → row = some g → False) : Rd w' sz enc v xs := by
  obtain ⟨A, c, rfl, hc, hm, h⟩ := h
  refine ⟨A, c, rfl, hc, hm, fun h0 => ?_⟩
  obtain ⟨b, off, rfl, hlt, hcell⟩ := h h0
  exact ⟨b, off, rfl, Nat.lt_of_lt_of_le hlt hg.size, fun i x hx j u hu => (World.cell?_of_block (hg.block b hlt (fun e => hne b rfl e.symm))).trans (hcell i x hx j u hu)⟩
theorem rd9a (w7 : World) (T : TypeId) (s0 s1 s2 s3 : Int) : Rd (w7.alloc (.cells #[.int .i64 s0, .int .i64 s1, .int .i64 s2, .int .i64 s3] T)) 4 StayD.enc (.slice (some ⟨w7.heap.size, 0, none⟩) 1 1) [⟨s0, s1, s2, s3⟩] := rd_new (enc := StayD.enc) (sz := 4) w7 ⟨s0, s1, s2, s3⟩ T
theorem rd9b {w7 W0 : World} {T : TypeId} {s0 s1 s2 s3 : Int} (hg : ((W0.alloc (.cells #[] T)).alloc (.cells #[.int .i64 s0, .int .i64 s1, .int .i64 s2, .int .i64 s3] T)).drew.grownBy w7 (Value.slice (some ⟨W0.heap.size, 0, none⟩) 0 0).ownBlock) : Rd w7 4 StayD.enc (.slice (some ⟨W0.heap.size + 1, 0, none⟩) 1 1) [⟨s0, s1, s2, s3⟩] := by
  have h1 := Rd.below (rd9a (W0.alloc (.cells #[] T)) T s0 s1 s2 s3) (Below.drew (Below.refl _ _))
  have h2 := rd_grown h1 hg (by intro g h1 h2; have h3 := h1.trans h2.symm; simp [Value.ownBlock] at h3)
  rw [World.size_alloc] at h2; exact h2
theorem rd9c {w7 W0 : World} {T : TypeId} {s0 s1 s2 s3 : Int} {b : Nat} (hg : ((W0.alloc (.cells #[.int .i64 s0, .int .i64 s1, .int .i64 s2, .int .i64 s3] T)).alloc (.cells #[] T)).drew.grownBy w7 (Value.slice (some ⟨b, 0, none⟩) 0 0).ownBlock) (hb : W0.heap.size ≠ b) : Rd w7 4 StayD.enc (.slice (some ⟨W0.heap.size, 0, none⟩) 1 1) [⟨s0, s1, s2, s3⟩] := by
  have h1 := Rd.below (rd9a W0 T s0 s1 s2 s3) (w' := ((W0.alloc (.cells #[.int .i64 s0, .int .i64 s1, .int .i64 s2, .int .i64 s3] T)).alloc (.cells #[] T)).drew) (Below.drew ((Below.refl _ _).alloc (Nat.le_refl _) _))
  exact rd_grown h1 hg (by intro g h1 h2; have h3 := h1.trans h2.symm; simp [Value.ownBlock] at h3; exact hb h3)
def findBerth (bs : List BerthD) (fl : List ShipD) (xs : List StayD) (ship from_ to_ : Int) : Int :=
  if staysOk bs fl xs = true then firstUpTo (fun b => staysOk bs fl (xs ++ [⟨ship, b, from_, to_⟩])) bs.length else -1
theorem stays_len {bs : List BerthD} {fl : List ShipD} {xs : List StayD} (h : staysOk bs fl xs = true) : xs.length ≤ 12 := by
  unfold staysOk at h; simp only [Bool.and_eq_true, decide_eq_true_eq] at h; exact h.1.2
set_option maxRecDepth 100000 in
set_option maxHeartbeats 4000000 in
theorem cloneStay_any (v : Value) (xs : List StayD) (w : World) (h : RdStay w v xs) (hn : xs.length ≤ 1048576) :
    Calls Try.prog 75 #[v] w fun e w' => ∃ u, e = .returned u ∧ Own w' w.heap.size 97 4 StayD.enc u xs ∧ Below w.heap.size w w' := by
  have HR := hide h
  obtain ⟨A1, c1, rfl, hc1, hm1, h1⟩ := h
  unfold maxLen at hm1
  clear h1
  obtain ⟨i0, hi, hz0, hz1, hz2⟩ := info_parts stay_info
  go_enter Try.func75, Try.ntmps75
  go_wp2_with (first
    | (refine wpList_make_own _ rfl _ _ _ rfl w.heap.size 97 i0 _ 4 Try.underlying37 hi hz0 hz1 _ _ _ xs.length rfl rfl rfl (by rw [hz2]; omega) (by unfold maxLen; omega) (Nat.le_refl _) ?_; intro w1 hown hg)
    | (at_builtin; refine wpList_append_rd _ StayD.enc_len stay_one (by rfl) _ _ 37 (by rfl) w.heap.size 97 i0 (.agg #[.int .i64 0, .int .i64 0, .int .i64 0, .int .i64 0]) 32 Try.underlying37 hi hz0 hz1 hz2 rfl (by decide) _ _ (by rfl) (show Own w1 w.heap.size 97 4 StayD.enc _ ([] : List StayD) from hown) _ _ _ (by rfl) (RdB.keep HR.out (((Below.refl _ _).grown hg (Nat.le_refl _) (by simp)) : Below w.heap.size w w1) (Nat.le_refl _)) (by unfold maxLen; simp; omega) (by simp; omega) (by have := hg.size; omega) ?_; intro v' w2 hown2 hgrow hblk))
  go_ret
  have hb1 : Below w.heap.size w w1 := (Below.refl _ _).grown hg (Nat.le_refl _) (by simp)
  exact ⟨_, rfl, by simpa using hown2, hb1.trans (Own.belowGrown (B := w.heap.size) (show Own w1 w.heap.size 97 4 StayD.enc _ ([] : List StayD) from hown) hgrow (Nat.le_refl _) hb1.size)⟩
set_option maxRecDepth 100000 in
set_option maxHeartbeats 4000000 in
theorem l12With_any (v : Value) (xs : List StayD) (s : StayD) (w : World) (h : RdStay w v xs) (hn : xs.length ≤ 1048576) :
    Calls Try.prog 74 #[v, s.val] w fun e w' => ∃ u, e = .returned u ∧ Own w' w.heap.size 97 4 StayD.enc u (xs ++ [s]) ∧ Below w.heap.size w w' := by
  obtain ⟨s0, s1, s2, s3⟩ := s
  have HR := hide h
  obtain ⟨A1, c1, rfl, hc1, hm1, h1⟩ := h
  unfold maxLen at hm1
  clear h1
  obtain ⟨i0, hi, hz0, hz1, hz2⟩ := info_parts stay_info
  go_enter Try.func74, Try.ntmps74
  go_wp2
  have hx0 : (w.alloc (.cells #[.int .i64 s0, .int .i64 s1, .int .i64 s2, .int .i64 s3] 97)).cell? ⟨w.heap.size, 0, none⟩ = some (.int .i64 s0) := by simp [go_sem]
  have hx1 : (w.alloc (.cells #[.int .i64 s0, .int .i64 s1, .int .i64 s2, .int .i64 s3] 97)).cell? ⟨w.heap.size, 1, none⟩ = some (.int .i64 s1) := by simp [go_sem]
  have hx2 : (w.alloc (.cells #[.int .i64 s0, .int .i64 s1, .int .i64 s2, .int .i64 s3] 97)).cell? ⟨w.heap.size, 2, none⟩ = some (.int .i64 s2) := by simp [go_sem]
  have hx3 : (w.alloc (.cells #[.int .i64 s0, .int .i64 s1, .int .i64 s2, .int .i64 s3] 97)).cell? ⟨w.heap.size, 3, none⟩ = some (.int .i64 s3) := by simp [go_sem]
  have hB0 : Below w.heap.size w (w.alloc (.cells #[.int .i64 s0, .int .i64 s1, .int .i64 s2, .int .i64 s3] 97)) := (by repeat (first | exact Below.refl _ _ | assumption | refine Below.setCell ?_ (by first | omega | (simp <;> omega)) _ | refine Below.alloc ?_ (by first | omega | (simp <;> omega)) _ | refine below_drewN ?_ _ | refine Below.drew ?_ | refine Below.trans ?_ (Below.mono (by assumption) (by first | omega | (simp <;> omega)))))
  have hl0 : w.heap.size < (w.alloc (.cells #[.int .i64 s0, .int .i64 s1, .int .i64 s2, .int .i64 s3] 97)).heap.size := by simp
  generalize w.alloc (.cells #[.int .i64 s0, .int .i64 s1, .int .i64 s2, .int .i64 s3] 97) = W0 at *
  have keepS : ∀ w', Below W0.heap.size W0 w' → w'.cell? ⟨w.heap.size, 0, none⟩ = some (.int .i64 s0) ∧ w'.cell? ⟨w.heap.size, 1, none⟩ = some (.int .i64 s1) ∧ w'.cell? ⟨w.heap.size, 2, none⟩ = some (.int .i64 s2) ∧ w'.cell? ⟨w.heap.size, 3, none⟩ = some (.int .i64 s3) ∧ Below W0.heap.size W0 w' := fun w' hB => ⟨cellKeep hB hx0 hl0, cellKeep hB hx1 hl0, cellKeep hB hx2 hl0, cellKeep hB hx3 hl0, hB⟩
  go_region_held3 (fun w' => w'.cell? ⟨w.heap.size, 0, none⟩ = some (.int .i64 s0) ∧ w'.cell? ⟨w.heap.size, 1, none⟩ = some (.int .i64 s1) ∧ w'.cell? ⟨w.heap.size, 2, none⟩ = some (.int .i64 s2) ∧ w'.cell? ⟨w.heap.size, 3, none⟩ = some (.int .i64 s3) ∧ Below W0.heap.size W0 w')
    (first
      | exact keepS _ (Below.drew (Below.refl _ _))
      | exact keepS _ hB10
      | exact keepS _ hB7
      | (obtain ⟨_, _, _, _, qB⟩ := (by with_reducible assumption : _ ∧ _); exact keepS _ (qB.alloc qB.size _)))
    (first
      | (obtain ⟨_, _, _, _, qB⟩ := (by with_reducible assumption : _ ∧ _); refine step_append_rd _ StayD.enc_len stay_one (by rfl) _ _ 37 (by rfl) W0.heap.size 97 i0 (.agg #[.int .i64 0, .int .i64 0, .int .i64 0, .int .i64 0]) 32 Try.underlying37 hi hz0 hz1 hz2 rfl (by decide) (.slice (some ⟨_, 0, none⟩) 0 0) [] (by rfl) (by first | exact ((own_built0 W0 97 4).below (by repeat (first | exact Below.refl _ _ | assumption | refine Below.setCell ?_ (by first | omega | (simp <;> omega)) _ | refine Below.alloc ?_ (by first | omega | (simp <;> omega)) _ | refine below_drewN ?_ _ | refine Below.drew ?_ | refine Below.trans ?_ (Below.mono (by assumption) (by first | omega | (simp <;> omega)))))).mono (Nat.le_refl _) | (have hq := own_built0 (enc := StayD.enc) (W0.alloc (.cells #[.int .i64 s0, .int .i64 s1, .int .i64 s2, .int .i64 s3] 97)) 97 4; simp only [World.size_alloc] at hq; exact (hq.below (by repeat (first | exact Below.refl _ _ | assumption | refine Below.setCell ?_ (by first | omega | (simp <;> omega)) _ | refine Below.alloc ?_ (by first | omega | (simp <;> omega)) _ | refine below_drewN ?_ _ | refine Below.drew ?_ | refine Below.trans ?_ (Below.mono (by assumption) (by first | omega | (simp <;> omega)))))).mono (by omega))) w.heap.size _ xs (by rfl) (RdB.keep HR.out (Below.trans hB0 (qB.mono (by omega))) (Nat.le_refl _)) (by unfold maxLen; simp; omega) (by simp; omega) qB.size ?_; intro v7 w7 hown7 hgrow7 hblk7; have hB7 := qB.trans (Own.belowGrown (B := W0.heap.size) (T := 97) (sz := 4) (enc := StayD.enc) (xs := []) (by first | exact ((own_built0 W0 97 4).below (by repeat (first | exact Below.refl _ _ | assumption | refine Below.setCell ?_ (by first | omega | (simp <;> omega)) _ | refine Below.alloc ?_ (by first | omega | (simp <;> omega)) _ | refine below_drewN ?_ _ | refine Below.drew ?_ | refine Below.trans ?_ (Below.mono (by assumption) (by first | omega | (simp <;> omega)))))).mono (Nat.le_refl _) | (have hq := own_built0 (enc := StayD.enc) (W0.alloc (.cells #[.int .i64 s0, .int .i64 s1, .int .i64 s2, .int .i64 s3] 97)) 97 4; simp only [World.size_alloc] at hq; exact (hq.below (by repeat (first | exact Below.refl _ _ | assumption | refine Below.setCell ?_ (by first | omega | (simp <;> omega)) _ | refine Below.alloc ?_ (by first | omega | (simp <;> omega)) _ | refine below_drewN ?_ _ | refine Below.drew ?_ | refine Below.trans ?_ (Below.mono (by assumption) (by first | omega | (simp <;> omega)))))).mono (by omega))) hgrow7 (Nat.le_refl _) qB.size))
      | (obtain ⟨_, _, _, _, qB⟩ := (by with_reducible assumption : _ ∧ _); refine step_append_rd _ StayD.enc_len stay_one (by rfl) _ _ 37 (by rfl) W0.heap.size 97 i0 (.agg #[.int .i64 0, .int .i64 0, .int .i64 0, .int .i64 0]) 32 Try.underlying37 hi hz0 hz1 hz2 rfl (by decide) v7 ([] ++ xs) (by rfl) (by first | with_reducible exact hown7 | exact hown7.below (by repeat (first | exact Below.refl _ _ | assumption | refine Below.setCell ?_ (by first | omega | (simp <;> omega)) _ | refine Below.alloc ?_ (by first | omega | (simp <;> omega)) _ | refine below_drewN ?_ _ | refine Below.drew ?_ | refine Below.trans ?_ (Below.mono (by assumption) (by first | omega | (simp <;> omega)))))) _ (.slice (some ⟨_, 0, none⟩) 1 1) [(⟨s0, s1, s2, s3⟩ : StayD)] (by rfl) (by first | with_reducible exact rd9a w7 97 s0 s1 s2 s3 | with_reducible exact rd9b hgrow7 | with_reducible exact rd9c hgrow7 (by simp)) (by unfold maxLen; simp; omega) (by simp; omega) qB.size ?_; intro v10 w10 hown10 hgrow10 hblk10; have hB10 := qB.trans (Own.belowGrown (B := W0.heap.size) (by first | with_reducible exact hown7 | exact hown7.below (by repeat (first | exact Below.refl _ _ | assumption | refine Below.setCell ?_ (by first | omega | (simp <;> omega)) _ | refine Below.alloc ?_ (by first | omega | (simp <;> omega)) _ | refine below_drewN ?_ _ | refine Below.drew ?_ | refine Below.trans ?_ (Below.mono (by assumption) (by first | omega | (simp <;> omega)))))) hgrow10 (Nat.le_refl _) qB.size)))
  all_goals
    go_wp2
    go_ret
    exact ⟨_, rfl, (by simpa using hown10.mono (by omega)), Below.trans hB0 (hB10.mono (by omega))⟩
set_option maxRecDepth 100000 in
set_option maxHeartbeats 8000000 in
theorem spec_FindBerth_any (v1 v2 v3 : Value) (bs : List BerthD) (fl : List ShipD) (xs : List StayD) (ship from_ to_ : Int) (w : World) (h1 : RdBerth w v1 bs) (h2 : RdShip w v2 fl) (h3 : RdStay w v3 xs)
    (hokb : ∀ x ∈ bs, x.name.size ≤ maxLen) (hokf : ∀ x ∈ fl, x.ok) :
    Calls Try.prog 41 #[v1, v2, v3, .int .i64 ship, .int .i64 from_, .int .i64 to_] w fun e w' => e = .returned (.int .i64 (findBerth bs fl xs ship from_ to_)) ∧ Below w.heap.size w w' := by
  have HR1 := hide h1; have HR2 := hide h2; have HR3 := hide h3
  obtain ⟨A1, c1, rfl, hc1, hm1, h1⟩ := h1
  obtain ⟨A2, c2, rfl, hc2, hm2, h2⟩ := h2
  obtain ⟨A3, c3, rfl, hc3, hm3, h3⟩ := h3
  unfold maxLen at hm1 hm2 hm3
  clear h1 h2 h3
  obtain ⟨i0, hi, hz0, hz1, hz2⟩ := info_parts stay_info
  rcases ch1 (staysOk bs fl xs) with g | g
  · have HG := hide g
    have hl12 := stays_len g
    have hn12 : xs.length ≤ 1048576 := by omega
    go_enter Try.func41, Try.ntmps41
    go_wp2_with (go_at_call 37; with_reducible refine (spec_StaysOk_any _ _ _ bs fl xs _ ((HR1.out.keep (B' := w.heap.size) (by repeat (first | exact Below.refl _ _ | assumption | refine Below.setCell ?_ (by first | omega | (simp <;> omega)) _ | refine Below.alloc ?_ (by first | omega | (simp <;> omega)) _ | refine below_drewN ?_ _ | refine Below.drew ?_ | refine Below.trans ?_ (Below.mono (by assumption) (by first | omega | (simp <;> omega))))) (Nat.le_refl _)).mono (by first | omega | (simp <;> omega))) ((HR2.out.keep (B' := w.heap.size) (by repeat (first | exact Below.refl _ _ | assumption | refine Below.setCell ?_ (by first | omega | (simp <;> omega)) _ | refine Below.alloc ?_ (by first | omega | (simp <;> omega)) _ | refine below_drewN ?_ _ | refine Below.drew ?_ | refine Below.trans ?_ (Below.mono (by assumption) (by first | omega | (simp <;> omega))))) (Nat.le_refl _)).mono (by first | omega | (simp <;> omega))) ((HR3.out.keep (B' := w.heap.size) (by repeat (first | exact Below.refl _ _ | assumption | refine Below.setCell ?_ (by first | omega | (simp <;> omega)) _ | refine Below.alloc ?_ (by first | omega | (simp <;> omega)) _ | refine below_drewN ?_ _ | refine Below.drew ?_ | refine Below.trans ?_ (Below.mono (by assumption) (by first | omega | (simp <;> omega))))) (Nat.le_refl _)).mono (by first | omega | (simp <;> omega))) hokb hokf).mono ?_; rintro e w1 ⟨rfl, hb'⟩; (first | have hb := bnext hb hb' | have hb := bnextA hb hb' | have hb := hb'); clear hb'; obtain ⟨hc, hf⟩ := bcell hb; have hz := hb.size; (try simp at hz))
    clear g
    go_loopw [21] (fun i wr => ∃ k : Nat, k ≤ bs.length ∧ i = .int .i64 k ∧ Hid (∀ j, j < k → (fun b : Nat => staysOk bs fl (xs ++ [⟨ship, (b : Int), from_, to_⟩])) j = false) ∧ Below w.heap.size w wr) (fun i _ => bs.length - (intOf i).toNat)
    case atStart => exact ⟨0, Nat.zero_le _, rfl, hide (fun j hj => by omega), (by repeat (first | exact Below.refl _ _ | assumption | refine Below.setCell ?_ (by first | omega | (simp <;> omega)) _ | refine Below.alloc ?_ (by first | omega | (simp <;> omega)) _ | refine below_drewN ?_ _ | refine Below.drew ?_ | refine Below.trans ?_ (Below.mono (by assumption) (by first | omega | (simp <;> omega)))))⟩
    case round =>
      (try clear hc hf hz hb)
      obtain ⟨k, hk, rfl, HN, hb⟩ := hrel
      obtain ⟨wo, rfl⟩ : ∃ wo : World, wo = wr := ⟨_, rfl⟩
      have hbs := hb.size
      obtain ⟨hc, hf⟩ := bcell hb
      by_cases hlt : k < bs.length
      · rcases ch1 (staysOk bs fl (xs ++ [⟨ship, (k : Int), from_, to_⟩])) with q | q
        · have HQ := hide q
          go_wp2_with (first
          | (go_at_call 74; with_reducible refine (l12With_any _ xs ⟨ship, (k : Int), from_, to_⟩ _ ((HR3.out.keep (B' := w.heap.size) (by repeat (first | exact Below.refl _ _ | assumption | refine Below.setCell ?_ (by first | omega | (simp <;> omega)) _ | refine Below.alloc ?_ (by first | omega | (simp <;> omega)) _ | refine below_drewN ?_ _ | refine Below.drew ?_ | refine Below.trans ?_ (Below.mono (by assumption) (by first | omega | (simp <;> omega))))) (Nat.le_refl _)).mono (by first | omega | (simp <;> omega))) hn12).mono ?_; rintro e w1 ⟨u, rfl, hown, hb'⟩; have hr1 := Own.rd StayD.enc_len hown; (first | have hb := bnext hb hb' | have hb := bnextA hb hb' | have hb := hb'); clear hb'; obtain ⟨hc, hf⟩ := bcell hb; have hz := hb.size; (try simp at hz))
          | (go_at_call 37; with_reducible refine (spec_StaysOk_any _ _ _ bs fl (xs ++ [⟨ship, (k : Int), from_, to_⟩]) _ ((HR1.out.keep (B' := w.heap.size) (by repeat (first | exact Below.refl _ _ | assumption | refine Below.setCell ?_ (by first | omega | (simp <;> omega)) _ | refine Below.alloc ?_ (by first | omega | (simp <;> omega)) _ | refine below_drewN ?_ _ | refine Below.drew ?_ | refine Below.trans ?_ (Below.mono (by assumption) (by first | omega | (simp <;> omega))))) (Nat.le_refl _)).mono (by first | omega | (simp <;> omega))) ((HR2.out.keep (B' := w.heap.size) (by repeat (first | exact Below.refl _ _ | assumption | refine Below.setCell ?_ (by first | omega | (simp <;> omega)) _ | refine Below.alloc ?_ (by first | omega | (simp <;> omega)) _ | refine below_drewN ?_ _ | refine Below.drew ?_ | refine Below.trans ?_ (Below.mono (by assumption) (by first | omega | (simp <;> omega))))) (Nat.le_refl _)).mono (by first | omega | (simp <;> omega))) hr1 hokb hokf).mono ?_; rintro e w1 ⟨rfl, hb'⟩; (first | have hb := bnext hb hb' | have hb := bnextA hb hb' | have hb := hb'); clear hb'; obtain ⟨hc, hf⟩ := bcell hb; have hz := hb.size; (try simp at hz)))
          go_ret
          exact ⟨ret_int (by unfold findBerth; rw [if_pos HG.out]; exact (firstUpTo_hit HN.out HQ.out hlt).symm), (by repeat (first | exact Below.refl _ _ | assumption | refine Below.setCell ?_ (by first | omega | (simp <;> omega)) _ | refine Below.alloc ?_ (by first | omega | (simp <;> omega)) _ | refine below_drewN ?_ _ | refine Below.drew ?_ | refine Below.trans ?_ (Below.mono (by assumption) (by first | omega | (simp <;> omega)))))⟩
        · have HQ := hide q
          go_wp2_with (first
          | (go_at_call 74; with_reducible refine (l12With_any _ xs ⟨ship, (k : Int), from_, to_⟩ _ ((HR3.out.keep (B' := w.heap.size) (by repeat (first | exact Below.refl _ _ | assumption | refine Below.setCell ?_ (by first | omega | (simp <;> omega)) _ | refine Below.alloc ?_ (by first | omega | (simp <;> omega)) _ | refine below_drewN ?_ _ | refine Below.drew ?_ | refine Below.trans ?_ (Below.mono (by assumption) (by first | omega | (simp <;> omega))))) (Nat.le_refl _)).mono (by first | omega | (simp <;> omega))) hn12).mono ?_; rintro e w1 ⟨u, rfl, hown, hb'⟩; have hr1 := Own.rd StayD.enc_len hown; (first | have hb := bnext hb hb' | have hb := bnextA hb hb' | have hb := hb'); clear hb'; obtain ⟨hc, hf⟩ := bcell hb; have hz := hb.size; (try simp at hz))
          | (go_at_call 37; with_reducible refine (spec_StaysOk_any _ _ _ bs fl (xs ++ [⟨ship, (k : Int), from_, to_⟩]) _ ((HR1.out.keep (B' := w.heap.size) (by repeat (first | exact Below.refl _ _ | assumption | refine Below.setCell ?_ (by first | omega | (simp <;> omega)) _ | refine Below.alloc ?_ (by first | omega | (simp <;> omega)) _ | refine below_drewN ?_ _ | refine Below.drew ?_ | refine Below.trans ?_ (Below.mono (by assumption) (by first | omega | (simp <;> omega))))) (Nat.le_refl _)).mono (by first | omega | (simp <;> omega))) ((HR2.out.keep (B' := w.heap.size) (by repeat (first | exact Below.refl _ _ | assumption | refine Below.setCell ?_ (by first | omega | (simp <;> omega)) _ | refine Below.alloc ?_ (by first | omega | (simp <;> omega)) _ | refine below_drewN ?_ _ | refine Below.drew ?_ | refine Below.trans ?_ (Below.mono (by assumption) (by first | omega | (simp <;> omega))))) (Nat.le_refl _)).mono (by first | omega | (simp <;> omega))) hr1 hokb hokf).mono ?_; rintro e w1 ⟨rfl, hb'⟩; (first | have hb := bnext hb hb' | have hb := bnextA hb hb' | have hb := hb'); clear hb'; obtain ⟨hc, hf⟩ := bcell hb; have hz := hb.size; (try simp at hz)))
          go_roundw
          case rel => exact ⟨k + 1, by omega, by go_num, hide (none_succ HN.out HQ.out), (by repeat (first | exact Below.refl _ _ | assumption | refine Below.setCell ?_ (by first | omega | (simp <;> omega)) _ | refine Below.alloc ?_ (by first | omega | (simp <;> omega)) _ | refine below_drewN ?_ _ | refine Below.drew ?_ | refine Below.trans ?_ (Below.mono (by assumption) (by first | omega | (simp <;> omega)))))⟩
          case measure => simp [intOf]; omega
      · obtain rfl : k = bs.length := by omega
        go_wp2
        go_ret
        exact ⟨ret_int (by unfold findBerth; rw [if_pos HG.out]; exact (firstUpTo_none HN.out).symm), hb⟩
  · have HG := hide g
    go_enter Try.func41, Try.ntmps41
    go_wp2_with (go_at_call 37; with_reducible refine (spec_StaysOk_any _ _ _ bs fl xs _ ((HR1.out.keep (B' := w.heap.size) (by repeat (first | exact Below.refl _ _ | assumption | refine Below.setCell ?_ (by first | omega | (simp <;> omega)) _ | refine Below.alloc ?_ (by first | omega | (simp <;> omega)) _ | refine below_drewN ?_ _ | refine Below.drew ?_ | refine Below.trans ?_ (Below.mono (by assumption) (by first | omega | (simp <;> omega))))) (Nat.le_refl _)).mono (by first | omega | (simp <;> omega))) ((HR2.out.keep (B' := w.heap.size) (by repeat (first | exact Below.refl _ _ | assumption | refine Below.setCell ?_ (by first | omega | (simp <;> omega)) _ | refine Below.alloc ?_ (by first | omega | (simp <;> omega)) _ | refine below_drewN ?_ _ | refine Below.drew ?_ | refine Below.trans ?_ (Below.mono (by assumption) (by first | omega | (simp <;> omega))))) (Nat.le_refl _)).mono (by first | omega | (simp <;> omega))) ((HR3.out.keep (B' := w.heap.size) (by repeat (first | exact Below.refl _ _ | assumption | refine Below.setCell ?_ (by first | omega | (simp <;> omega)) _ | refine Below.alloc ?_ (by first | omega | (simp <;> omega)) _ | refine below_drewN ?_ _ | refine Below.drew ?_ | refine Below.trans ?_ (Below.mono (by assumption) (by first | omega | (simp <;> omega))))) (Nat.le_refl _)).mono (by first | omega | (simp <;> omega))) hokb hokf).mono ?_; rintro e w1 ⟨rfl, hb'⟩; (first | have hb := bnext hb hb' | have hb := bnextA hb hb' | have hb := hb'); clear hb'; obtain ⟨hc, hf⟩ := bcell hb; have hz := hb.size; (try simp at hz))
    go_ret
    exact ⟨ret_int (by unfold findBerth; rw [if_neg (by rw [HG.out]; simp)]), (by repeat (first | exact Below.refl _ _ | assumption | refine Below.setCell ?_ (by first | omega | (simp <;> omega)) _ | refine Below.alloc ?_ (by first | omega | (simp <;> omega)) _ | refine below_drewN ?_ _ | refine Below.drew ?_ | refine Below.trans ?_ (Below.mono (by assumption) (by first | omega | (simp <;> omega)))))⟩
set_option maxRecDepth 100000 in
set_option maxHeartbeats 8000000 in
theorem impl_FindBerth_any (v1 v2 v3 : Value) (bs : List BerthD) (fl : List ShipD) (xs : List StayD) (ship from_ to_ : Int) (w : World) (h1 : RdBerth w v1 bs) (h2 : RdShip w v2 fl) (h3 : RdStay w v3 xs)
    (hokb : ∀ x ∈ bs, x.name.size ≤ maxLen) (hokf : ∀ x ∈ fl, x.ok) :
    Calls Try.prog 42 #[v1, v2, v3, .int .i64 ship, .int .i64 from_, .int .i64 to_] w fun e w' => e = .returned (.int .i64 (findBerth bs fl xs ship from_ to_)) ∧ Below w.heap.size w w' := by
  have HR1 := hide h1; have HR2 := hide h2; have HR3 := hide h3
  obtain ⟨A1, c1, rfl, hc1, hm1, h1⟩ := h1
  obtain ⟨A2, c2, rfl, hc2, hm2, h2⟩ := h2
  obtain ⟨A3, c3, rfl, hc3, hm3, h3⟩ := h3
  unfold maxLen at hm1 hm2 hm3
  clear h1 h2 h3
  obtain ⟨i0, hi, hz0, hz1, hz2⟩ := info_parts stay_info
  rcases ch1 (staysOk bs fl xs) with g | g
  · have HG := hide g
    have hl12 := stays_len g
    have hn12 : xs.length ≤ 1048576 := by omega
    go_enter Try.func42, Try.ntmps42
    go_wp2_with (go_at_call 39; with_reducible refine (impl_StaysOk_any _ _ _ bs fl xs _ ((HR1.out.keep (B' := w.heap.size) (by repeat (first | exact Below.refl _ _ | assumption | refine Below.setCell ?_ (by first | omega | (simp <;> omega)) _ | refine Below.alloc ?_ (by first | omega | (simp <;> omega)) _ | refine below_drewN ?_ _ | refine Below.drew ?_ | refine Below.trans ?_ (Below.mono (by assumption) (by first | omega | (simp <;> omega))))) (Nat.le_refl _)).mono (by first | omega | (simp <;> omega))) ((HR2.out.keep (B' := w.heap.size) (by repeat (first | exact Below.refl _ _ | assumption | refine Below.setCell ?_ (by first | omega | (simp <;> omega)) _ | refine Below.alloc ?_ (by first | omega | (simp <;> omega)) _ | refine below_drewN ?_ _ | refine Below.drew ?_ | refine Below.trans ?_ (Below.mono (by assumption) (by first | omega | (simp <;> omega))))) (Nat.le_refl _)).mono (by first | omega | (simp <;> omega))) ((HR3.out.keep (B' := w.heap.size) (by repeat (first | exact Below.refl _ _ | assumption | refine Below.setCell ?_ (by first | omega | (simp <;> omega)) _ | refine Below.alloc ?_ (by first | omega | (simp <;> omega)) _ | refine below_drewN ?_ _ | refine Below.drew ?_ | refine Below.trans ?_ (Below.mono (by assumption) (by first | omega | (simp <;> omega))))) (Nat.le_refl _)).mono (by first | omega | (simp <;> omega))) hokb hokf).mono ?_; rintro e w1 ⟨rfl, hb'⟩; (first | have hb := bnext hb hb' | have hb := bnextA hb hb' | have hb := hb'); clear hb'; obtain ⟨hc, hf⟩ := bcell hb; have hz := hb.size; (try simp at hz))
    clear g
    go_loopw [21] (fun i wr => ∃ k : Nat, k ≤ bs.length ∧ i = .int .i64 k ∧ Hid (∀ j, j < k → (fun b : Nat => staysOk bs fl (xs ++ [⟨ship, (b : Int), from_, to_⟩])) j = false) ∧ Below w.heap.size w wr) (fun i _ => bs.length - (intOf i).toNat)
    case atStart => exact ⟨0, Nat.zero_le _, rfl, hide (fun j hj => by omega), (by repeat (first | exact Below.refl _ _ | assumption | refine Below.setCell ?_ (by first | omega | (simp <;> omega)) _ | refine Below.alloc ?_ (by first | omega | (simp <;> omega)) _ | refine below_drewN ?_ _ | refine Below.drew ?_ | refine Below.trans ?_ (Below.mono (by assumption) (by first | omega | (simp <;> omega)))))⟩
    case round =>
      (try clear hc hf hz hb)
      obtain ⟨k, hk, rfl, HN, hb⟩ := hrel
      obtain ⟨wo, rfl⟩ : ∃ wo : World, wo = wr := ⟨_, rfl⟩
      have hbs := hb.size
      obtain ⟨hc, hf⟩ := bcell hb
      by_cases hlt : k < bs.length
      · rcases ch1 (staysOk bs fl (xs ++ [⟨ship, (k : Int), from_, to_⟩])) with q | q
        · have HQ := hide q
          go_wp2_with (first
          | (go_at_call 75; with_reducible refine (cloneStay_any _ xs _ ((HR3.out.keep (B' := w.heap.size) (by repeat (first | exact Below.refl _ _ | assumption | refine Below.setCell ?_ (by first | omega | (simp <;> omega)) _ | refine Below.alloc ?_ (by first | omega | (simp <;> omega)) _ | refine below_drewN ?_ _ | refine Below.drew ?_ | refine Below.trans ?_ (Below.mono (by assumption) (by first | omega | (simp <;> omega))))) (Nat.le_refl _)).mono (by first | omega | (simp <;> omega))) hn12).mono ?_; rintro e w1 ⟨u, rfl, hown, hb'⟩; have hsw := hb'.size; (first | have hb := bnext hb hb' | have hb := bnextA hb hb' | have hb := hb'); clear hb'; obtain ⟨hc, hf⟩ := bcell hb; have hz := hb.size; (try simp at hz))
          | (at_builtin; refine wpList_append_rd _ StayD.enc_len stay_one (by rfl) _ _ 37 (by rfl) wo.heap.size 97 i0 (.agg #[.int .i64 0, .int .i64 0, .int .i64 0, .int .i64 0]) 32 Try.underlying37 hi hz0 hz1 hz2 rfl (by decide) _ _ (by rfl) (hown.below (by repeat (first | exact Below.refl _ _ | assumption | refine Below.setCell ?_ (by first | omega | (simp <;> omega)) _ | refine Below.alloc ?_ (by first | omega | (simp <;> omega)) _ | refine below_drewN ?_ _ | refine Below.drew ?_ | refine Below.trans ?_ (Below.mono (by assumption) (by first | omega | (simp <;> omega)))))) _ (.slice (some ⟨_, 0, none⟩) 1 1) [(⟨ship, (k : Int), from_, to_⟩ : StayD)] (by rfl) (rd9a _ 97 ship (k : Int) from_ to_) (by unfold maxLen; simp; omega) (by simp; omega) (by have := hb.size; simp; omega) ?_; intro v' w2 hown2 hgrow hblk; have hr1 := Own.rd StayD.enc_len hown2; have hb := Below.trans (c := w2) (show Below w.heap.size w _ from (by repeat (first | exact Below.refl _ _ | assumption | refine Below.setCell ?_ (by first | omega | (simp <;> omega)) _ | refine Below.alloc ?_ (by first | omega | (simp <;> omega)) _ | refine below_drewN ?_ _ | refine Below.drew ?_ | refine Below.trans ?_ (Below.mono (by assumption) (by first | omega | (simp <;> omega)))))) (Own.belowGrown (B := w.heap.size) (hown.below (by repeat (first | exact Below.refl _ _ | assumption | refine Below.setCell ?_ (by first | omega | (simp <;> omega)) _ | refine Below.alloc ?_ (by first | omega | (simp <;> omega)) _ | refine below_drewN ?_ _ | refine Below.drew ?_ | refine Below.trans ?_ (Below.mono (by assumption) (by first | omega | (simp <;> omega)))))) hgrow hbs (by simp; omega)); clear hc hf; obtain ⟨hc, hf⟩ := bcell hb; have hz := hb.size)
          | (go_at_call 39; with_reducible refine (impl_StaysOk_any _ _ _ bs fl (xs ++ [⟨ship, (k : Int), from_, to_⟩]) _ ((HR1.out.keep (B' := w.heap.size) (by repeat (first | exact Below.refl _ _ | assumption | refine Below.setCell ?_ (by first | omega | (simp <;> omega)) _ | refine Below.alloc ?_ (by first | omega | (simp <;> omega)) _ | refine below_drewN ?_ _ | refine Below.drew ?_ | refine Below.trans ?_ (Below.mono (by assumption) (by first | omega | (simp <;> omega))))) (Nat.le_refl _)).mono (by first | omega | (simp <;> omega))) ((HR2.out.keep (B' := w.heap.size) (by repeat (first | exact Below.refl _ _ | assumption | refine Below.setCell ?_ (by first | omega | (simp <;> omega)) _ | refine Below.alloc ?_ (by first | omega | (simp <;> omega)) _ | refine below_drewN ?_ _ | refine Below.drew ?_ | refine Below.trans ?_ (Below.mono (by assumption) (by first | omega | (simp <;> omega))))) (Nat.le_refl _)).mono (by first | omega | (simp <;> omega))) hr1 hokb hokf).mono ?_; rintro e w1 ⟨rfl, hb'⟩; (first | have hb := bnext hb hb' | have hb := bnextA hb hb' | have hb := hb'); clear hb'; obtain ⟨hc, hf⟩ := bcell hb; have hz := hb.size; (try simp at hz)))
          go_ret
          exact ⟨ret_int (by unfold findBerth; rw [if_pos HG.out]; exact (firstUpTo_hit HN.out HQ.out hlt).symm), (by repeat (first | exact Below.refl _ _ | assumption | refine Below.setCell ?_ (by first | omega | (simp <;> omega)) _ | refine Below.alloc ?_ (by first | omega | (simp <;> omega)) _ | refine below_drewN ?_ _ | refine Below.drew ?_ | refine Below.trans ?_ (Below.mono (by assumption) (by first | omega | (simp <;> omega)))))⟩
        · have HQ := hide q
          go_wp2_with (first
          | (go_at_call 75; with_reducible refine (cloneStay_any _ xs _ ((HR3.out.keep (B' := w.heap.size) (by repeat (first | exact Below.refl _ _ | assumption | refine Below.setCell ?_ (by first | omega | (simp <;> omega)) _ | refine Below.alloc ?_ (by first | omega | (simp <;> omega)) _ | refine below_drewN ?_ _ | refine Below.drew ?_ | refine Below.trans ?_ (Below.mono (by assumption) (by first | omega | (simp <;> omega))))) (Nat.le_refl _)).mono (by first | omega | (simp <;> omega))) hn12).mono ?_; rintro e w1 ⟨u, rfl, hown, hb'⟩; have hsw := hb'.size; (first | have hb := bnext hb hb' | have hb := bnextA hb hb' | have hb := hb'); clear hb'; obtain ⟨hc, hf⟩ := bcell hb; have hz := hb.size; (try simp at hz))
          | (at_builtin; refine wpList_append_rd _ StayD.enc_len stay_one (by rfl) _ _ 37 (by rfl) wo.heap.size 97 i0 (.agg #[.int .i64 0, .int .i64 0, .int .i64 0, .int .i64 0]) 32 Try.underlying37 hi hz0 hz1 hz2 rfl (by decide) _ _ (by rfl) (hown.below (by repeat (first | exact Below.refl _ _ | assumption | refine Below.setCell ?_ (by first | omega | (simp <;> omega)) _ | refine Below.alloc ?_ (by first | omega | (simp <;> omega)) _ | refine below_drewN ?_ _ | refine Below.drew ?_ | refine Below.trans ?_ (Below.mono (by assumption) (by first | omega | (simp <;> omega)))))) _ (.slice (some ⟨_, 0, none⟩) 1 1) [(⟨ship, (k : Int), from_, to_⟩ : StayD)] (by rfl) (rd9a _ 97 ship (k : Int) from_ to_) (by unfold maxLen; simp; omega) (by simp; omega) (by have := hb.size; simp; omega) ?_; intro v' w2 hown2 hgrow hblk; have hr1 := Own.rd StayD.enc_len hown2; have hb := Below.trans (c := w2) (show Below w.heap.size w _ from (by repeat (first | exact Below.refl _ _ | assumption | refine Below.setCell ?_ (by first | omega | (simp <;> omega)) _ | refine Below.alloc ?_ (by first | omega | (simp <;> omega)) _ | refine below_drewN ?_ _ | refine Below.drew ?_ | refine Below.trans ?_ (Below.mono (by assumption) (by first | omega | (simp <;> omega)))))) (Own.belowGrown (B := w.heap.size) (hown.below (by repeat (first | exact Below.refl _ _ | assumption | refine Below.setCell ?_ (by first | omega | (simp <;> omega)) _ | refine Below.alloc ?_ (by first | omega | (simp <;> omega)) _ | refine below_drewN ?_ _ | refine Below.drew ?_ | refine Below.trans ?_ (Below.mono (by assumption) (by first | omega | (simp <;> omega)))))) hgrow hbs (by simp; omega)); clear hc hf; obtain ⟨hc, hf⟩ := bcell hb; have hz := hb.size)
          | (go_at_call 39; with_reducible refine (impl_StaysOk_any _ _ _ bs fl (xs ++ [⟨ship, (k : Int), from_, to_⟩]) _ ((HR1.out.keep (B' := w.heap.size) (by repeat (first | exact Below.refl _ _ | assumption | refine Below.setCell ?_ (by first | omega | (simp <;> omega)) _ | refine Below.alloc ?_ (by first | omega | (simp <;> omega)) _ | refine below_drewN ?_ _ | refine Below.drew ?_ | refine Below.trans ?_ (Below.mono (by assumption) (by first | omega | (simp <;> omega))))) (Nat.le_refl _)).mono (by first | omega | (simp <;> omega))) ((HR2.out.keep (B' := w.heap.size) (by repeat (first | exact Below.refl _ _ | assumption | refine Below.setCell ?_ (by first | omega | (simp <;> omega)) _ | refine Below.alloc ?_ (by first | omega | (simp <;> omega)) _ | refine below_drewN ?_ _ | refine Below.drew ?_ | refine Below.trans ?_ (Below.mono (by assumption) (by first | omega | (simp <;> omega))))) (Nat.le_refl _)).mono (by first | omega | (simp <;> omega))) hr1 hokb hokf).mono ?_; rintro e w1 ⟨rfl, hb'⟩; (first | have hb := bnext hb hb' | have hb := bnextA hb hb' | have hb := hb'); clear hb'; obtain ⟨hc, hf⟩ := bcell hb; have hz := hb.size; (try simp at hz)))
          go_roundw
          case rel => exact ⟨k + 1, by omega, by go_num, hide (none_succ HN.out HQ.out), (by repeat (first | exact Below.refl _ _ | assumption | refine Below.setCell ?_ (by first | omega | (simp <;> omega)) _ | refine Below.alloc ?_ (by first | omega | (simp <;> omega)) _ | refine below_drewN ?_ _ | refine Below.drew ?_ | refine Below.trans ?_ (Below.mono (by assumption) (by first | omega | (simp <;> omega)))))⟩
          case measure => simp [intOf]; omega
      · obtain rfl : k = bs.length := by omega
        go_wp2
        go_ret
        exact ⟨ret_int (by unfold findBerth; rw [if_pos HG.out]; exact (firstUpTo_none HN.out).symm), hb⟩
  · have HG := hide g
    go_enter Try.func42, Try.ntmps42
    go_wp2_with (go_at_call 39; with_reducible refine (impl_StaysOk_any _ _ _ bs fl xs _ ((HR1.out.keep (B' := w.heap.size) (by repeat (first | exact Below.refl _ _ | assumption | refine Below.setCell ?_ (by first | omega | (simp <;> omega)) _ | refine Below.alloc ?_ (by first | omega | (simp <;> omega)) _ | refine below_drewN ?_ _ | refine Below.drew ?_ | refine Below.trans ?_ (Below.mono (by assumption) (by first | omega | (simp <;> omega))))) (Nat.le_refl _)).mono (by first | omega | (simp <;> omega))) ((HR2.out.keep (B' := w.heap.size) (by repeat (first | exact Below.refl _ _ | assumption | refine Below.setCell ?_ (by first | omega | (simp <;> omega)) _ | refine Below.alloc ?_ (by first | omega | (simp <;> omega)) _ | refine below_drewN ?_ _ | refine Below.drew ?_ | refine Below.trans ?_ (Below.mono (by assumption) (by first | omega | (simp <;> omega))))) (Nat.le_refl _)).mono (by first | omega | (simp <;> omega))) ((HR3.out.keep (B' := w.heap.size) (by repeat (first | exact Below.refl _ _ | assumption | refine Below.setCell ?_ (by first | omega | (simp <;> omega)) _ | refine Below.alloc ?_ (by first | omega | (simp <;> omega)) _ | refine below_drewN ?_ _ | refine Below.drew ?_ | refine Below.trans ?_ (Below.mono (by assumption) (by first | omega | (simp <;> omega))))) (Nat.le_refl _)).mono (by first | omega | (simp <;> omega))) hokb hokf).mono ?_; rintro e w1 ⟨rfl, hb'⟩; (first | have hb := bnext hb hb' | have hb := bnextA hb hb' | have hb := hb'); clear hb'; obtain ⟨hc, hf⟩ := bcell hb; have hz := hb.size; (try simp at hz))
    go_ret
    exact ⟨ret_int (by unfold findBerth; rw [if_neg (by rw [HG.out]; simp)]), (by repeat (first | exact Below.refl _ _ | assumption | refine Below.setCell ?_ (by first | omega | (simp <;> omega)) _ | refine Below.alloc ?_ (by first | omega | (simp <;> omega)) _ | refine below_drewN ?_ _ | refine Below.drew ?_ | refine Below.trans ?_ (Below.mono (by assumption) (by first | omega | (simp <;> omega)))))⟩
end Go.Proofs.Ytjfppjhlkeopnaa
