/- Rows of integers: one more number behind a copy. No condition. -/
import Derived.Test.YtjmffhpfmfmnlaaPackR
import Derived.Test.YtjmffhpfmfmnlaaInts
import Derived.Room.Make
namespace Go.Proofs.Ytjmffhpfmfmnlaa
open Go.RowKit
set_option linter.unusedVariables false
theorem rd_grown {α : Type} {w w' : World} {sz : Nat} {enc : α → List Value} {v : Value} {xs : List α} {row : Option Nat} (h : Rd w sz enc v xs) (hg : w.grownBy w' row) (hne : ∀ g, v.ownBlock = some g → row = some g → False) : Rd w' sz enc v xs := by
  obtain ⟨A, c, rfl, hc, hm, h⟩ := h
  refine ⟨A, c, rfl, hc, hm, fun h0 => ?_⟩
  obtain ⟨b, off, rfl, hlt, hcell⟩ := h h0
  exact ⟨b, off, rfl, Nat.lt_of_lt_of_le hlt hg.size, fun i x hx j u hu => (World.cell?_of_block (hg.block b hlt (fun e => hne b rfl e.symm))).trans (hcell i x hx j u hu)⟩
theorem rdI9a (w7 : World) (T : TypeId) (x : Int) : Rd (w7.alloc (.cells #[.int .i64 x] T)) 1 encI (.slice (some ⟨w7.heap.size, 0, none⟩) 1 1) [x] := rd_new (enc := encI) (sz := 1) w7 x T
theorem rdI9b {w7 W0 : World} {T T' : TypeId} {x : Int} (hg : ((W0.alloc (.cells #[] T')).alloc (.cells #[.int .i64 x] T)).drew.grownBy w7 (Value.slice (some ⟨W0.heap.size, 0, none⟩) 0 0).ownBlock) : Rd w7 1 encI (.slice (some ⟨W0.heap.size + 1, 0, none⟩) 1 1) [x] := by
  have h1 := Rd.below (rdI9a (W0.alloc (.cells #[] T')) T x) (Below.drew (Below.refl _ _))
  have h2 := rd_grown h1 hg (by intro g h1 h2; have h3 := h1.trans h2.symm; simp [Value.ownBlock] at h3)
  rw [World.size_alloc] at h2; exact h2
theorem rdI9c {w7 W0 : World} {T T' : TypeId} {x : Int} {b : Nat} (hg : ((W0.alloc (.cells #[.int .i64 x] T)).alloc (.cells #[] T')).drew.grownBy w7 (Value.slice (some ⟨b, 0, none⟩) 0 0).ownBlock) (hb : W0.heap.size ≠ b) : Rd w7 1 encI (.slice (some ⟨W0.heap.size, 0, none⟩) 1 1) [x] := by
  have h1 := Rd.below (rdI9a W0 T x) (w' := ((W0.alloc (.cells #[.int .i64 x] T)).alloc (.cells #[] T')).drew) (Below.drew ((Below.refl _ _).alloc (Nat.le_refl _) _))
  exact rd_grown h1 hg (by intro g h1 h2; have h3 := h1.trans h2.symm; simp [Value.ownBlock] at h3; exact hb h3)
theorem Own.lt {α : Type} {w : World} {base sz : Nat} {T : TypeId} {enc : α → List Value} {v : Value} {xs : List α} (h : Own w base T sz enc v xs) (g : Nat) (e : v.ownBlock = some g) : base ≤ g ∧ g < w.heap.size := World.ownsRow.lt h g e
theorem rep_zero : ∀ n : Nat, List.replicate n (Value.int .i64 0) = (List.replicate n (0 : Int)).flatMap encI
  | 0 => rfl
  | n + 1 => by rw [List.replicate_succ, List.replicate_succ, List.flatMap_cons, rep_zero n]; rfl
/-- make([]int, m), as an equation for the walk -/
theorem make_ints {P : Program} {t T : TypeId} {i : TypeInfo} (m : Nat) (ht : P.underlying t = some (.slice T)) (hi : P.info? T = some i) (hz : i.zero = some (.int .i64 0)) (hs : i.size = 1) (hb : i.bytes = 8) (hm : m ≤ 1048576) :
    ∀ w : World, (Instr.makeSlice t (.int .i64 (m : Int)) (.int .i64 (m : Int))).run P w = .ok (.slice (some ⟨w.heap.size, 0, none⟩) m m) (w.alloc (.cells (List.replicate m (Value.int .i64 0)).toArray T)) := by
  intro w
  have h := run_make (P := P) w t T i (.int .i64 0) ht hi hz .i64 .i64 m m (by omega) (Int.le_refl _) (by rw [hb]; omega) (by omega)
  rw [h, hs, Int.toNat_natCast, Nat.mul_one]
  congr 3
  rw [← toList_madeCells_one]
  rfl
theorem own_rep (w : World) (T : TypeId) (m : Nat) (hm : m ≤ maxLen) : Own (w.alloc (.cells (Array.replicate m (Value.int .i64 0)) T)) w.heap.size T 1 encI (.slice (some ⟨w.heap.size, 0, none⟩) m m) (List.replicate m (0 : Int)) := by
  unfold Own
  rw [List.length_replicate]
  refine ⟨by rw [flatMap_len encI_len, List.length_replicate], .inr ⟨w.heap.size, m, _, rfl, Nat.le_refl _, heap_alloc_new w _, Nat.le_refl _, hm, by simp, ?_⟩⟩
  rw [← rep_zero]; simp
theorem own_zero {w : World} {base : Nat} {v : Value} {n : Nat} {T : TypeId} (h : w.ownsRow base T 1 v n (madeCells (Value.int .i64 0).cells (n * 1)).toList) : Own w base T 1 encI v (List.replicate n (0 : Int)) := by
  rw [show (Value.int IntKind.i64 0).cells = #[Value.int IntKind.i64 0] from rfl, toList_madeCells_one, Nat.mul_one, rep_zero] at h
  unfold Own
  rw [List.length_replicate]
  exact h
/-- a store into another block -/
theorem RdB.setFar {α : Type} {w : World} {B sz : Nat} {enc : α → List Value} {v : Value} {xs : List α} (h : RdB w B sz enc v xs) {p : Addr} (hp : v.ownBlock ≠ some p.block) (u : Value) : RdB (w.setCell p u) B sz enc v xs := by
  obtain ⟨A, c, rfl, hc, hm, h⟩ := h
  refine ⟨A, c, rfl, hc, hm, fun h0 => ?_⟩
  obtain ⟨b, off, rfl, hlt, hcell⟩ := h h0
  refine ⟨b, off, rfl, hlt, fun i x hx j u hu => ?_⟩
  rw [World.cell?_setCell_other _ _ _ _ (fun e => hp (by rw [e]; rfl))]
  exact hcell i x hx j u hu
set_option maxRecDepth 100000 in
set_option maxHeartbeats 4000000 in
theorem cloneInt_any (v : Value) (xs : List Int) (w : World) (h : RdI w v xs) (hn : xs.length ≤ 1048576) :
    Calls Try.prog 61 #[v] w fun e w' => ∃ u, e = .returned u ∧ Own w' w.heap.size 3 1 encI u xs ∧ Below w.heap.size w w' := by
  have HR := hide h
  obtain ⟨A1, c1, rfl, hc1, hm1, h1⟩ := h
  unfold maxLen at hm1
  clear h1
  obtain ⟨i0, hi, hz0, hz1, hz2⟩ := info_parts int_info
  go_enter Try.func61, Try.ntmps61
  go_wp2_with (first
    | (refine wpList_make_own _ rfl _ _ _ rfl w.heap.size 3 i0 _ 1 Try.underlying24 hi hz0 hz1 _ _ _ xs.length rfl rfl rfl (by rw [hz2]; omega) (by unfold maxLen; omega) (Nat.le_refl _) ?_; intro w1 hown hg)
    | (at_builtin; refine wpList_append_rd _ encI_len encI_one (by rfl) _ _ 24 (by rfl) w.heap.size 3 i0 (.int .i64 0) 8 Try.underlying24 hi hz0 hz1 hz2 rfl (by decide) _ _ (by rfl) (show Own w1 w.heap.size 3 1 encI _ ([] : List Int) from hown) _ _ _ (by rfl) (RdB.keep HR.out (((Below.refl _ _).grown hg (Nat.le_refl _) (by simp)) : Below w.heap.size w w1) (Nat.le_refl _)) (by unfold maxLen; simp; omega) (by simp; omega) (by have := hg.size; omega) ?_; intro v' w2 hown2 hgrow hblk))
  go_ret
  have hb1 : Below w.heap.size w w1 := (Below.refl _ _).grown hg (Nat.le_refl _) (by simp)
  exact ⟨_, rfl, by simpa using hown2, hb1.trans (Own.belowGrown (B := w.heap.size) (show Own w1 w.heap.size 3 1 encI _ ([] : List Int) from hown) hgrow (Nat.le_refl _) hb1.size)⟩
end Go.Proofs.Ytjmffhpfmfmnlaa
