/- Lockings as the laws' helpers handle them: a row bears a slice of ships of its own. No condition. -/
import Derived.Test.YtjmffhpfmfmnlaaInts
namespace Go.Proofs.Ytjmffhpfmfmnlaa
open Go.RowKit
set_option linter.unusedVariables false

/-- a locking, and the slice value that holds its ships -/
structure LockR where
  start : Int
  up : Bool
  v : Value
  ships : List Int
structure LockD where
  start : Int
  up : Bool
  ships : List Int
theorem LockD.ext_iff' (x y : LockD) : (x.start = y.start ∧ x.up = y.up ∧ x.ships = y.ships) ↔ x = y := by
  cases x; cases y; simp
instance : DecidableEq LockD := fun x y => decidable_of_iff _ (LockD.ext_iff' x y)
instance : Inhabited LockD := ⟨⟨0, false, []⟩⟩
instance : Inhabited LockR := ⟨⟨0, false, .slice none 0 0, []⟩⟩
def LockR.d (r : LockR) : LockD := ⟨r.start, r.up, r.ships⟩
def LockR.enc (x : LockR) : List Value := [.int .i64 x.start, .bool x.up, x.v]
theorem LockR.enc_len (x : LockR) : x.enc.length = 3 := rfl
/-- the slice value reads as these lockings, below B -/
def RdLk (w : World) (B : Nat) (v : Value) (rs : List LockR) : Prop := RdB w B 3 LockR.enc v rs ∧ ∀ r ∈ rs, RdB w B 1 encI r.v r.ships
theorem RdLk.keep {w w' : World} {B B' : Nat} {v : Value} {rs : List LockR} (h : RdLk w B v rs) (hb : Below B' w w') (hB : B ≤ B') : RdLk w' B v rs := ⟨h.1.keep hb hB, fun r hr => (h.2 r hr).keep hb hB⟩
theorem RdLk.mono {w : World} {B B' : Nat} {v : Value} {rs : List LockR} (h : RdLk w B v rs) (hB : B ≤ B') : RdLk w B' v rs := ⟨h.1.mono hB, fun r hr => (h.2 r hr).mono hB⟩

/-- no two rows bear one block -/
def SepLk (ds : List LockR) : Prop := ds.Pairwise fun a b => ∀ g, a.v.ownBlock = some g → b.v.ownBlock ≠ some g
theorem SepLk.snoc {ds : List LockR} {r : LockR} {hi : Nat} (h : SepLk ds) (hd : ∀ a ∈ ds, ∀ g, a.v.ownBlock = some g → g < hi) (hr : ∀ g, r.v.ownBlock = some g → hi ≤ g) : SepLk (ds ++ [r]) := by
  unfold SepLk at *
  rw [List.pairwise_append]
  refine ⟨h, by simp, fun a ha b hb g hg e => ?_⟩
  simp at hb; subst hb
  have := hd a ha g hg; have := hr g e; omega
theorem lock_info : (Try.prog.info? 68).map (fun i => (i.zero, i.size, i.bytes)) = some (some (.agg #[.int .i64 0, .bool false, .slice none 0 0]), 3, 40) := by kernel_rfl
/-- lockings in memory of the call's own, all from 'base' on, below 'hi' -/
def OwnLk (w : World) (base hi : Nat) (v : Value) (ds : List LockR) : Prop :=
  OwnB w base hi 68 3 LockR.enc v ds ∧ (∀ r ∈ ds, OwnB w base hi 3 1 encI r.v r.ships) ∧ SepLk ds
theorem OwnLk.keep {w w' : World} {base hi B : Nat} {v : Value} {ds : List LockR} (h : OwnLk w base hi v ds) (hb : Below B w w') (hB : hi ≤ B) : OwnLk w' base hi v ds :=
  ⟨h.1.keep hb hB, fun r hr => (h.2.1 r hr).keep hb hB, h.2.2⟩
theorem OwnLk.rd {w : World} {base hi : Nat} {v : Value} {ds : List LockR} (h : OwnLk w base hi v ds) : RdLk w hi v ds :=
  ⟨h.1.rdB LockR.enc_len, fun r hr => (h.2.1 r hr).rdB encI_len⟩
set_option maxRecDepth 100000 in
set_option maxHeartbeats 2000000 in
theorem toLocking_any (x0 : Int) (x1 : Bool) (v : Value) (xs : List Int) (w : World) (h1 : RdI w v xs) (hn : xs.length ≤ 1048576) :
    Calls Try.prog 72 #[.agg #[.int .i64 x0, .bool x1, v]] w fun e w' => ∃ g, e = .returned (.agg #[.int .i64 x0, .bool x1, .slice (some ⟨g, 0, none⟩) xs.length xs.length]) ∧
      Own w' w.heap.size 3 1 encI (.slice (some ⟨g, 0, none⟩) xs.length xs.length) xs ∧ w.heap.size ≤ g ∧ Below w.heap.size w w' := by
  obtain ⟨A1, c1, rfl, hc1, hm1, hh1⟩ : ∃ A c, v = .slice A xs.length c ∧ xs.length ≤ c ∧ c ≤ maxLen ∧ RdI w (.slice A xs.length c) xs := by
    obtain ⟨A, c, rfl, hc, hm, h⟩ := h1; exact ⟨A, c, rfl, hc, hm, ⟨A, c, rfl, hc, hm, h⟩⟩
  unfold maxLen at hm1
  go_enter Try.func72, Try.ntmps72
  go_wp2_with fail
  refine (toIntS_at _ _ _ (RdB.mono (RdB.keep hh1 (B' := w.heap.size) (by repeat (first | exact Below.refl _ _ | assumption | refine Below.setCell ?_ (by first | omega | (simp <;> omega)) _ | refine Below.alloc ?_ (by first | omega | (simp <;> omega)) _ | refine below_drewN ?_ _ | refine Below.drew ?_ | refine Below.trans ?_ (Below.mono (by assumption) (by first | omega | (simp <;> omega))))) (Nat.le_refl _)) (by simp <;> omega)) hn).mono ?_
  rintro e w2 ⟨rfl, ho, hb'⟩
  have hb2 : Below w.heap.size w w2 := Below.trans (by repeat (first | exact Below.refl _ _ | assumption | refine Below.setCell ?_ (by first | omega | (simp <;> omega)) _ | refine Below.alloc ?_ (by first | omega | (simp <;> omega)) _ | refine below_drewN ?_ _ | refine Below.drew ?_ | refine Below.trans ?_ (Below.mono (by assumption) (by first | omega | (simp <;> omega))))) (hb'.mono (by simp <;> omega))
  obtain ⟨hc, hf⟩ := bcell hb'
  have hs2 := hb'.size
  simp at hs2 ho
  have hg0 : w.heap.size + 1 + 1 < w2.heap.size := by omega
  have hg1 : w.heap.size + 1 < w2.heap.size := by omega
  clear hb'
  go_wp2
  have hbl : ∀ b, b < w.heap.size → b ≠ w.heap.size + 1 ∧ b ≠ w.heap.size + 1 + 1 := fun b hb => by omega
  refine bodyPost_ret (v := .agg #[.int .i64 x0, .bool x1, .slice (some ⟨w.heap.size + 1 + 1 + 1, 0, none⟩) xs.length xs.length]) (by simp [results, Try.results72, go_sem, hc, hg0, hg1]) rfl ⟨_, rfl, ?_, by omega, (by repeat (first | exact Below.refl _ _ | assumption | refine Below.setCell ?_ (by first | omega | (simp <;> omega)) _ | refine Below.alloc ?_ (by first | omega | (simp <;> omega)) _ | refine below_drewN ?_ _ | refine Below.drew ?_ | refine Below.trans ?_ (Below.mono (by assumption) (by first | omega | (simp <;> omega)))))⟩
  refine Own.setFar (Own.setFar (Own.setFar (Own.setFar (ho.mono (by omega)) ?_ _) ?_ _) ?_ _) ?_ _ <;> simp [Value.ownBlock] <;> omega
set_option maxRecDepth 100000 in
set_option maxHeartbeats 4000000 in
theorem toLockingS_any (v1 : Value) (rs : List LockR) (w : World) (h1 : RdLk w w.heap.size v1 rs) (hn : rs.length ≤ 1048576) (hs : ∀ r ∈ rs, r.ships.length ≤ 1048576) :
    Calls Try.prog 35 #[v1] w fun e w' => ∃ v ds, e = .returned v ∧ OwnLk w' w.heap.size w'.heap.size v ds ∧ ds.map LockR.d = rs.map LockR.d ∧ Below w.heap.size w w' := by
  obtain ⟨h1, hsl⟩ := h1
  obtain ⟨A1, c1, rfl, hc1, hm1, h1⟩ := h1
  unfold maxLen at hm1
  obtain ⟨i0, hi0, hz0, hz1, hz2⟩ := info_parts lock_info
  go_enter Try.func35, Try.ntmps35
  go_wp2_with (refine wpList_make_full _ rfl (.tmp 6) (.tmp 6) _ rfl w.heap.size 68 i0 _ 3 Try.underlying51 hi0 hz0 hz1 _ _ _ _ rs.length rfl rfl rfl rfl (by rw [hz2]; omega) (by unfold maxLen; omega) (Nat.le_refl _) ?_; intro w1 hown hg)
  have hb : Below w.heap.size w w1 := (Below.refl _ _).grown hg (Nat.le_refl _) (by simp)
  have HF : Filled w1 w.heap.size 68 3 LockR.enc w.heap.size rs.length ([] : List LockR) := Filled.start hown
  clear hown hg
  go_loopw [4] (fun i wr => ∃ (k : Nat) (ds : List LockR), k ≤ rs.length ∧ ds.length = k ∧ i = .int .i64 k ∧ Filled wr w.heap.size 68 3 LockR.enc w.heap.size rs.length ds ∧ Hid (ds.map LockR.d = (rs.take k).map LockR.d) ∧ Hid (∀ r ∈ ds, OwnB wr (w.heap.size + 1) wr.heap.size 3 1 encI r.v r.ships) ∧ SepLk ds ∧ Below w.heap.size w wr) (fun i _ => rs.length - (intOf i).toNat)
  case atStart => exact ⟨0, [], Nat.zero_le _, rfl, rfl, HF, hide rfl, hide (by simp), List.Pairwise.nil, hb⟩
  case round =>
    clear HF hb
    obtain ⟨k, ds, hk, hdl, rfl, HF, HD, HR, HS, hb⟩ := hrel
    have HDL := hide hdl; clear hdl
    by_cases hlt : k < rs.length
    · obtain ⟨b1, o1, rfl, hb1, hcell1⟩ := h1 (by omega)
      have e0 : wr.cell? ⟨b1, o1 + k * 3, none⟩ = some (.int .i64 rs[k].start) := by
        rw [hb.cell (p := ⟨b1, _, none⟩) hb1]; have := hcell1 k rs[k] (List.getElem?_eq_getElem hlt) 0 _ rfl; simpa using this
      have e1 : wr.cell? ⟨b1, o1 + k * 3 + 1, none⟩ = some (.bool rs[k].up) := by
        rw [hb.cell (p := ⟨b1, _, none⟩) hb1]; have := hcell1 k rs[k] (List.getElem?_eq_getElem hlt) 1 _ rfl; simpa using this
      have e2 : wr.cell? ⟨b1, o1 + k * 3 + 2, none⟩ = some rs[k].v := by
        rw [hb.cell (p := ⟨b1, _, none⟩) hb1]; have := hcell1 k rs[k] (List.getElem?_eq_getElem hlt) 2 _ rfl; simpa using this
      have hrd := (hsl rs[k] (List.getElem_mem hlt)).keep hb (Nat.le_refl _)
      have hln := hs rs[k] (List.getElem_mem hlt)
      have hbs := hb.size
      have HSL := hide hsl; have HSS := hide hs
      clear hcell1 h1 hsl hs
      go_wp2_with fail
      refine (toLocking_any _ _ _ _ _ (hrd.mono hbs) hln).mono ?_; rintro e w2 ⟨g, rfl, ho, hgg, hb2⟩
      have HF2 := HF.below hb2
      have hz2 := HF2.lt.2
      have hb3 := bnext hb hb2 (Nat.le_refl _)
      have hs2 := hb2.size
      have HB := hide hb2
      have hwlt := HF.lt.2
      have HO := hide ho
      clear e0 e1 e2 HF hb hb2 ho
      have hkb : k * 3 + 3 ≤ rs.length * 3 := by omega
      obtain ⟨⟨u0, f0⟩, g0⟩ := HF2.cell (j := k * 3) (by omega)
      obtain ⟨⟨u1, f1⟩, g1⟩ := HF2.cell (j := k * 3 + 1) (by omega)
      obtain ⟨⟨u2, f2⟩, g2⟩ := HF2.cell (j := k * 3 + 2) (by omega)
      go_wp2
      go_roundw
      case rel =>
        have hst : ∀ (us : List Value), us = LockR.enc ⟨rs[k].start, rs[k].up, .slice (some ⟨g, 0, none⟩) rs[k].ships.length rs[k].ships.length, rs[k].ships⟩ →
            ∀ W, W = storeRow w2 w.heap.size (k * 3) us → Filled W w.heap.size 68 3 LockR.enc w.heap.size rs.length (ds ++ [⟨rs[k].start, rs[k].up, .slice (some ⟨g, 0, none⟩) rs[k].ships.length rs[k].ships.length, rs[k].ships⟩]) ∧
              Hid (∀ r ∈ (ds ++ [⟨rs[k].start, rs[k].up, .slice (some ⟨g, 0, none⟩) rs[k].ships.length rs[k].ships.length, rs[k].ships⟩]), OwnB W (w.heap.size + 1) W.heap.size 3 1 encI r.v r.ships) ∧ Below w.heap.size w W := by
          intro us hus W hW
          subst hW
          refine ⟨?_, hide ?_, below_storeRow (Nat.le_refl _) us _ (k * 3) hb3⟩
          · have := HF2.next LockR.enc_len (by rw [HDL.out]; exact hlt) ⟨rs[k].start, rs[k].up, .slice (some ⟨g, 0, none⟩) rs[k].ships.length rs[k].ships.length, rs[k].ships⟩
            rw [HDL.out, ← hus] at this
            exact this
          · intro r hr
            rw [storeRow_size]
            rcases List.mem_append.1 hr with hr | hr
            · exact OwnB.storeFar (by omega) us _ _ (((HR.out r hr).keep HB.out (Nat.le_refl _)).up hs2)
            · simp at hr; subst hr
              exact OwnB.storeFar (by omega) us _ _ ⟨HO.out.mono (by omega), fun b hbb => (World.ownsRow.lt HO.out b hbb).2⟩
        obtain ⟨r1, r2, r3⟩ := hst _ rfl _ rfl
        refine ⟨k + 1, ds ++ [⟨rs[k].start, rs[k].up, .slice (some ⟨g, 0, none⟩) rs[k].ships.length rs[k].ships.length, rs[k].ships⟩], by omega, by simp [HDL.out], by go_num, ?_, hide ?_, ?_, ?_, ?_⟩
        · simpa [storeRow, LockR.enc] using r1
        · rw [List.take_succ_eq_append_getElem hlt, List.map_append, List.map_append, HD.out]; rfl
        · simpa [storeRow, LockR.enc] using r2
        · exact SepLk.snoc HS (hi := wr.heap.size) (fun a ha => (HR.out a ha).2) (fun b hbb => by simp [Value.ownBlock] at hbb; omega)
        · simpa [storeRow, LockR.enc] using r3
      case measure => simp [intOf]; omega
    · obtain rfl : k = rs.length := by omega
      go_wp2
      go_ret
      refine ⟨_, ds, rfl, ⟨?_, fun r hr => ?_, HS⟩, by rw [HD.out, List.take_length], hb⟩
      · have := HF.own HDL.out
        rw [← HDL.out] at this ⊢
        exact Own.b this
      · have := HR.out r hr
        exact ⟨this.1.mono (by omega), this.2⟩
section
open Go.ChangeShapes Go.WideShapes Go.Deep
variable {H : Type} {encH : TypeId × Value → H} {P : Program} {w : World}
theorem rdI_trod {t e : TypeId} {u : Value} {y : DataW H × List MemPlace} {n : Nat} (ht : P.underlying t = some (.slice e)) (he : P.underlying e = some (.int .i64)) (hC : P.cellsOf e = 1)
    (hf : DataW.trod encH P w 0 (fun _ => true) true n t [u] = some y) : ∃ xs : List Int, RdI w u xs ∧ ∀ x ∈ xs, (Lit.int .i64 x).wf = true := by
  rcases open_ints ht he hC hf with ⟨hcs, _⟩ | ⟨a, len, cap, zs, hcs, hb, hl, hm, hz, hx, hcell, hwf⟩
  · have e1 : u = .slice none 0 0 := by simpa using hcs
    rw [e1]
    exact ⟨[], RdB.nil_, by simp⟩
  · have e1 : u = .slice (some a) len cap := by simpa using hcs
    rw [e1]
    have hzl : zs.length = cap := by simpa using hz
    have hll : (zs.take len).length = len := by simp; omega
    refine ⟨zs.take len, ⟨some a, cap, by rw [hll], by omega, hm, fun hpos => ?_⟩, fun x hx => hwf x (List.mem_of_mem_take hx)⟩
    obtain ⟨b, off, spot⟩ := a
    have hc0 := hcell 0 (by omega)
    have hspot : spot = none := by simpa [Addr.add] using World.cell?_spot hc0
    subst hspot
    have hc0' : w.cell? (⟨b, off, none⟩ : Addr) = some (.int .i64 (zs.getD 0 0)) := by simpa [Addr.add] using hc0
    refine ⟨b, off, rfl, World.block_lt_of_cell? w _ hc0', fun i x hx j u hu => ?_⟩
    have hj : j = 0 := by have := (List.getElem?_eq_some_iff.1 hu).1; simpa using this
    subst hj
    have hi : i < len := by rw [← hll]; exact (List.getElem?_eq_some_iff.1 hx).1
    have hc := hcell i (by omega)
    rw [Go.WideShapes.add_plain] at hc
    rw [List.getElem?_take, if_pos hi] at hx
    simp only [encI, List.getElem?_cons_zero, Option.some.injEq] at hu
    rw [Nat.mul_one, Nat.add_zero, hc, ← hu]
    simp [List.getD, hx]
set_option maxRecDepth 100000 in
theorem openLockingS {r : Reach} {b0 : Nat} {v : Value} {d : DataW H} {p : List MemPlace} (hv : Value.okWide Try.prog w r b0 45 v)
    (h : DataW.Trod encH Try.prog w 0 (fun _ => true) true 45 v d p) : ∃ rs : List LockR, RdLk w w.heap.size v rs ∧ ∀ r ∈ rs, (Lit.int .i64 r.start).wf = true ∧ ∀ x ∈ r.ships, (Lit.int .i64 x).wf = true := by
  obtain ⟨rs, h1, h2⟩ := open_rows (α := LockR) (enc := LockR.enc) (ok := fun r => (Lit.int .i64 r.start).wf = true ∧ RdI w r.v r.ships ∧ ∀ x ∈ r.ships, (Lit.int .i64 x).wf = true) Try.underlying45 Try.underlying88 (by kernel_rfl) (by kernel_rfl) (by decide) hv h (by
    intro us hl hf
    obtain ⟨c0, c1, c2, rfl⟩ := list3 hl
    obtain ⟨u0, y0, m0, g0, hy0⟩ := hf 0 _ rfl
    have g0 := Option.some.inj g0; subst g0
    obtain ⟨a0, e0, -, w0⟩ := DataW.trod_int Try.underlying3 hy0
    simp only [List.cons.injEq, and_true] at e0; subst e0
    obtain ⟨u1, y1, m1, g1, hy1⟩ := hf 1 _ rfl
    have g1 := Option.some.inj g1; subst g1
    obtain ⟨a1, e1, -⟩ := DataW.trod_bool Try.underlying4 hy1
    simp only [List.cons.injEq, and_true] at e1; subst e1
    obtain ⟨u2, y2, m2, g2, hy2⟩ := hf 2 _ rfl
    have g2 := Option.some.inj g2; subst g2
    obtain ⟨xs, hx1, hx2⟩ := rdI_trod Try.underlying24 Try.underlying3 (by kernel_rfl) hy2
    exact ⟨⟨a0, a1, c2, xs⟩, rfl, w0, hx1, hx2⟩)
  exact ⟨rs, ⟨h1, fun r hr => (h2 r hr).2.1⟩, fun r hr => ⟨(h2 r hr).1, (h2 r hr).2.2⟩⟩
end

set_option maxHeartbeats 1000000 in
theorem szIntS_any (v1 : Value) (xs : List Int) (left : Int) (w : World) (h1 : RdI w v1 xs) (hl0 : 0 ≤ left) (hl1 : left ≤ 1048576) :
    Calls Try.prog 88 #[v1, .int .i64 left] w fun e w' => ∃ r : Int, e = .returned (.int .i64 r) ∧ (0 ≤ r → r + (xs.length : Int) = left) ∧ r ≤ 1048576 ∧ Below w.heap.size w w' := by
  obtain ⟨A1, c1, rfl, hc1, hm1, h1⟩ := h1
  unfold maxLen at hm1
  clear h1
  by_cases hl : left < (xs.length : Int)
  · go_enter Try.func88, Try.ntmps88
    go_wp2
    go_ret
    exact ⟨-1, rfl, by omega, by omega, Below.refl _ _⟩
  · go_enter Try.func88, Try.ntmps88
    go_wp2
    go_ret
    exact ⟨left - (xs.length : Int), rfl, by omega, by omega, Below.refl _ _⟩
set_option maxHeartbeats 1000000 in
theorem szLocking_any (x0 : Int) (x1 : Bool) (v1 : Value) (xs : List Int) (left : Int) (w : World) (h1 : RdI w v1 xs) (hl0 : 0 ≤ left) (hl1 : left ≤ 1048576) :
    Calls Try.prog 68 #[.agg #[.int .i64 x0, .bool x1, v1], .int .i64 left] w fun e w' => ∃ r : Int, e = .returned (.int .i64 r) ∧ (0 ≤ r → r + (xs.length : Int) = left) ∧ r ≤ 1048576 ∧ Below w.heap.size w w' := by
  go_enter Try.func68, Try.ntmps68
  go_wp2_with fail
  refine (szIntS_any _ xs _ _ (RdB.mono (RdB.keep h1 (B' := w.heap.size) (by repeat (first | exact Below.refl _ _ | assumption | refine Below.setCell ?_ (by first | omega | (simp <;> omega)) _ | refine Below.alloc ?_ (by first | omega | (simp <;> omega)) _ | refine below_drewN ?_ _ | refine Below.drew ?_ | refine Below.trans ?_ (Below.mono (by assumption) (by first | omega | (simp <;> omega))))) (Nat.le_refl _)) (by simp <;> omega)) hl0 hl1).mono ?_; rintro e w2 ⟨r, rfl, hr, hr1, hb'⟩
  have hb2 : Below w.heap.size w w2 := Below.trans (by repeat (first | exact Below.refl _ _ | assumption | refine Below.setCell ?_ (by first | omega | (simp <;> omega)) _ | refine Below.alloc ?_ (by first | omega | (simp <;> omega)) _ | refine below_drewN ?_ _ | refine Below.drew ?_ | refine Below.trans ?_ (Below.mono (by assumption) (by first | omega | (simp <;> omega))))) (hb'.mono (by simp <;> omega))
  by_cases hn : r < 0
  · clear hr
    go_wp2
    go_ret
    exact ⟨-1, rfl, by omega, by omega, hb2⟩
  · have p := hr (by omega)
    clear hr
    go_wp2
    go_ret
    exact ⟨r, rfl, fun _ => p, hr1, hb2⟩
def lkTotal (rs : List LockR) : Nat := (rs.map fun r => r.ships.length).sum
theorem lkTotal_mem {rs : List LockR} {r : LockR} (h : r ∈ rs) : r.ships.length ≤ lkTotal rs := by
  unfold lkTotal
  induction rs with
  | nil => simp at h
  | cons a l ih =>
    simp only [List.map_cons, List.sum_cons]
    rcases List.mem_cons.1 h with rfl | h
    · omega
    · have := ih h; omega
theorem lkTotal_succ {rs : List LockR} {k : Nat} (h : k < rs.length) : lkTotal (rs.take (k + 1)) = lkTotal (rs.take k) + rs[k].ships.length := by
  unfold lkTotal; rw [List.take_succ_eq_append_getElem h]; simp only [List.map_append, List.sum_append, List.map_cons, List.map_nil, List.sum_cons, List.sum_nil, Nat.add_zero]
theorem lkTotal_le {rs : List LockR} : ∀ {k : Nat}, lkTotal (rs.take k) ≤ lkTotal rs := by
  intro k
  have h : rs.take k ++ rs.drop k = rs := List.take_append_drop k rs
  have : lkTotal (rs.take k ++ rs.drop k) = lkTotal (rs.take k) + lkTotal (rs.drop k) := by unfold lkTotal; simp only [List.map_append, List.sum_append]
  rw [h] at this; omega
set_option maxHeartbeats 2000000 in
theorem szLockingS_any (v1 : Value) (rs : List LockR) (left : Int) (w : World) (h1 : RdLk w w.heap.size v1 rs) (hl0 : 0 ≤ left) (hl1 : left ≤ 1048576) :
    Calls Try.prog 32 #[v1, .int .i64 left] w fun e w' => ∃ r : Int, e = .returned (.int .i64 r) ∧ (0 ≤ r → r ≤ left ∧ (rs.length : Int) ≤ left ∧ lkTotal rs ≤ 1048576) ∧ r ≤ 1048576 ∧ Below w.heap.size w w' := by
  obtain ⟨h1, hsl⟩ := h1
  obtain ⟨A1, c1, rfl, hc1, hm1, h1⟩ := h1
  unfold maxLen at hm1
  by_cases hl : left < (rs.length : Int)
  · go_enter Try.func32, Try.ntmps32
    go_wp2
    go_ret
    exact ⟨-1, rfl, by omega, by omega, Below.refl _ _⟩
  · go_enter Try.func32, Try.ntmps32
    go_wp2
    go_loopw [1, 5] (fun lv i wr => ∃ (k : Nat) (l : Int), k ≤ rs.length ∧ i = .int .i64 k ∧ lv = .int .i64 l ∧ 0 ≤ l ∧ l ≤ left - rs.length ∧ Hid (l + lkTotal (rs.take k) = left - rs.length) ∧ Below w.heap.size w wr) (fun _ i _ => rs.length - (intOf i).toNat)
    case atStart => exact ⟨0, left - rs.length, Nat.zero_le _, rfl, rfl, by omega, by omega, hide (by simp [lkTotal]), Below.refl _ _⟩
    case round =>
      obtain ⟨k, l, hk, rfl, rfl, l0, l1, HN, hb⟩ := hrel
      by_cases hlt : k < rs.length
      · obtain ⟨b1, o1, rfl, hb1, hcell1⟩ := h1 (by omega)
        have e0 : wr.cell? ⟨b1, o1 + k * 3, none⟩ = some (.int .i64 rs[k].start) := by
          rw [hb.cell (p := ⟨b1, _, none⟩) hb1]; have := hcell1 k rs[k] (List.getElem?_eq_getElem hlt) 0 _ rfl; simpa using this
        have e1 : wr.cell? ⟨b1, o1 + k * 3 + 1, none⟩ = some (.bool rs[k].up) := by
          rw [hb.cell (p := ⟨b1, _, none⟩) hb1]; have := hcell1 k rs[k] (List.getElem?_eq_getElem hlt) 1 _ rfl; simpa using this
        have e2 : wr.cell? ⟨b1, o1 + k * 3 + 2, none⟩ = some rs[k].v := by
          rw [hb.cell (p := ⟨b1, _, none⟩) hb1]; have := hcell1 k rs[k] (List.getElem?_eq_getElem hlt) 2 _ rfl; simpa using this
        have hrd := (hsl rs[k] (List.getElem_mem hlt)).keep hb (Nat.le_refl _)
        have hbs := hb.size
        have HSL := hide hsl
        clear hcell1 h1 hsl
        go_wp2_with fail
        refine (szLocking_any _ _ _ _ l _ (hrd.mono hbs) l0 (by omega)).mono ?_; rintro e w2 ⟨r, rfl, hr, hr1, hb2⟩
        have hb3 := bnext hb hb2 (Nat.le_refl _)
        by_cases hr0 : r < 0
        · clear hr
          go_wp2
          go_ret
          exact ⟨-1, rfl, by omega, by omega, hb3⟩
        · have ha := hr (by omega)
          have HA := hide ha
          have hr2 : r ≤ left - rs.length := by omega
          clear hr ha
          go_wp2
          go_roundw
          case rel =>
            refine ⟨k + 1, r, by omega, by go_num, rfl, by omega, by omega, hide ?_, hb3⟩
            rw [lkTotal_succ hlt]
            have := HN.out; have := HA.out
            omega
          case measure => simp [intOf]; omega
      · obtain rfl : k = rs.length := by omega
        go_wp2
        go_ret
        exact ⟨l, rfl, fun _ => ⟨by omega, by omega, by have := HN.out; rw [List.take_of_length_le (Nat.le_refl _)] at this; omega⟩, by omega, hb⟩

def LockR.eqB (x y : LockR) : Bool := decide (x.d = y.d)
theorem LockR.eqB_iff {x y : LockR} : x.eqB y = true ↔ x.start = y.start ∧ x.up = y.up ∧ x.ships = y.ships := by unfold LockR.eqB LockR.d; rw [decide_eq_true_iff, ← LockD.ext_iff']
set_option maxRecDepth 100000 in
set_option maxHeartbeats 2000000 in
theorem eqLocking_any (x y : LockR) (w : World) (h1 : RdI w x.v x.ships) (h2 : RdI w y.v y.ships) :
    Calls Try.prog 77 #[.agg #[.int .i64 x.start, .bool x.up, x.v], .agg #[.int .i64 y.start, .bool y.up, y.v]] w fun e w' => e = .returned (.bool (x.eqB y)) ∧ Below w.heap.size w w' := by
  by_cases e0 : x.start = y.start
  · by_cases e1 : x.up = y.up
    · have HE := hide (show x.eqB y = decide (x.ships = y.ships) by rw [Bool.eq_iff_iff, LockR.eqB_iff]; simp [e0, e1])
      have q0 : (x.start != y.start) = false := by simpa using e0
      have q1 : (x.up != y.up) = false := by simpa using e1
      have q1' : (!(x.up == y.up)) = false := by simpa using e1
      clear e0 e1
      go_enter Try.func77, Try.ntmps77
      go_wp2_with fail
      refine (eqIntS_any _ _ x.ships y.ships _ (RdB.mono (RdB.keep h1 (B' := w.heap.size) (by repeat (first | exact Below.refl _ _ | assumption | refine Below.setCell ?_ (by first | omega | (simp <;> omega)) _ | refine Below.alloc ?_ (by first | omega | (simp <;> omega)) _ | refine below_drewN ?_ _ | refine Below.drew ?_ | refine Below.trans ?_ (Below.mono (by assumption) (by first | omega | (simp <;> omega))))) (Nat.le_refl _)) (by simp <;> omega)) (RdB.mono (RdB.keep h2 (B' := w.heap.size) (by repeat (first | exact Below.refl _ _ | assumption | refine Below.setCell ?_ (by first | omega | (simp <;> omega)) _ | refine Below.alloc ?_ (by first | omega | (simp <;> omega)) _ | refine below_drewN ?_ _ | refine Below.drew ?_ | refine Below.trans ?_ (Below.mono (by assumption) (by first | omega | (simp <;> omega))))) (Nat.le_refl _)) (by simp <;> omega))).mono ?_; rintro e w2 ⟨rfl, hb'⟩
      have hb2 : Below w.heap.size w w2 := Below.trans (by repeat (first | exact Below.refl _ _ | assumption | refine Below.setCell ?_ (by first | omega | (simp <;> omega)) _ | refine Below.alloc ?_ (by first | omega | (simp <;> omega)) _ | refine below_drewN ?_ _ | refine Below.drew ?_ | refine Below.trans ?_ (Below.mono (by assumption) (by first | omega | (simp <;> omega))))) (hb'.mono (by simp <;> omega))
      by_cases hd : x.ships = y.ships
      · have hd' : decide (x.ships = y.ships) = true := by simpa using hd
        have HD := hide hd
        clear hd
        go_wp2
        go_ret
        exact ⟨by rw [HE.out, hd']; rfl, hb2⟩
      · have hd' : decide (x.ships = y.ships) = false := by simpa using hd
        clear hd
        go_wp2
        go_ret
        exact ⟨by rw [HE.out, hd']; rfl, hb2⟩
    · have HE := hide (show x.eqB y = false by rw [← Bool.not_eq_true, LockR.eqB_iff]; simp [e1])
      have q0 : (x.start != y.start) = false := by simpa using e0
      have q1 : (x.up == y.up) = false := by simpa using e1
      have q2 : (x.up != y.up) = true := by simpa using e1
      clear e0 e1
      go_enter Try.func77, Try.ntmps77
      go_wp2_with fail
      go_ret
      exact ⟨by rw [HE.out]; rfl, (by repeat (first | exact Below.refl _ _ | assumption | refine Below.setCell ?_ (by first | omega | (simp <;> omega)) _ | refine Below.alloc ?_ (by first | omega | (simp <;> omega)) _ | refine below_drewN ?_ _ | refine Below.drew ?_ | refine Below.trans ?_ (Below.mono (by assumption) (by first | omega | (simp <;> omega)))))⟩
  · have HE := hide (show x.eqB y = false by rw [← Bool.not_eq_true, LockR.eqB_iff]; simp [e0])
    have q0 : (x.start != y.start) = true := by simpa using e0
    clear e0
    go_enter Try.func77, Try.ntmps77
    go_wp2_with fail
    go_ret
    exact ⟨by rw [HE.out]; rfl, (by repeat (first | exact Below.refl _ _ | assumption | refine Below.setCell ?_ (by first | omega | (simp <;> omega)) _ | refine Below.alloc ?_ (by first | omega | (simp <;> omega)) _ | refine below_drewN ?_ _ | refine Below.drew ?_ | refine Below.trans ?_ (Below.mono (by assumption) (by first | omega | (simp <;> omega)))))⟩
end Go.Proofs.Ytjmffhpfmfmnlaa
