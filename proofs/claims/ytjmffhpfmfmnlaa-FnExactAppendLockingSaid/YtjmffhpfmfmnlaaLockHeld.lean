/- Marks in lockings with what they leave: marked, and asked for. No condition. -/
import Derived.Test.YtjmffhpfmfmnlaaAppendL
namespace Go.Proofs.Ytjmffhpfmfmnlaa
open Go.RowKit
set_option linter.unusedVariables false
def mup (n : Int) : Bool := (n + 1) % 3 == 0
def kAt (k : Int) (ds : List LockR) (j : Nat) : Int := k + 2 * j + lkTotal (ds.take j)
def mrow (k : Int) (ds : List LockR) (j : Nat) : LockR := ⟨kAt k ds j, mup (kAt k ds j), (ds.getD j default).v, marks id 1 (kAt k ds j + 1 + 1) (ds.getD j default).ships.length⟩
def mkTo (k : Int) (ds : List LockR) : Nat → List LockR
  | 0 => ds
  | j + 1 => (mkTo k ds j).set j (mrow k ds j)
theorem mkTo_len (k : Int) (ds : List LockR) : ∀ j, (mkTo k ds j).length = ds.length
  | 0 => rfl
  | j + 1 => by rw [mkTo, List.length_set, mkTo_len k ds j]
theorem mkTo_ge {k : Int} {ds : List LockR} : ∀ {j i : Nat}, j ≤ i → (mkTo k ds j)[i]? = ds[i]?
  | 0, i, _ => rfl
  | j + 1, i, h => by rw [mkTo, List.getElem?_set_ne (by omega), mkTo_ge (by omega)]
theorem mkTo_lt {k : Int} {ds : List LockR} : ∀ {j i : Nat}, i < j → i < ds.length → (mkTo k ds j)[i]? = some (mrow k ds i)
  | 0, i, h, _ => by omega
  | j + 1, i, h, hl => by
    rw [mkTo]
    by_cases e : j = i
    · subst e; rw [List.getElem?_set_self (by rw [mkTo_len]; exact hl)]
    · rw [List.getElem?_set_ne e, mkTo_lt (by omega) hl]
theorem kAt_succ {k : Int} {ds : List LockR} {j : Nat} (h : j < ds.length) : kAt k ds (j + 1) = kAt k ds j + 1 + 1 + ds[j].ships.length := by
  unfold kAt; rw [lkTotal_succ h]; omega
theorem kAt_zero (k : Int) (ds : List LockR) : kAt k ds 0 = k := by unfold kAt; simp [lkTotal]
theorem kAt_range {k : Int} {ds : List LockR} {j : Nat} (hj : j ≤ ds.length) : k ≤ kAt k ds j ∧ kAt k ds j ≤ k + 2 * ds.length + lkTotal ds := by
  unfold kAt; have := lkTotal_le (rs := ds) (k := j); omega
theorem set_sameL {α : Type} (cs : List α) (i : Nat) (a : α) (h : cs[i]? = some a) : cs.set i a = cs := by
  apply List.ext_getElem?
  intro j
  by_cases e : i = j
  · subst e
    have hlt := (List.getElem?_eq_some_iff.1 h).1
    rw [List.getElem?_set_self hlt, h]
  · rw [List.getElem?_set_ne e]
theorem sep_map {es fs : List LockR} (h : es.map LockR.v = fs.map LockR.v) (hs : SepLk es) : SepLk fs := by
  unfold SepLk at *
  have h1 : (es.map LockR.v).Pairwise fun a b => ∀ g, a.ownBlock = some g → b.ownBlock ≠ some g := by rw [List.pairwise_map]; exact hs
  rw [h, List.pairwise_map] at h1
  exact h1
/-- one row marked: two cells stored, then the ships' own row written -/
theorem LkOut.marked {w w3 : World} {lo g cap : Nat} {es : List LockR} {j : Nat} {n : Int} {b : Bool} {N : Nat} (hN : es.length = N) (h : LkOut w lo (.slice (some ⟨g, 0, none⟩) N cap) es) (hj : j < es.length)
    {ys : List Int} (hg3 : (storeRow w g (j * 3) [.int .i64 n, .bool b]).grownBy w3 es[j].v.ownBlock) (ho3 : Own w3 lo 3 1 encI es[j].v ys) :
    LkOut w3 lo (.slice (some ⟨g, 0, none⟩) N cap) (es.set j ⟨n, b, es[j].v, ys⟩) := by
  subst hN
  obtain ⟨h1, h2, h3⟩ := h
  have hne := types_ne h1 (h2 es[j] (List.getElem_mem hj)) (by decide)
  have r2 := ownsRow_storeRow [.int .i64 n, .bool b] w (j * 3) _ h1
  have e : setRow (es.flatMap LockR.enc) (j * 3) [.int .i64 n, .bool b] = (es.set j ⟨n, b, es[j].v, ys⟩).flatMap LockR.enc := by
    rw [← setRow_flatMap LockR.enc_len ⟨n, b, es[j].v, ys⟩ es j hj]
    have hf := flatMap_at LockR.enc_len es j 2 es[j] es[j].v (List.getElem?_eq_getElem hj) rfl
    show Go.Proofs.Ytjmffhpfmfmnlaa.setRow _ _ _ = Go.Proofs.Ytjmffhpfmfmnlaa.setRow _ _ [.int .i64 n, .bool b, es[j].v]
    simp only [Go.Proofs.Ytjmffhpfmfmnlaa.setRow]
    rw [set_sameL (((es.flatMap LockR.enc).set (j * 3) (.int .i64 n)).set (j * 3 + 1) (.bool b)) (j * 3 + 1 + 1) es[j].v]
    rw [List.getElem?_set_ne (by omega), List.getElem?_set_ne (by omega)]
    exact hf
  rw [e] at r2
  refine ⟨?_, fun r hr => ?_, ?_⟩
  · unfold Own
    rw [List.length_set]
    exact rowKeep r2 hg3 (fun k hk e => hne k hk e)
  · obtain ⟨i, hi, rfl⟩ := List.getElem_of_mem hr
    rw [List.length_set] at hi
    by_cases e : i = j
    · subst e; simpa using ho3
    · rw [List.getElem_set_ne (fun h => e h.symm)]
      have ou := h2 es[i] (List.getElem_mem hi)
      refine rowKeep (r := es[j].v.ownBlock) (w := storeRow w g (j * 3) [.int .i64 n, .bool b]) ?_ hg3 (fun k hk => ?_)
      · exact rowKeep (r := some g) ou (grownBy_storeRow _ _ _ (World.grownBy.refl _ _)) (fun k hk e => by
          have := Option.some.inj e; subst this
          exact types_ne h1 ou (by decide) g rfl hk)
      · exact pairAt h3 (List.getElem?_eq_getElem hi) (List.getElem?_eq_getElem hj) e hk
  · refine sep_map ?_ h3
    apply List.ext_getElem
    · simp
    · intro i h1 h2
      simp only [List.getElem_map, List.getElem_set]
      split
      · rename_i e; subst e; rfl
      · rfl
theorem OwnLk.out {w : World} {lo hi : Nat} {v : Value} {ds : List LockR} (h : OwnLk w lo hi v ds) : LkOut w lo v ds := ⟨h.1.1, fun r hr => (h.2.1 r hr).1, h.2.2⟩
theorem OwnLk.tou {lo hi lo' hi' : Nat} {w w' : World} {v : Value} {ds : List LockR} (h : OwnLk w lo hi v ds) (ht : Tou lo' hi' w w') (hd : hi ≤ lo' ∨ hi' ≤ lo) : OwnLk w' lo hi v ds :=
  ⟨h.1.tou ht hd, fun r hr => (h.2.1 r hr).tou ht hd, h.2.2⟩
theorem mkTo_v {k : Int} {ds : List LockR} : ∀ {j : Nat}, j ≤ ds.length → (mkTo k ds j).map LockR.v = ds.map LockR.v
  | 0, _ => rfl
  | j + 1, h => by
    rw [mkTo, ← mkTo_v (k := k) (ds := ds) (j := j) (by omega)]
    apply List.ext_getElem
    · simp
    · intro i h1 h2
      simp only [List.getElem_map, List.getElem_set]
      split
      · rename_i e; subst e
        have hj : j < ds.length := by omega
        have e1 := mkTo_ge (k := k) (ds := ds) (Nat.le_refl j)
        rw [List.getElem?_eq_getElem (by rw [mkTo_len]; exact hj), List.getElem?_eq_getElem hj] at e1
        rw [Option.some.inj e1]
        show (ds.getD j default).v = _
        simp [List.getD, hj]
      · rfl
set_option maxRecDepth 100000 in
set_option maxHeartbeats 4000000 in
theorem markLk_any (v : Value) (ds : List LockR) (k : Int) (lo hi : Nat) (w : World) (h1 : OwnLk w lo hi v ds) (hk0 : 0 ≤ k) (hk1 : k ≤ 1073741824) (hn : ds.length ≤ 1048578) (ht : lkTotal ds ≤ 2097152) :
    Calls Try.prog 42 #[v, .int .i64 k] w fun e w' => e = .returned (.int .i64 (kAt k ds ds.length)) ∧ OwnLk w' lo hi v (mkTo k ds ds.length) ∧ Tou lo hi w w' := by
  have HL := h1.out
  have hhi := h1.1.2
  have HSH := hide (fun r hr => (h1.2.1 r hr).2)
  have hall : ∀ w', LkOut w' lo v (mkTo k ds ds.length) → OwnLk w' lo hi v (mkTo k ds ds.length) := fun w' h => by
    refine ⟨⟨h.1, h1.1.2⟩, fun r hr => ⟨h.2.1 r hr, ?_⟩, h.2.2⟩
    have hm := List.mem_map_of_mem (f := LockR.v) hr
    rw [mkTo_v (Nat.le_refl _)] at hm
    obtain ⟨q, hq, e⟩ := List.mem_map.1 hm
    intro g hg
    rw [← e] at hg
    exact (h1.2.1 q hq).2 g hg
  have HALL := hide hall; clear hall
  rcases h1.1.1.cases with ⟨rfl, rfl⟩ | ⟨g, cap, rfl, hg, hgs, hnc, hm⟩
  · have HK := hide (kAt_zero k [])
    clear HL hhi HSH
    go_enter Try.func42, Try.ntmps42
    go_wp2
    go_loop [1, 5] (fun kv i => kv = .int .i64 k ∧ i = .int .i64 0) (fun _ _ => 0)
    case atStart => exact ⟨rfl, rfl⟩
    case round =>
      obtain ⟨rfl, rfl⟩ := hrel
      go_wp2
      go_ret
      exact ⟨by rw [show kAt k [] 0 = k from HK.out]; first | done | rfl, HALL.out _ LkOut.nil_, Tou.refl _ _ _⟩
  · unfold maxLen at hm
    have hgh := hhi g rfl
    clear h1 hhi
    obtain ⟨N, hN⟩ : ∃ N, ds.length = N := ⟨_, rfl⟩
    have HN0 := hide hN
    simp only [hN] at HL HALL hn hnc ⊢
    clear hN
    go_enter Try.func42, Try.ntmps42
    go_wp2
    go_loopw [1, 5] (fun kv i wr => ∃ j : Nat, j ≤ N ∧ i = .int .i64 j ∧ kv = .int .i64 (kAt k ds j) ∧ Hid (LkOut wr lo (.slice (some ⟨g, 0, none⟩) N cap) (mkTo k ds j)) ∧ Tou lo hi w wr) (fun _ i _ => N - (intOf i).toNat)
    case atStart => exact ⟨0, Nat.zero_le _, rfl, by rw [kAt_zero], hide HL, Tou.refl _ _ _⟩
    case round =>
      clear HL
      obtain ⟨j, hj, rfl, rfl, HM, HT⟩ := hrel
      obtain ⟨wo, rfl⟩ : ∃ wo : World, wo = wr := ⟨_, rfl⟩
      have hkr := kAt_range (k := k) (ds := ds) (j := j) (by rw [HN0.out]; exact hj)
      rw [HN0.out] at hkr
      obtain ⟨hkr0, hkr1⟩ := hkr
      by_cases hlt : j < N
      · have hlt' : (j : Int) < N := by omega
        have hjd : j < ds.length := by rw [HN0.out]; exact hlt
        have HKS := hide (kAt_succ (k := k) hjd)
        have hge := mkTo_ge (k := k) (ds := ds) (Nat.le_refl j)
        have HLN := hide (show (mkTo k ds j).length = N by rw [mkTo_len, HN0.out])
        have HST := hide (show mkTo k ds (j + 1) = (mkTo k ds j).set j (mrow k ds j) from rfl)
        have HMR := hide (show mrow k ds j = ⟨kAt k ds j, mup (kAt k ds j), ds[j].v, marks id 1 (kAt k ds j + 1 + 1) ds[j].ships.length⟩ by unfold mrow; rw [getD_at hjd])
        have hls : ds[j].ships.length ≤ 2097152 := Nat.le_trans (lkTotal_mem (List.getElem_mem hjd)) ht
        have HSJ := hide (HSH.out ds[j] (List.getElem_mem hjd))
        rw [List.getElem?_eq_getElem hjd] at hge
        obtain ⟨es, hes⟩ : ∃ es, mkTo k ds j = es := ⟨_, rfl⟩
        obtain ⟨r, hr⟩ : ∃ r, ds[j] = r := ⟨_, rfl⟩
        obtain ⟨n, hnn⟩ : ∃ n, kAt k ds j = n := ⟨_, rfl⟩
        simp only [hes, hr] at hge
        simp only [hes] at HM HST HLN
        simp only [hr, hnn] at HKS HMR
        simp only [hr] at HSJ hls
        simp only [hnn] at hkr0 hkr1 ⊢
        clear hes hr hnn
        have hje : j < es.length := by rw [HLN.out]; exact hlt
        have HGE := hide (show es[j] = r by rw [List.getElem?_eq_getElem hje] at hge; exact Option.some.inj hge)
        clear hge
        have hLK := HM.out
        obtain ⟨p1, p2, p3⟩ := hLK
        have oz := p2 es[j] (List.getElem_mem hje)
        rw [HGE.out] at oz
        have HO := hide oz
        have c0 := Own.cells (i := j) (j := 0) (u := .int .i64 es[j].start) LockR.enc_len (by have := p1; rw [← HLN.out] at this; exact this) hje rfl
        have c1 := Own.cells (i := j) (j := 1) (u := .bool es[j].up) LockR.enc_len (by have := p1; rw [← HLN.out] at this; exact this) hje rfl
        have c2 := Own.cells (i := j) (j := 2) (u := es[j].v) LockR.enc_len (by have := p1; rw [← HLN.out] at this; exact this) hje rfl
        obtain ⟨e0, q0⟩ := c0
        obtain ⟨e1, q1⟩ := c1
        obtain ⟨e2, -⟩ := c2
        rw [HGE.out] at e0 e1 e2
        simp only [Nat.add_zero] at e0 q0
        have HNE := hide (types_ne p1 oz (by decide) g rfl)
        obtain ⟨rs, ru, rv, rx⟩ := r
        simp only at e0 e1 e2 hls
        obtain ⟨A2, cc2, hyv, hc2', hm2', -⟩ := Own.rd encI_len oz
        simp only at hyv
        subst hyv
        obtain ⟨b, hb⟩ : ∃ b, mup n = b := ⟨_, rfl⟩
        have hb1 : ((n + 1) % 3 == 0) = b := hb
        have hb2 : decide ((n + 1) % 3 = 0) = b := by rw [← hb]; unfold mup; rw [Bool.eq_iff_iff]; simp
        have HB := hide hb
        clear hb p1 p2 p3 oz
        go_wp2_with (go_at_call 19; refine (markIntS_any _ rx _ lo _ ((HO.out.setFar HNE.out _).setFar HNE.out _) (by omega) (by omega) (by omega)).mono ?_; rintro e w3 ⟨rfl, ho3, hg3⟩)
        go_roundw
        case rel =>
          refine ⟨j + 1, by omega, by go_num, by rw [HKS.out], hide ?_, HT.trans ((Tou.grown (grownBy_storeRow [_, _] _ (j * 3) (World.grownBy.refl _ _)) (fun k hk => ?_)).trans (Tou.grown hg3 (fun k hk => ?_)))⟩
          · have := LkOut.marked (n := n) (b := b) (ys := marks id 1 (n + 1 + 1) rx.length) HLN.out HM.out hje (by rw [HGE.out]; exact hg3) (by rw [HGE.out]; exact ho3)
            rw [HST.out, HMR.out, HB.out]
            rw [HGE.out] at this
            exact this
          · have := Option.some.inj hk; omega
          · exact ⟨(World.ownsRow.lt HO.out k hk).1, HSJ.out k hk⟩
        case measure => simp [intOf]; omega
      · obtain rfl : j = N := by omega
        go_wp2
        go_ret
        exact ⟨rfl, HALL.out _ HM.out, HT⟩
set_option maxRecDepth 100000 in
set_option maxHeartbeats 4000000 in
theorem heldLk_any (v : Value) (ds : List LockR) (k : Int) (w : World) (h1 : RdLk w w.heap.size v (mkTo k ds ds.length)) (hk0 : 0 ≤ k) (hk1 : k ≤ 1073741824) (hn : ds.length ≤ 1048578) (ht : lkTotal ds ≤ 2097152) :
    Calls Try.prog 43 #[v, .int .i64 k] w fun e w' => e = .returned (.int .i64 (kAt k ds ds.length)) ∧ Below w.heap.size w w' := by
  obtain ⟨h1, hsl⟩ := h1
  obtain ⟨N, hN⟩ : ∃ N, ds.length = N := ⟨_, rfl⟩
  have HN0 := hide hN
  rw [hN] at h1 hsl hn ⊢
  have hml : (mkTo k ds N).length = N := by rw [mkTo_len, hN]
  clear hN
  have HROW := hide (fun j (hj : j < N) => mkTo_lt (k := k) (ds := ds) hj (by rw [HN0.out]; exact hj))
  obtain ⟨es, hes⟩ : ∃ es, mkTo k ds N = es := ⟨_, rfl⟩
  rw [hes] at h1 hsl hml HROW
  clear hes
  obtain ⟨A1, c1, rfl, hc1, hm1, h1⟩ := h1
  unfold maxLen at hm1
  rw [hml] at hc1
  simp only [hml] at h1 ⊢
  have H1 := hide h1; have HSL := hide hsl; clear h1 hsl hml
  go_enter Try.func43, Try.ntmps43
  go_wp2
  go_loopw [1, 5] (fun kv i wr => ∃ j : Nat, j ≤ N ∧ i = .int .i64 j ∧ kv = .int .i64 (kAt k ds j) ∧ Below w.heap.size w wr) (fun _ i _ => N - (intOf i).toNat)
  case atStart => exact ⟨0, Nat.zero_le _, rfl, by rw [kAt_zero], Below.refl _ _⟩
  case round =>
    obtain ⟨j, hj, rfl, rfl, hbk⟩ := hrel
    obtain ⟨wo, rfl⟩ : ∃ wo : World, wo = wr := ⟨_, rfl⟩
    have hbs := hbk.size
    have hkr := kAt_range (k := k) (ds := ds) (j := j) (by rw [HN0.out]; exact hj)
    rw [HN0.out] at hkr
    obtain ⟨hkr0, hkr1⟩ := hkr
    by_cases hlt : j < N
    · have hlt' : (j : Int) < N := by omega
      have hjd : j < ds.length := by rw [HN0.out]; exact hlt
      have HKS := hide (kAt_succ (k := k) hjd)
      have hrw := HROW.out j hlt
      have hmr : mrow k ds j = ⟨kAt k ds j, mup (kAt k ds j), ds[j].v, marks id 1 (kAt k ds j + 1 + 1) ds[j].ships.length⟩ := by unfold mrow; rw [getD_at hjd]
      have hls : ds[j].ships.length ≤ 2097152 := Nat.le_trans (lkTotal_mem (List.getElem_mem hjd)) ht
      rw [hmr] at hrw
      clear hmr
      obtain ⟨b1, o1, rfl, hb1, hcell1⟩ := H1.out (by omega)
      have e0 : wo.cell? ⟨b1, o1 + j * 3, none⟩ = some (.int .i64 (kAt k ds j)) := by rw [hbk.cell (p := ⟨b1, _, none⟩) hb1]; have := hcell1 j _ hrw 0 _ rfl; simpa using this
      have e1 : wo.cell? ⟨b1, o1 + j * 3 + 1, none⟩ = some (.bool (mup (kAt k ds j))) := by rw [hbk.cell (p := ⟨b1, _, none⟩) hb1]; exact hcell1 j _ hrw 1 _ rfl
      have e2 : wo.cell? ⟨b1, o1 + j * 3 + 2, none⟩ = some ds[j].v := by rw [hbk.cell (p := ⟨b1, _, none⟩) hb1]; exact hcell1 j _ hrw 2 _ rfl
      have hrd := HSL.out _ (List.mem_of_getElem? hrw)
      obtain ⟨n, hnn⟩ : ∃ n, kAt k ds j = n := ⟨_, rfl⟩
      obtain ⟨r, hr⟩ : ∃ r, ds[j] = r := ⟨_, rfl⟩
      simp only [hnn, hr] at e0 e1 e2 hrd HKS hls hkr0 hkr1 ⊢
      clear hcell1 hrw hnn hr
      obtain ⟨rs, ru, rv, rx⟩ := r
      simp only at e2 hls hrd
      obtain ⟨A2, cc2, hyv, hc2', hm2', -⟩ := id hrd
      rw [marks_length] at hyv hc2'
      subst hyv
      have HRD := hide hrd; clear hrd
      obtain ⟨b, hb⟩ : ∃ b, mup n = b := ⟨_, rfl⟩
      have hbx : ((n + 1) % 3 == 0) = b := hb
      have hby : decide ((n + 1) % 3 = 0) = b := by rw [← hb]; unfold mup; rw [Bool.eq_iff_iff]; simp
      rw [hb] at e1
      have hbb : (b != b) = false := by cases b <;> rfl
      have hnneg : ¬ (n + 1 + 1 + (rx.length : Int) < 0) := by omega
      clear hb
      go_wp2_with (go_at_call 20; refine (heldIntS_any _ _ rx.length _ ((RdB.keep HRD.out hbk (Nat.le_refl _)).mono hbs) (by omega) (by omega) (by omega)).mono ?_; rintro e w3 ⟨rfl, hb3⟩)
      go_roundw
      case rel => exact ⟨j + 1, by omega, by go_num, by rw [HKS.out], bnext hbk hb3 (Nat.le_refl _)⟩
      case measure => simp [intOf]; omega
    · obtain rfl : j = N := by omega
      go_wp2
      go_ret
      exact ⟨rfl, hbk⟩
def dTotal (ds : List LockD) : Nat := (ds.map fun d => d.ships.length).sum
theorem lkTotal_dT (rs : List LockR) : lkTotal rs = dTotal (rs.map LockR.d) := by unfold lkTotal dTotal; rw [List.map_map]; rfl
theorem dTotal_app (a b : List LockD) : dTotal (a ++ b) = dTotal a + dTotal b := by unfold dTotal; rw [List.map_append, List.sum_append]
theorem app_size {x0 x1 x2 : Int} {fl : List ShipD} {rs : List LockR} {up : Bool} {ready : Int} {ships : List Int} {es : List LockR} (h : es.map LockR.d = (appendLocking x0 x1 x2 fl (rs.map LockR.d) up ready ships).getD []) :
    es.length ≤ rs.length + 2 ∧ lkTotal es ≤ lkTotal rs + ships.length := by
  rw [lkTotal_dT, lkTotal_dT, h]
  have hl := congrArg List.length h
  rw [List.length_map] at hl
  rw [hl]
  unfold appendLocking
  split
  · simp only [Option.getD_some]
    unfold appMid
    split
    · simp [dTotal_app, dTotal]
    · simp [dTotal_app, dTotal]
  · simp [dTotal]
end Go.Proofs.Ytjmffhpfmfmnlaa
