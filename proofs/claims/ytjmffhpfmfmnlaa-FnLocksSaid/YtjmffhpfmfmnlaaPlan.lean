/- The ships of a locking: their lengths, and whether they fit. No condition. -/
import Derived.Test.YtjmffhpfmfmnlaaLockFn
import Derived.Test.YtjmffhpfmfmnlaaPrefix
import Derived.Test.YtjmffhpfmfmnlaaIsPack
import Derived.Test.YtjmffhpfmfmnlaaSShip
import Derived.Test.YtjmffhpfmfmnlaaShip
namespace Go.Proofs.Ytjmffhpfmfmnlaa
open Go.RowKit
set_option linter.unusedVariables false
def notBefore (xs : List Int) (x : Int) (k : Nat) : Bool := allUpTo (fun j => !hasAt xs x j) k
def shipIx (n : Int) (xs : List Int) (i : Nat) : Bool := inB (xs.getD i default) 0 (n - 1) && notBefore xs (xs.getD i default) i
def shipsOkB (n : Int) (xs : List Int) : Bool := allUpTo (shipIx n xs) xs.length
def lensOkB (n : Int) (xs : List Int) : Bool := shipsOkB n xs && decide ((xs.length : Int) ≤ 8)
def lensOf (fl : List ShipD) (xs : List Int) : List Int := xs.map fun n => (fl.getD n.toNat default).length
def shipsFitB (x0 : Int) (m : Nat) (fl : List ShipD) (xs : List Int) : Bool := decide ((xs.length : Int) ≤ 8) && shipsOkB fl.length xs && canPack x0 m (lensOf fl xs)
theorem lensOf_len (fl : List ShipD) (xs : List Int) : (lensOf fl xs).length = xs.length := by simp [lensOf]
theorem lensOf_take {fl : List ShipD} {xs : List Int} {k : Nat} (h : k < xs.length) : lensOf fl (xs.take (k + 1)) = lensOf fl (xs.take k) ++ [(fl.getD xs[k].toNat default).length] := by
  unfold lensOf; rw [List.take_succ_eq_append_getElem h, List.map_append]; rfl
theorem idxN {n : Int} {m : Nat} (h : inB n 0 ((m : Int) - 1) = true) : ∃ a : Nat, n = a ∧ a < m := by simp [inB] at h; exact ⟨n.toNat, by omega, by omega⟩
theorem lensOf_ok {fl : List ShipD} {xs : List Int} (hfl : ∀ x ∈ fl, 1 ≤ x.length ∧ x.length ≤ 400) (h : shipsOkB fl.length xs = true) : ∀ y ∈ lensOf fl xs, 1 ≤ y ∧ y ≤ 400 := by
  intro y hy
  unfold lensOf at hy
  obtain ⟨n, hn, rfl⟩ := List.mem_map.1 hy
  obtain ⟨i, hi, rfl⟩ := List.getElem_of_mem hn
  have := allUpTo_iff.1 h i hi
  unfold shipIx at this
  rw [getD_at hi] at this
  simp only [Bool.and_eq_true] at this
  obtain ⟨a, ha, ha2⟩ := idxN this.1
  rw [ha, Int.toNat_natCast, getD_at ha2]
  exact hfl _ (List.getElem_mem ha2)
theorem hasI_take {xs : List Int} {x : Int} {k : Nat} (h : k ≤ xs.length) : hasI (xs.take k) x = !notBefore xs x k := by
  unfold hasI notBefore
  rw [List.length_take, Nat.min_eq_left h]
  congr 1
  refine allUpTo_congr fun i hi => ?_
  have e : (xs.take k).getD i default = xs.getD i default := by simp [List.getD, List.getElem?_take, hi]
  unfold hasAt
  rw [e]
theorem fleet_len {fl : List ShipD} (h : fleetOk fl = true) : fl.length ≤ 6 ∧ ∀ x ∈ fl, 1 ≤ x.length ∧ x.length ≤ 400 := by
  unfold fleetOk at h
  simp only [Bool.and_eq_true] at h
  refine ⟨by simpa using h.1, fun x hx => ?_⟩
  obtain ⟨i, hi, rfl⟩ := List.getElem_of_mem hx
  have := allUpTo_iff.1 h.2 i hi
  unfold fleetRow at this
  rw [getD_at hi] at this
  simp only [Bool.and_eq_true] at this
  have := this.1
  unfold shipOk at this
  simp only [Bool.and_eq_true, inB, decide_eq_true_eq] at this
  omega
def LensRes (lo : Nat) (v : Value) (fl : List ShipD) (xs : List Int) (w' : World) : Prop := shipsOkB fl.length xs = true → Own w' lo 3 1 encI v (lensOf fl xs)
def BoxK (w : World) (g : Nat) (x0 x1 x2 : Int) : Prop := w.cell? ⟨g, 0, none⟩ = some (.int .i64 x0) ∧ w.cell? ⟨g, 1, none⟩ = some (.int .i64 x1) ∧ w.cell? ⟨g, 2, none⟩ = some (.int .i64 x2)
theorem BoxK.keep {B g : Nat} {w w' : World} {x0 x1 x2 : Int} (h : BoxK w g x0 x1 x2) (hb : Below B w w') (hg : g < B) : BoxK w' g x0 x1 x2 := ⟨cellKeep hb h.1 hg, cellKeep hb h.2.1 hg, cellKeep hb h.2.2 hg⟩
set_option maxRecDepth 100000 in
set_option maxHeartbeats 8000000 in
theorem l11Lengths_any (v1 v2 : Value) (fl : List ShipD) (xs : List Int) (w : World) (h1 : RdShip w v1 fl) (h2 : RdI w v2 xs) (hn : xs.length ≤ 1048576) :
    Calls Try.prog 70 #[v1, v2] w fun e w' => ∃ v, e = .returned (.tuple #[v, .bool (lensOkB fl.length xs)]) ∧ LensRes w.heap.size v fl xs w' ∧ Below w.heap.size w w' := by
  have HR1 := hide h1; have HR2 := hide h2
  obtain ⟨A1, c1, rfl, hc1, hm1, h1⟩ := h1
  obtain ⟨A2, c2, rfl, hc2, hm2, h2⟩ := h2
  unfold maxLen at hm1 hm2
  have hl1 : (fl.length : Int) ≤ 9223372036854775807 := by omega
  have H1 := hide h1; clear h1
  have H2 := hide h2; clear h2
  have HXN := hide hn; clear hn
  obtain ⟨i0, hi, hz0, hz1, hz2⟩ := info_parts int_info
  go_enter Try.func70, Try.ntmps70
  go_wp2
  have hou0 := own_built0 (enc := encI) w 3 1
  have hb0 : Below w.heap.size w (w.alloc (.cells #[] 3)) := (Below.refl _ _).alloc (Nat.le_refl _) _
  go_loopw [6, 12] (fun o s wr => ∃ k : Nat, k ≤ xs.length ∧ s = .int .i64 k ∧ Hid (allUpTo (shipIx fl.length xs) k = true) ∧ Hid (Own wr w.heap.size 3 1 encI o (lensOf fl (xs.take k))) ∧ Below w.heap.size w wr) (fun _ s _ => xs.length - (intOf s).toNat)
  case atStart => exact ⟨0, Nat.zero_le _, rfl, hide rfl, hide (by simpa [lensOf] using hou0), hb0⟩
  case round =>
    clear hou0 hb0
    obtain ⟨k, hk, rfl, HN, HO, hbk⟩ := hrel
    obtain ⟨wo, rfl⟩ : ∃ wo : World, wo = wr := ⟨_, rfl⟩
    have hbs := hbk.size
    by_cases hlt : k < xs.length
    · obtain ⟨b2, o2, rfl, hb2, hcell2⟩ := H2.out (by omega)
      have e0 : wo.cell? ⟨b2, o2 + k, none⟩ = some (.int .i64 xs[k]) := by rw [hbk.cell (p := ⟨b2, _, none⟩) hb2]; have := hcell2 k xs[k] (List.getElem?_eq_getElem hlt) 0 _ rfl; simpa using this
      clear hcell2
      have hlt' : (k : Int) < xs.length := by omega
      have HRW := hide (show shipIx fl.length xs k = (inB xs[k] 0 ((fl.length : Int) - 1) && notBefore xs xs[k] k) by unfold shipIx; rw [getD_at hlt])
      have HT := hide (lensOf_take (fl := fl) hlt)
      have HHI := hide (hasI_take (x := xs[k]) (Nat.le_of_lt hlt))
      have HTK := hide (RdB.take_ HR2.out k (Nat.le_of_lt hlt) hc2)
      obtain ⟨x, hx⟩ : ∃ x, xs[k] = x := ⟨_, rfl⟩
      rw [hx] at e0 HT HRW HHI
      clear hx
      have hbad : shipIx fl.length xs k = false → shipsOkB fl.length xs = false := fun h => allUpTo_bad hlt h
      have HBAD := hide hbad; clear hbad
      rcases ch2 (inB x 0 ((fl.length : Int) - 1)) (notBefore xs x k) with ⟨g1, g2⟩ | g1 | ⟨g1, g2⟩
      · obtain ⟨a, rfl, ha⟩ := idxN g1
        have HG := hide (show shipIx fl.length xs k = true by rw [HRW.out, g1, g2]; rfl)
        have HH := hide (show hasI (xs.take k) a = false by rw [HHI.out, g2]; rfl)
        obtain ⟨b1, o1, rfl, hb1, hcell1⟩ := H1.out (by omega)
        have f0 : wo.cell? ⟨b1, o1 + a * 6, none⟩ = some (.string fl[a].name) := by
          rw [hbk.cell (p := ⟨b1, _, none⟩) hb1]; have := hcell1 a fl[a] (List.getElem?_eq_getElem ha) 0 _ rfl; simpa using this
        have f1 : wo.cell? ⟨b1, o1 + a * 6 + 1, none⟩ = some (.int .i64 fl[a].length) := by
          rw [hbk.cell (p := ⟨b1, _, none⟩) hb1]; have := hcell1 a fl[a] (List.getElem?_eq_getElem ha) 1 _ rfl; simpa using this
        have f2 : wo.cell? ⟨b1, o1 + a * 6 + 2, none⟩ = some (.int .i64 fl[a].draught) := by
          rw [hbk.cell (p := ⟨b1, _, none⟩) hb1]; have := hcell1 a fl[a] (List.getElem?_eq_getElem ha) 2 _ rfl; simpa using this
        have f3 : wo.cell? ⟨b1, o1 + a * 6 + 3, none⟩ = some (.int .i64 fl[a].line) := by
          rw [hbk.cell (p := ⟨b1, _, none⟩) hb1]; have := hcell1 a fl[a] (List.getElem?_eq_getElem ha) 3 _ rfl; simpa using this
        have f4 : wo.cell? ⟨b1, o1 + a * 6 + 4, none⟩ = some (.int .i64 fl[a].tugs) := by
          rw [hbk.cell (p := ⟨b1, _, none⟩) hb1]; have := hcell1 a fl[a] (List.getElem?_eq_getElem ha) 4 _ rfl; simpa using this
        have f5 : wo.cell? ⟨b1, o1 + a * 6 + 5, none⟩ = some (.bool fl[a].slow) := by
          rw [hbk.cell (p := ⟨b1, _, none⟩) hb1]; have := hcell1 a fl[a] (List.getElem?_eq_getElem ha) 5 _ rfl; simpa using this
        clear hcell1 f0 f2 f3 f4 f5 g2
        have ha' : (a : Int) < fl.length := by omega
        have hzb : b1 < wo.heap.size := by omega
        have HLX := hide (show lensOf fl (xs.take (k + 1)) = lensOf fl (xs.take k) ++ [fl[a].length] by rw [HT.out, Int.toNat_natCast, getD_at ha])
        obtain ⟨y, hy⟩ : ∃ y, fl[a].length = y := ⟨_, rfl⟩
        rw [hy] at f1 HLX
        clear hy
        have HLN := hide (show (lensOf fl (xs.take k)).length ≤ xs.length by rw [lensOf_len, List.length_take]; omega)
        obtain ⟨ys, hys⟩ : ∃ ys, lensOf fl (xs.take k) = ys := ⟨_, rfl⟩
        rw [hys] at HO HLX HLN
        clear hys
        obtain ⟨A3, c3, rfl, hc3, hm3, -⟩ := Own.rd encI_len HO.out
        unfold maxLen at hm3
        go_wp2_with (first
          | (go_at_call 52; with_reducible refine (l01In_any _ _ _ _).mono ?_; rintro e w1 ⟨rfl, hw⟩; obtain rfl := hw.symm)
          | (go_at_call 91; with_reducible refine (calls_bool (spec_l05Has_any _ (xs.take k) _ _ ((RdB.keep HTK.out hbk (Nat.le_refl _)).mono hbs)) HH.out).mono ?_; rintro e w1 ⟨rfl, hb'⟩; have hs1 := hb'.size; have f1' := cellKeep hb' f1 hzb; have hzb1 : b1 < w1.heap.size := Nat.lt_of_lt_of_le hzb hs1; have HO5 := hide (HO.out.below hb'))
          | (at_builtin; refine wpList_append_rd _ encI_len encI_one (by rfl) _ _ 24 (by rfl) w.heap.size 3 i0 (.int .i64 0) 8 Try.underlying24 hi hz0 hz1 hz2 rfl (by decide) _ _ (by rfl) (HO5.out.below ((Below.refl _ _).alloc (Nat.le_refl _) _)) _ _ [y] (by rfl) (rd_new (enc := encI) _ y _) (by have := HLN.out; have := HXN.out; unfold maxLen; simp <;> omega) (by have := HLN.out; have := HXN.out; simp <;> omega) (by simp <;> omega) ?_; intro r9 w9 hown9 hgrow9 hblk9))
        have hb9 := (hbk.trans ((hb'.mono hbs).alloc (by omega) _)).trans (Own.belowGrown (B := w.heap.size) (HO5.out.below ((Below.refl _ _).alloc (Nat.le_refl _) _)) hgrow9 (Nat.le_refl _) (by simp <;> omega))
        go_roundw
        case rel => exact ⟨k + 1, by omega, by go_num, hide (allUpTo_succ HN.out HG.out), hide (by rw [HLX.out]; exact hown9), hb9⟩
        case measure => simp [intOf]; omega
      · have HF := hide (HBAD.out (by rw [HRW.out, g1]; rfl))
        go_wp2_with (go_at_call 52; with_reducible refine (l01In_any _ _ _ _).mono ?_; rintro e w1 ⟨rfl, hw⟩; obtain rfl := hw.symm)
        go_ret2
        exact ⟨_, by unfold lensOkB; rw [HF.out]; rfl, fun h => (by rw [HF.out] at h; cases h), hbk⟩
      · have HF := hide (HBAD.out (by rw [HRW.out, g1, g2]; rfl))
        have HH := hide (show hasI (xs.take k) x = true by rw [HHI.out, g2]; rfl)
        clear g2
        go_wp2_with (first
          | (go_at_call 52; with_reducible refine (l01In_any _ _ _ _).mono ?_; rintro e w1 ⟨rfl, hw⟩; obtain rfl := hw.symm)
          | (go_at_call 91; with_reducible refine (calls_bool (spec_l05Has_any _ (xs.take k) _ _ ((RdB.keep HTK.out hbk (Nat.le_refl _)).mono hbs)) HH.out).mono ?_; rintro e w1 ⟨rfl, hb'⟩))
        go_ret2
        exact ⟨_, by unfold lensOkB; rw [HF.out]; rfl, fun h => (by rw [HF.out] at h; cases h), bnext hbk hb' (Nat.le_refl _)⟩
    · obtain rfl : k = xs.length := by omega
      have HT := hide (List.take_length (l := xs))
      have HO2 := hide (show Own wo w.heap.size 3 1 encI _ (lensOf fl xs) by have := HO.out; rwa [HT.out] at this)
      obtain ⟨A3, c3, rfl, hc3, hm3, -⟩ := Own.rd encI_len HO2.out
      have HL := hide (lensOf_len fl xs)
      simp only [lensOf_len] at hc3 HO2 ⊢
      go_wp2
      go_ret2
      exact ⟨_, by unfold lensOkB; rw [show shipsOkB fl.length xs = true from HN.out]; rfl, fun _ => HO2.out, hbk⟩
set_option maxRecDepth 100000 in
set_option maxHeartbeats 8000000 in
theorem shipsFit_any (x0 x2 : Int) (m : Nat) (hL0 : 10 ≤ x0) (hL1 : x0 ≤ 1000) (hm0 : 1 ≤ m) (hm1 : m ≤ 3) (v1 v2 : Value) (fl : List ShipD) (xs : List Int) (w : World) (h1 : RdShip w v1 fl) (h2 : RdI w v2 xs) (hfl : ∀ x ∈ fl, 1 ≤ x.length ∧ x.length ≤ 400) :
    Calls Try.prog 75 #[.agg #[.int .i64 x0, .int .i64 m, .int .i64 x2], v1, v2] w fun e w' => e = .returned (.bool (shipsFitB x0 m fl xs)) ∧ Below w.heap.size w w' := by
  have HR1 := hide h1; have HR2 := hide h2
  obtain ⟨A1, c1, rfl, hc1, hmx1, h1⟩ := h1
  obtain ⟨A2, c2, rfl, hc2, hmx2, h2⟩ := h2
  unfold maxLen at hmx1 hmx2
  have hl1 : (fl.length : Int) ≤ 9223372036854775807 := by omega
  have H1 := hide h1; clear h1
  have H2 := hide h2; clear h2
  have HFL := hide hfl; clear hfl
  obtain ⟨i0, hi, hz0, hz1, hz2⟩ := info_parts int_info
  by_cases h8 : (xs.length : Int) ≤ 8
  · have HV := hide (show shipsFitB x0 m fl xs = (shipsOkB fl.length xs && canPack x0 m (lensOf fl xs)) by unfold shipsFitB; rw [decide_eq_true h8, Bool.true_and])
    have H8 := hide (show xs.length ≤ 8 by omega)
    have hln := lensOf_len fl xs
    have HXN := hide (show xs.length ≤ 8 by omega)
    clear hln
    go_enter Try.func75, Try.ntmps75
    go_wp2
    have hou0 := own_built0 (enc := encI) (w.alloc (.cells #[.int .i64 x0, .int .i64 m, .int .i64 x2] 26)) 3 1
    simp only [World.size_alloc] at hou0
    have hbA : Below w.heap.size w ((w.alloc (.cells #[.int .i64 x0, .int .i64 m, .int .i64 x2] 26)).alloc (.cells #[] 3)) := (by repeat (first | exact Below.refl _ _ | assumption | refine Below.setCell ?_ (by first | omega | (simp <;> omega)) _ | refine Below.alloc ?_ (by first | omega | (simp <;> omega)) _ | refine below_drewN ?_ _ | refine Below.drew ?_ | refine Below.trans ?_ (Below.mono (by assumption) (by first | omega | (simp <;> omega)))))
    have z0 : ((w.alloc (.cells #[.int .i64 x0, .int .i64 m, .int .i64 x2] 26)).alloc (.cells #[] 3)).cell? ⟨w.heap.size, 0, none⟩ = some (.int .i64 x0) := by simp [go_sem]
    have z1 : ((w.alloc (.cells #[.int .i64 x0, .int .i64 m, .int .i64 x2] 26)).alloc (.cells #[] 3)).cell? ⟨w.heap.size, 1, none⟩ = some (.int .i64 m) := by simp [go_sem]
    have z2 : ((w.alloc (.cells #[.int .i64 x0, .int .i64 m, .int .i64 x2] 26)).alloc (.cells #[] 3)).cell? ⟨w.heap.size, 2, none⟩ = some (.int .i64 x2) := by simp [go_sem]
    have hsA : w.heap.size + 1 < ((w.alloc (.cells #[.int .i64 x0, .int .i64 m, .int .i64 x2] 26)).alloc (.cells #[] 3)).heap.size := by simp
    obtain ⟨gB, hgB⟩ : ∃ g, w.heap.size + 1 = g := ⟨_, rfl⟩
    rw [hgB] at hou0 hsA ⊢
    have k1 : w.heap.size < gB := by omega
    generalize ((w.alloc (.cells #[.int .i64 x0, .int .i64 m, .int .i64 x2] 26)).alloc (.cells #[] 3)) = W0 at hou0 hbA z0 z1 z2 hsA ⊢
    have Z := hide (show BoxK W0 w.heap.size x0 m x2 from ⟨z0, z1, z2⟩)
    clear hgB z0 z1 z2
    go_loopw [7, 18] (fun o s wr => ∃ k : Nat, k ≤ xs.length ∧ s = .int .i64 k ∧ Hid (allUpTo (shipIx fl.length xs) k = true) ∧ Hid (Own wr gB 3 1 encI o (lensOf fl (xs.take k))) ∧ Hid (BoxK wr w.heap.size x0 m x2) ∧ gB < wr.heap.size ∧ Below w.heap.size w wr) (fun _ s _ => xs.length - (intOf s).toNat)
    case atStart => exact ⟨0, Nat.zero_le _, rfl, hide rfl, hide (by simpa [lensOf] using hou0), Z, hsA, hbA⟩
    case round =>
      clear hou0 hbA hsA Z
      obtain ⟨k, hk, rfl, HN, HO, HZ, hgl, hbk⟩ := hrel
      obtain ⟨wo, rfl⟩ : ∃ wo : World, wo = wr := ⟨_, rfl⟩
      have hbs := hbk.size
      by_cases hlt : k < xs.length
      · obtain ⟨b2, o2, rfl, hb2, hcell2⟩ := H2.out (by omega)
        have hce : ∀ j (hj : j < xs.length), wo.cell? ⟨b2, o2 + j, none⟩ = some (.int .i64 xs[j]) := fun j hj => by rw [hbk.cell (p := ⟨b2, _, none⟩) hb2]; have := hcell2 j xs[j] (List.getElem?_eq_getElem hj) 0 _ rfl; simpa using this
        have e0 := hce k hlt
        have HCE := hide hce
        clear hcell2 hce
        have hlt' : (k : Int) < xs.length := by omega
        have HRW := hide (show shipIx fl.length xs k = (inB xs[k] 0 ((fl.length : Int) - 1) && notBefore xs xs[k] k) by unfold shipIx; rw [getD_at hlt])
        have HT := hide (lensOf_take (fl := fl) hlt)
        obtain ⟨x, hx⟩ : ∃ x, xs[k] = x := ⟨_, rfl⟩
        rw [hx] at e0 HT HRW
        clear hx
        have HBAD := hide (show shipIx fl.length xs k = false → shipsFitB x0 m fl xs = false from fun h => by rw [HV.out, show shipsOkB fl.length xs = false from allUpTo_bad hlt h]; rfl)
        have C0 := fun w : World => isIndexB x (fl.length : Int) ((fl.length : Int) - 1) w (by omega)
        have HC0 := hide C0; clear C0
        rcases ch1 (inB x 0 ((fl.length : Int) - 1)) with g1 | g1
        · obtain ⟨a, rfl, ha⟩ := idxN g1
          have HG1 := hide g1
          obtain ⟨b1, o1, rfl, hb1, hcell1⟩ := H1.out (by omega)
          have f0 : wo.cell? ⟨b1, o1 + a * 6, none⟩ = some (.string fl[a].name) := by
            rw [hbk.cell (p := ⟨b1, _, none⟩) hb1]; have := hcell1 a fl[a] (List.getElem?_eq_getElem ha) 0 _ rfl; simpa using this
          have f1 : wo.cell? ⟨b1, o1 + a * 6 + 1, none⟩ = some (.int .i64 fl[a].length) := by
            rw [hbk.cell (p := ⟨b1, _, none⟩) hb1]; have := hcell1 a fl[a] (List.getElem?_eq_getElem ha) 1 _ rfl; simpa using this
          have f2 : wo.cell? ⟨b1, o1 + a * 6 + 2, none⟩ = some (.int .i64 fl[a].draught) := by
            rw [hbk.cell (p := ⟨b1, _, none⟩) hb1]; have := hcell1 a fl[a] (List.getElem?_eq_getElem ha) 2 _ rfl; simpa using this
          have f3 : wo.cell? ⟨b1, o1 + a * 6 + 3, none⟩ = some (.int .i64 fl[a].line) := by
            rw [hbk.cell (p := ⟨b1, _, none⟩) hb1]; have := hcell1 a fl[a] (List.getElem?_eq_getElem ha) 3 _ rfl; simpa using this
          have f4 : wo.cell? ⟨b1, o1 + a * 6 + 4, none⟩ = some (.int .i64 fl[a].tugs) := by
            rw [hbk.cell (p := ⟨b1, _, none⟩) hb1]; have := hcell1 a fl[a] (List.getElem?_eq_getElem ha) 4 _ rfl; simpa using this
          have f5 : wo.cell? ⟨b1, o1 + a * 6 + 5, none⟩ = some (.bool fl[a].slow) := by
            rw [hbk.cell (p := ⟨b1, _, none⟩) hb1]; have := hcell1 a fl[a] (List.getElem?_eq_getElem ha) 5 _ rfl; simpa using this
          clear hcell1 f0 f2 f3 f4 f5
          have ha' : (a : Int) < fl.length := by omega
          have hzb : b1 < wo.heap.size := by omega
          have HLX := hide (show lensOf fl (xs.take (k + 1)) = lensOf fl (xs.take k) ++ [fl[a].length] by rw [HT.out, Int.toNat_natCast, getD_at ha])
          obtain ⟨y, hy⟩ : ∃ y, fl[a].length = y := ⟨_, rfl⟩
          rw [hy] at f1 HLX
          clear hy
          have HLN := hide (show (lensOf fl (xs.take k)).length ≤ xs.length by rw [lensOf_len, List.length_take]; omega)
          obtain ⟨ys, hys⟩ : ∃ ys, lensOf fl (xs.take k) = ys := ⟨_, rfl⟩
          rw [hys] at HO HLX HLN
          clear hys
          obtain ⟨A3, c3, rfl, hc3, hm3, -⟩ := Own.rd encI_len HO.out
          unfold maxLen at hm3
          go_wp2_with (go_at_call 53; with_reducible refine (HC0.out _).mono ?_; rintro e w1 ⟨rfl, hw⟩; obtain rfl := hw.symm)
          go_loop [32] (fun i => ∃ j : Nat, j ≤ k ∧ i = .int .i64 j ∧ Hid (notBefore xs a j = true)) (fun i => k - (intOf i).toNat)
          case atStart => exact ⟨0, Nat.zero_le _, rfl, hide rfl⟩
          case round =>
            obtain ⟨j, hj, rfl, HJ⟩ := hrel
            by_cases hjk : j < k
            · have q0 := HCE.out j (by omega)
              have HXJ := hide (show xs.getD j default = xs[j] from getD_at (by omega))
              obtain ⟨y', hy'⟩ : ∃ y', xs[j] = y' := ⟨_, rfl⟩
              rw [hy'] at q0 HXJ
              clear hy'
              by_cases he : y' = (a : Int)
              · have he' : (y' == (a : Int)) = true := by simpa using he
                have HF := hide (HBAD.out (by rw [HRW.out, show notBefore xs a k = false from allUpTo_bad hjk (by unfold hasAt; rw [HXJ.out]; simp [he])]; simp))
                clear he
                go_wp2
                go_ret
                exact ⟨by rw [HF.out]; first | done | rfl, hbk⟩
              · have he' : (y' == (a : Int)) = false := by simpa using he
                have HE := hide (show (!hasAt xs a j) = true by unfold hasAt; rw [HXJ.out]; simp [he])
                clear he
                go_wp2
                go_round
                case rel => exact ⟨j + 1, by omega, by go_num, hide (allUpTo_succ HJ.out HE.out)⟩
                case measure => simp [intOf]; omega
            · obtain rfl : j = k := by omega
              have HG := hide (show shipIx fl.length xs j = true by rw [HRW.out, HG1.out, HJ.out]; rfl)
              go_wp2_with (at_builtin; refine wpList_append_rd _ encI_len encI_one (by rfl) _ _ 24 (by rfl) gB 3 i0 (.int .i64 0) 8 Try.underlying24 hi hz0 hz1 hz2 rfl (by decide) _ _ (by rfl) (HO.out.below ((Below.refl _ _).alloc (Nat.le_refl _) _)) _ _ [y] (by rfl) (rd_new (enc := encI) _ y _) (by have := HLN.out; have := HXN.out; unfold maxLen; simp <;> omega) (by have := HLN.out; have := HXN.out; simp <;> omega) (by simp <;> omega) ?_; intro r9 w9 hown9 hgrow9 hblk9)
              have hbg : Below gB wo w9 := ((Below.refl _ _).alloc (by omega) _).trans (Own.belowGrown (B := gB) (HO.out.below ((Below.refl _ _).alloc (Nat.le_refl _) _)) hgrow9 (Nat.le_refl _) (by simp <;> omega))
              go_roundw
              case rel => exact ⟨j + 1, by omega, by go_num, hide (allUpTo_succ HN.out HG.out), hide (by rw [HLX.out]; exact hown9), hide (HZ.out.keep hbg k1), Nat.lt_of_lt_of_le hgl hbg.size, hbk.trans (hbg.mono (by omega))⟩
              case measure => simp [intOf]; omega
        · have HF := hide (HBAD.out (by rw [HRW.out, g1]; rfl))
          go_wp2_with (go_at_call 53; with_reducible refine (HC0.out _).mono ?_; rintro e w1 ⟨rfl, hw⟩; obtain rfl := hw.symm)
          go_ret
          exact ⟨by rw [HF.out]; first | done | rfl, hbk⟩
      · obtain rfl : k = xs.length := by omega
        have HT := hide (List.take_length (l := xs))
        have HO2 := hide (show Own wo gB 3 1 encI _ (lensOf fl xs) by have := HO.out; rwa [HT.out] at this)
        obtain ⟨A3, c3, rfl, hc3, hm3, -⟩ := Own.rd encI_len HO2.out
        have HOK := hide (show shipsOkB fl.length xs = true from HN.out)
        obtain ⟨z0, z1, z2⟩ := HZ.out
        have hzl : w.heap.size < wo.heap.size := by omega
        go_wp2_with (go_at_call 58; with_reducible refine (packed_any x0 x2 m hL0 hL1 hm0 hm1 _ (lensOf fl xs) (lensOf_ok HFL.out HOK.out) (by rw [lensOf_len]; exact H8.out) _ (Own.rd encI_len HO2.out)).mono ?_; rintro e w1 ⟨rfl, hb'⟩)
        go_ret
        exact ⟨by rw [HV.out, HOK.out]; first | done | rfl, bnext hbk hb' (Nat.le_refl _)⟩
  · have HV := hide (show shipsFitB x0 m fl xs = false by unfold shipsFitB; rw [decide_eq_false h8]; rfl)
    have h8' : (8 : Int) < (xs.length : Int) := by omega
    clear h8
    go_enter Try.func75, Try.ntmps75
    go_wp2
    go_ret
    exact ⟨by rw [HV.out]; first | done | rfl, (by repeat (first | exact Below.refl _ _ | assumption | refine Below.setCell ?_ (by first | omega | (simp <;> omega)) _ | refine Below.alloc ?_ (by first | omega | (simp <;> omega)) _ | refine below_drewN ?_ _ | refine Below.drew ?_ | refine Below.trans ?_ (Below.mono (by assumption) (by first | omega | (simp <;> omega)))))⟩
end Go.Proofs.Ytjmffhpfmfmnlaa
