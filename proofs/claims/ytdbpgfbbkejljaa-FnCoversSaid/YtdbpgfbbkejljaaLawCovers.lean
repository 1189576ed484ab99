/- The law FnCovers: for every row of bytes it returns true and leaves its argument as it was. No condition. -/
import Derived.Test.YtdbpgfbbkejljaaBytes
import Derived.Test.YtdbpgfbbkejljaaHas
import Derived.Test.YtdbpgfbbkejljaaDutyDraw
import Derived.Test.YtdbpgfbbkejljaaLaw2
import Derived.Deep.DeepCutAuto
namespace Go.Proofs.Ytdbpgfbbkejljaa
open Go.RowKit Go.WideShapes Go.ChangeShapes Go.ChangeAt Go.Joins Go.Deep
set_option linter.unusedVariables false
theorem calls_boolV {P : Program} {f : FuncId} {args : Array Value} {w : World} {R : World → Prop} {b c : Bool} (h : Calls P f args w fun e w' => e = .returned (.bool b) ∧ R w') (hb : b = c) : Calls P f args w fun e w' => e = .returned (.bool c) ∧ R w' := hb ▸ h
theorem seenL_next {fs : List Nat} {k : Nat} (h : k < fs.length) : seenL fs (k + 1) = if (seenL fs k).contains fs[k] = true then seenL fs k else seenL fs k ++ [fs[k]] := by
  rw [seenL, getD_get h]
theorem rivals_atE {p : Int} {ms : List Int} {xs : List DutyD} {rs : List Nat} (e : rivalsOf p ms xs = rs) {i k : Nat} (hki : k < i) (hi : i < rs.length) : rs[i] < xs.length ∧ rs[k]'(by omega) < xs.length ∧ bothD p ms xs rs[i] (rs[k]'(by omega)) = false ∧ rs[k]'(by omega) < rs[i] := by
  subst e; exact rivals_at hki hi
theorem rivals_inE {p : Int} {ms : List Int} {xs : List DutyD} {rs : List Nat} (e : rivalsOf p ms xs = rs) {i : Nat} (hi : i < rs.length) : rs[i] < xs.length := by
  subst e; exact rivals_in hi
theorem both_no {p : Int} {ms : List Int} {xs : List DutyD} {i k : Nat} (hi : i < xs.length) (hk : k < xs.length) (h : bothD p ms xs i k = false) : canFollow p ms xs[i] xs[k] = false ∧ canFollow p ms xs[k] xs[i] = false := by
  unfold bothD at h
  rw [Bool.or_eq_false_iff, getD_at hi, getD_at hk] at h
  exact h
set_option maxRecDepth 100000 in
set_option maxHeartbeats 32000000 in
theorem FnCovers_walk (w : World) (v : Value) (bs : List Int) (h : RdB w w.heap.size 1 enc8 v bs) (hby : Byt bs) :
    Calls Try.prog 8 #[v] w fun e w' => e = .returned (.bool true) ∧ Below w.heap.size w w' := by
  have HR := hide h; have HBY := hide hby; clear hby
  obtain ⟨A0, c0, rfl, hc0, hm0, -⟩ := h
  unfold maxLen at hm0
  go_enter Try.func8, Try.ntmps8
  by_cases hbig : (1048576 : Int) < (bs.length : Int)
  · go_wp2_with fail
    go_ret
    exact ⟨rfl, (by repeat (first | exact Below.refl _ _ | assumption | refine Below.setCell ?_ (by first | omega | (simp <;> omega)) _ | refine Below.alloc ?_ (by first | omega | (simp <;> omega)) _ | refine below_drewN ?_ _ | refine Below.drew ?_ | refine Below.trans ?_ (Below.mono (by assumption) (by first | omega | (simp <;> omega)))))⟩
  have hbig' : (bs.length : Int) ≤ 1048576 := by omega
  have HN := hide (show bs.length ≤ 1048576 by omega)
  clear hbig
  go_wp2_with fail
  refine (MakeDuties_any _ bs _ HR.out HBY.out HN.out).mono ?_
  rintro e w1 ⟨p, vm, vl, ms, xs, rfl, ⟨p0, p1⟩, htab, hdut, hl6, hom, hol, hb1⟩
  have HX := hide (Own.rd DutyD.enc_len hol)
  have HM := hide (Own.rd encI_len hom)
  obtain ⟨A2, c2, rfl, hc2, hm2, -⟩ := HX.out
  obtain ⟨A3, c3, rfl, hc3, hm3, -⟩ := HM.out
  unfold maxLen at hm2 hm3
  have HT := hide htab; have HD := hide hdut
  have s1 := hb1.size
  clear hom hol htab hdut
  go_wp2_with fail
  refine (LeastCover_any p _ _ ms xs _ HD.out HT.out HM.out HX.out).mono ?_
  rintro e w3 ⟨vw, m, fs, rfl, hlp, hcl, how, hb3⟩
  have hmn := least_le hlp
  have HIC := hide (cov_is HD.out hmn hcl)
  have HSL := hide (seenL_least hcl hlp)
  have hfl := hcl.1
  have HFM := hide hcl.2.1; have HFB := hide hcl.2.2
  have HRL := hide (show (rivalsOf p ms xs).length ≤ m from least_rivals hlp)
  have hm0 : xs.length = 0 → m = 0 := fun e => by omega
  have hm1 : m = 0 → xs.length = 0 := fun e => by
    rcases Nat.eq_zero_or_pos xs.length with h | h
    · exact h
    · have := hcl.2.1 0 (by omega); omega
  have HW := hide (Own.rd encI_len how)
  obtain ⟨A4, c4, rfl, hc4, hc4m⟩ := own_slice encI_len how (N := xs.length) (by rw [ints_len]; exact hfl)
  have s3 := hb3.size
  have HX3 := hide ((HX.out.keep hb3 (Nat.le_refl _)).mono s3)
  have HM3 := hide ((HM.out.keep hb3 (Nat.le_refl _)).mono s3)
  clear how hcl hlp
  go_wp2_with fail
  refine (impl_RivalDuties_any p _ _ ms xs _ HM3.out HX3.out).mono ?_
  rintro e w4 ⟨vr, rfl, hor, hb4⟩
  have s4 := hb4.size
  have hb14 := bnext hb3 hb4 (Nat.le_refl _)
  obtain ⟨rs, hrs⟩ : ∃ rs, rivalsOf p ms xs = rs := ⟨_, rfl⟩
  have HRA := hide (fun (i k : Nat) (hki : k < i) (hi : i < rs.length) => rivals_atE hrs hki hi)
  have HRI := hide (fun (i : Nat) (hi : i < rs.length) => rivals_inE hrs hi)
  rw [hrs] at hor HRL
  clear hrs
  have HRV := hide (Own.rd encI_len hor)
  obtain ⟨A5, c5, rfl, hc5, hc5m⟩ := own_slice encI_len hor (N := rs.length) (ints_len _)
  have HX4 := hide ((HX3.out.keep hb4 (Nat.le_refl _)).mono s4)
  have HM4 := hide ((HM3.out.keep hb4 (Nat.le_refl _)).mono s4)
  have HW4 := hide ((HW.out.keep hb4 (Nat.le_refl _)).mono s4)
  have hb1w4 : Below w.heap.size w w4 := hb1.trans (hb14.mono s1)
  clear hor HX3 HM3 HW
  unfold maxLen at hc4m hc5m
  have hrm : (rs.length : Int) ≤ m := by have := HRL.out; omega
  have hmnI : (m : Int) ≤ xs.length := by omega
  have hnr : ¬ (m : Int) < rs.length := by omega
  have hnx : ¬ (xs.length : Int) < m := by omega
  have heq : (((xs.length : Int) == 0) != ((m : Int) == 0)) = false := by
    rcases Nat.eq_zero_or_pos m with h | h
    · have := hm1 h; rw [h, this]; rfl
    · have h2 : xs.length ≠ 0 := fun e => by have := hm0 e; omega
      have e1 : ((xs.length : Int) == 0) = false := by rw [beq_eq_false_iff_ne]; omega
      have e2 : ((m : Int) == 0) = false := by rw [beq_eq_false_iff_ne]; omega
      rw [e1, e2]; rfl
  have heq2 : (!(((xs.length : Int) == 0) == ((m : Int) == 0))) = false := heq
  have heq3 : (((xs.length : Int) == 0) == ((m : Int) == 0)) = true := by simpa using heq2
  have hnrN : ¬ m < rs.length := by omega
  have hnxN : ¬ xs.length < m := by omega
  have HFL := hide hfl
  clear hm0 hm1 hmn hfl
  go_wp2_with fail
  refine (impl_DutiesOk_any _ xs _ HX4.out).mono ?_
  rintro e w5 ⟨rfl, hb5⟩
  rw [HD.out]
  have s5 := hb5.size
  have HX5 := hide ((HX4.out.keep hb5 (Nat.le_refl _)).mono s5)
  have HM5 := hide ((HM4.out.keep hb5 (Nat.le_refl _)).mono s5)
  have HW5 := hide ((HW4.out.keep hb5 (Nat.le_refl _)).mono s5)
  go_wp2_with fail
  refine (impl_IsCover_any p _ _ _ ms xs (ints fs) _ HM5.out HX5.out HW5.out).mono ?_
  rintro e w6 ⟨rfl, hb6⟩
  rw [HIC.out]
  have s6 := hb6.size
  have hb46 := bnext hb5 hb6 (Nat.le_refl _)
  have HX6 := hide ((HX5.out.keep hb6 (Nat.le_refl _)).mono s6)
  have HM6 := hide ((HM5.out.keep hb6 (Nat.le_refl _)).mono s6)
  have HW6 := hide ((HW5.out.keep hb6 (Nat.le_refl _)).mono s6)
  have HR6 := hide ((HRV.out.keep hb46 (Nat.le_refl _)).mono hb46.size)
  have HBW := hide (show Below w.heap.size w w6 from hb1w4.trans (hb46.mono (by omega)))
  have hsw := HBW.out.size
  obtain ⟨i0, hi, hz0, hz1, hz2⟩ := info_parts int_info
  clear HX4 HX5 HM4 HM5 HW4 HW5 HX HM HRV hb1 hb3 hb4 hb5 hb6 hb14 hb46 hb1w4 s1 s3 s4 s5 s6
  go_wp2_with fail
  have HO0 := hide (show Own (w6.alloc (.cells #[] 3)) w6.heap.size 3 1 encI (.slice (some ⟨w6.heap.size, 0, none⟩) 0 0) (ints (seenL fs 0)) from own_built0 (enc := encI) w6 3 1)
  have HB0 := hide (show Below w6.heap.size w6 (w6.alloc (.cells #[] 3)) from (Below.refl _ _).alloc (Nat.le_refl _) _)
  go_loopw [10, 83] (fun o s wr => ∃ k : Nat, k ≤ xs.length ∧ s = .int .i64 k ∧ Hid (Own wr w6.heap.size 3 1 encI o (ints (seenL fs k))) ∧ Hid (Below w6.heap.size w6 wr)) (fun _ s _ => xs.length - (intOf s).toNat)
  case atStart => exact ⟨0, Nat.zero_le _, rfl, HO0, HB0⟩
  case round =>
    clear HO0 HB0
    obtain ⟨k, hk, rfl, HO, HB⟩ := hrel
    obtain ⟨wo, rfl⟩ : ∃ wo : World, wo = wr := ⟨_, rfl⟩
    have hso := HB.out.size
    by_cases hlt : k < xs.length
    · have hlt' : (k : Int) < xs.length := by omega
      have hltf : k < fs.length := by have := HFL.out; omega
      have HSN := hide (seenL_next hltf)
      obtain ⟨A4x, c4x, ex, -, -, h4⟩ := HW6.out
      obtain ⟨b4, o4, e4, hb4, hcell4⟩ := h4 (by rw [ints_len]; omega)
      obtain ⟨rfl, rfl⟩ : A4 = A4x ∧ c4 = c4x := by injection ex with q1 q2 q3; exact ⟨q1, q3⟩
      subst e4
      have e0 : wo.cell? ⟨b4, o4 + k, none⟩ = some (.int .i64 (fs[k] : Nat)) := by rw [HB.out.cell (p := ⟨b4, _, none⟩) hb4]; have := hcell4 k _ (ints_get hltf) 0 _ rfl; simpa using this
      obtain ⟨x, hx⟩ : ∃ x, fs[k] = x := ⟨_, rfl⟩
      rw [hx] at e0 HSN
      have hlen := seenL_len fs k
      obtain ⟨sl, hsl⟩ : ∃ l, seenL fs k = l := ⟨_, rfl⟩
      rw [hsl] at HO HSN hlen
      have HLN := hide (show sl.length ≤ 12 by omega)
      clear hcell4 h4 ex hx hsl
      obtain ⟨A3x, c3x, rfl, hc3x, hm3x⟩ := own_slice encI_len HO.out (N := sl.length) (ints_len _)
      unfold maxLen at hm3x
      have HRD := hide (Own.rd encI_len HO.out)
      rcases ch1 (sl.contains x) with hc | hc
      · rw [if_pos hc] at HSN
        have HC := hide hc
        clear hc
        go_wp2_with (go_at_call 31; (with_reducible refine (has_any _ sl x _ HRD.out).mono ?_); rintro e w9 ⟨rfl, hw⟩; obtain rfl := hw.symm; rw [HC.out])
        go_roundw
        case rel => exact ⟨k + 1, by omega, by go_num, by rw [HSN.out]; exact HO, HB⟩
        case measure => simp [intOf]; omega
      · rw [if_neg (by rw [hc]; simp)] at HSN
        have HC := hide hc
        clear hc
        go_wp2_with (first
          | (go_at_call 31; (with_reducible refine (has_any _ sl x _ HRD.out).mono ?_); rintro e w9 ⟨rfl, hw⟩; obtain rfl := hw.symm; rw [HC.out])
          | (at_builtin; refine wpList_append_rd _ encI_len encI_one (by rfl) _ _ 29 (by rfl) w6.heap.size 3 i0 (.int .i64 0) 8 Try.underlying29 hi hz0 hz1 hz2 rfl (by decide) _ _ (by rfl) (HO.out.below ((Below.refl _ _).alloc (Nat.le_refl _) _)) _ _ [((x : Nat) : Int)] (by rfl) (rd_new (enc := encI) _ ((x : Nat) : Int) _) (by have := HLN.out; rw [ints_len]; unfold maxLen; simp <;> omega) (by have := HLN.out; rw [ints_len]; simp <;> omega) (by simp <;> omega) ?_; intro r9 w9 hown9 hgrow9 hblk9))
        have hb9 : Below w6.heap.size w6 w9 := (HB.out.alloc hso _).trans (Own.belowGrown (B := w6.heap.size) (HO.out.below ((Below.refl _ _).alloc (Nat.le_refl _) _)) hgrow9 (Nat.le_refl _) (by simp <;> omega))
        go_roundw
        case rel => exact ⟨k + 1, by omega, by go_num, hide (by rw [HSN.out, ints_snoc]; exact hown9), hide hb9⟩
        case measure => simp [intOf]; omega
    · obtain rfl : k = xs.length := by omega
      obtain ⟨As, cs, rfl, -, -⟩ := own_slice encI_len HO.out (N := m) (by rw [ints_len]; exact HSL.out)
      clear HO hlt
      go_wp2_with fail
      go_loopw [98] (fun s wr => ∃ i : Nat, i ≤ rs.length ∧ s = .int .i64 i ∧ Hid (Below w6.heap.size w6 wr)) (fun s _ => rs.length - (intOf s).toNat)
      case atStart => exact ⟨0, Nat.zero_le _, rfl, HB⟩
      case round =>
        clear HB hso
        obtain ⟨i, hi', rfl, HB⟩ := hrel
        rename_i wr
        obtain ⟨wo2, rfl⟩ : ∃ wo2 : World, wo2 = wr := ⟨_, rfl⟩
        have hso := HB.out.size
        by_cases hlt : i < rs.length
        · have hlt' : (i : Int) < rs.length := by omega
          obtain ⟨A5x, c5x, ex, -, -, h5⟩ := HR6.out
          obtain ⟨b5, o5, e5, hb5, hcell5⟩ := h5 (by rw [ints_len]; omega)
          obtain ⟨rfl, rfl⟩ : A5 = A5x ∧ c5 = c5x := by injection ex with q1 q2 q3; exact ⟨q1, q3⟩
          subst e5
          have hrc : ∀ (w' : World) (k : Nat) (hk : k < rs.length), Below w6.heap.size w6 w' → w'.cell? ⟨b5, o5 + k, none⟩ = some (.int .i64 (rs[k] : Nat)) := fun w' k hk hB => by rw [hB.cell (p := ⟨b5, _, none⟩) hb5]; have := hcell5 k _ (ints_get hk) 0 _ rfl; simpa using this
          have HRC := hide hrc
          have e0 := hrc wo2 i hlt HB.out
          have hai := HRI.out i hlt
          have HAT := hide (fun j (hj : j < i) => HRA.out i j hj hlt)
          obtain ⟨a, ha⟩ : ∃ a, rs[i] = a := ⟨_, rfl⟩
          simp only [ha] at e0 hai HAT
          have hna : ¬ (a : Int) < 0 := by omega
          have hnb : ¬ (xs.length : Int) ≤ (a : Int) := by omega
          have hai' : (a : Int) < xs.length := by omega
          have hic : (i : Int) ≤ (c5 : Int) := by omega
          have hicn : i ≤ c5 := by omega
          have hc50 : ¬ c5 = 0 := by omega
          clear hcell5 h5 ex ha hrc
          go_wp2_with fail
          go_loopw [115] (fun s wr => ∃ j : Nat, j ≤ i ∧ s = .int .i64 j ∧ Hid (Below w6.heap.size w6 wr)) (fun s _ => i - (intOf s).toNat)
          case atStart => exact ⟨0, Nat.zero_le _, rfl, HB⟩
          case round =>
            clear HB hso e0
            obtain ⟨j, hj, rfl, HB⟩ := hrel
            rename_i wr
            obtain ⟨wi, rfl⟩ : ∃ wi : World, wi = wr := ⟨_, rfl⟩
            have hso := HB.out.size
            by_cases hlt2 : j < i
            · have hlt2' : (j : Int) < i := by omega
              have hjr : j < rs.length := by omega
              have f0 := HRC.out wi j hjr HB.out
              obtain ⟨-, hbj, hboth, hba⟩ := HAT.out j hlt2
              obtain ⟨b, hb⟩ : ∃ b, rs[j] = b := ⟨_, rfl⟩
              simp only [hb] at f0 hbj hboth hba
              clear hb
              obtain ⟨hc1, hc2x⟩ := both_no hai hbj hboth
              have hbj' : (b : Int) < xs.length := by omega
              have hfa : a < fs.length := by have := HFL.out; omega
              have hfb : b < fs.length := by have := HFL.out; omega
              have hwne : fs[a] ≠ fs[b] := fun e => by have := HFB.out a b hfa hba e; rw [hboth] at this; cases this
              obtain ⟨A4x, c4x, ex, -, -, h4⟩ := HW6.out
              obtain ⟨b4, o4, e4, hb4, hcell4⟩ := h4 (by rw [ints_len]; omega)
              obtain ⟨rfl, rfl⟩ : A4 = A4x ∧ c4 = c4x := by injection ex with q1 q2 q3; exact ⟨q1, q3⟩
              subst e4
              have g0 : wi.cell? ⟨b4, o4 + a, none⟩ = some (.int .i64 (fs[a] : Nat)) := by rw [HB.out.cell (p := ⟨b4, _, none⟩) hb4]; have := hcell4 a _ (ints_get hfa) 0 _ rfl; simpa using this
              have g1 : wi.cell? ⟨b4, o4 + b, none⟩ = some (.int .i64 (fs[b] : Nat)) := by rw [HB.out.cell (p := ⟨b4, _, none⟩) hb4]; have := hcell4 b _ (ints_get hfb) 0 _ rfl; simpa using this
              obtain ⟨A2x, c2x, ey, -, -, h2⟩ := HX6.out
              obtain ⟨b2, o2, e2, hb2, hcell2⟩ := h2 (by omega)
              obtain ⟨rfl, rfl⟩ : A2 = A2x ∧ c2 = c2x := by injection ey with q1 q2 q3; exact ⟨q1, q3⟩
              subst e2
              have hbb := HB.out
              have d0 : wi.cell? ⟨b2, o2 + a * 4, none⟩ = some (.int .i64 xs[a].start) := by
                rw [hbb.cell (p := ⟨b2, _, none⟩) hb2]; have := hcell2 a xs[a] (List.getElem?_eq_getElem hai) 0 _ rfl; simpa using this
              have d1 : wi.cell? ⟨b2, o2 + a * 4 + 1, none⟩ = some (.int .i64 xs[a].fin) := by
                rw [hbb.cell (p := ⟨b2, _, none⟩) hb2]; have := hcell2 a xs[a] (List.getElem?_eq_getElem hai) 1 _ rfl; simpa using this
              have d2 : wi.cell? ⟨b2, o2 + a * 4 + 2, none⟩ = some (.int .i64 xs[a].a) := by
                rw [hbb.cell (p := ⟨b2, _, none⟩) hb2]; have := hcell2 a xs[a] (List.getElem?_eq_getElem hai) 2 _ rfl; simpa using this
              have d3 : wi.cell? ⟨b2, o2 + a * 4 + 3, none⟩ = some (.int .i64 xs[a].b) := by
                rw [hbb.cell (p := ⟨b2, _, none⟩) hb2]; have := hcell2 a xs[a] (List.getElem?_eq_getElem hai) 3 _ rfl; simpa using this
              have t0 : wi.cell? ⟨b2, o2 + b * 4, none⟩ = some (.int .i64 xs[b].start) := by
                rw [hbb.cell (p := ⟨b2, _, none⟩) hb2]; have := hcell2 b xs[b] (List.getElem?_eq_getElem hbj) 0 _ rfl; simpa using this
              have t1 : wi.cell? ⟨b2, o2 + b * 4 + 1, none⟩ = some (.int .i64 xs[b].fin) := by
                rw [hbb.cell (p := ⟨b2, _, none⟩) hb2]; have := hcell2 b xs[b] (List.getElem?_eq_getElem hbj) 1 _ rfl; simpa using this
              have t2 : wi.cell? ⟨b2, o2 + b * 4 + 2, none⟩ = some (.int .i64 xs[b].a) := by
                rw [hbb.cell (p := ⟨b2, _, none⟩) hb2]; have := hcell2 b xs[b] (List.getElem?_eq_getElem hbj) 2 _ rfl; simpa using this
              have t3 : wi.cell? ⟨b2, o2 + b * 4 + 3, none⟩ = some (.int .i64 xs[b].b) := by
                rw [hbb.cell (p := ⟨b2, _, none⟩) hb2]; have := hcell2 b xs[b] (List.getElem?_eq_getElem hbj) 3 _ rfl; simpa using this
              have HC1 := hide hc1; have HC2 := hide hc2x
              obtain ⟨da, hda⟩ : ∃ d, xs[a] = d := ⟨_, rfl⟩
              obtain ⟨db, hdb⟩ : ∃ d, xs[b] = d := ⟨_, rfl⟩
              rw [hda] at d0 d1 d2 d3; rw [hdb] at t0 t1 t2 t3
              rw [hda, hdb] at HC1 HC2
              obtain ⟨x, hx⟩ : ∃ x, fs[a] = x := ⟨_, rfl⟩
              obtain ⟨y, hy⟩ : ∃ y, fs[b] = y := ⟨_, rfl⟩
              rw [hx] at g0 hwne; rw [hy] at g1 hwne
              have hxy : ((x : Int) == (y : Int)) = false := by rw [beq_eq_false_iff_ne]; omega
              have HMI := hide (show ∀ w', Below wi.heap.size wi w' → RdI w' (.slice A3 ms.length c3) ms from fun w' hB => (HM6.out.keep (bnext HB.out hB (Nat.le_refl _)) (Nat.le_refl _)).mono (bnext HB.out hB (Nat.le_refl _)).size)
              have hb4w : b4 < wi.heap.size := by omega
              have hb2w : b2 < wi.heap.size := by omega
              clear hcell4 hcell2 h4 h2 ex ey hboth hc1 hc2x hda hdb hx hy hwne hbb hba
              go_wp2_with fail
              refine wp_region_below (Below.refl wi.heap.size wi) (by kernel_rfl) (by kernel_rfl) ?_
              repeat (first
                | go_big_quiet_skip
                | (go_big_quiet_want
                   first
                    | (refine quiet_value ?_; apply Exists.intro
                       refine ⟨fun wq hq => ?_, ?_⟩
                       · (obtain ⟨hc, hf⟩ := bcell hq; go_simp; first | done | rfl)
                       go_big_quiet_on
                       simp only [Act.put, List.setIfInBounds_toArray, List.set_cons_zero, List.set_cons_succ])
                    | (refine quiet_call ?_; apply Exists.intro; apply Exists.intro; apply Exists.intro
                       refine ⟨fun wq hq => ?_, fun wq hq => ?_, ?_⟩
                       · (obtain ⟨hc, hf⟩ := bcell hq; go_simp; exact ⟨rfl, rfl⟩)
                       · (first | with_reducible exact (calls_boolV (impl_CanFollow_any p _ ms da db _ (HMI.out _ hq)) HC1.out).mono fun e w'' ⟨he, hw⟩ => ⟨he, hw ▸ hq⟩ | with_reducible exact (calls_boolV (impl_CanFollow_any p _ ms da db _ (HMI.out _ hq)) HC1.out).mono fun e w'' ⟨he, hb'⟩ => ⟨he, bnext hq hb'⟩ | with_reducible exact (calls_boolV (impl_CanFollow_any p _ ms db da _ (HMI.out _ hq)) HC2.out).mono fun e w'' ⟨he, hw⟩ => ⟨he, hw ▸ hq⟩ | with_reducible exact (calls_boolV (impl_CanFollow_any p _ ms db da _ (HMI.out _ hq)) HC2.out).mono fun e w'' ⟨he, hb'⟩ => ⟨he, bnext hq hb'⟩ |  exact (calls_boolV (impl_CanFollow_any p _ ms da db _ (HMI.out _ hq)) HC1.out).mono fun e w'' ⟨he, hb'⟩ => ⟨he, bnext hq hb'⟩ |  exact (calls_boolV (impl_CanFollow_any p _ ms da db _ (HMI.out _ hq)) HC1.out).mono fun e w'' ⟨he, hw⟩ => ⟨he, hw ▸ hq⟩ |  exact (calls_boolV (impl_CanFollow_any p _ ms db da _ (HMI.out _ hq)) HC2.out).mono fun e w'' ⟨he, hb'⟩ => ⟨he, bnext hq hb'⟩ |  exact (calls_boolV (impl_CanFollow_any p _ ms db da _ (HMI.out _ hq)) HC2.out).mono fun e w'' ⟨he, hw⟩ => ⟨he, hw ▸ hq⟩)
                       go_big_quiet_on
                       simp only [Act.put, List.setIfInBounds_toArray, List.set_cons_zero, List.set_cons_succ])
                    | (go_big_quiet_op; go_big_quiet_on)
                   ))
              refine wpQuiet_nil (fun w8 hb8 => ?_)
              have HB8 := hide (bnext HB.out hb8 (Nat.le_refl _))
              clear hb8
              go_wp2
              go_roundw
              case rel => exact ⟨j + 1, by omega, by first | rfl | go_num, HB8⟩
              case measure => simp [intOf]; omega
            · obtain rfl : j = i := by omega
              go_wp2
              go_roundw
              case rel => exact ⟨j + 1, by omega, by first | rfl | go_num, HB⟩
              case measure => simp [intOf]; omega
        · obtain rfl : i = rs.length := by omega
          go_wp2
          go_ret
          exact ⟨by first | rfl | simp, HBW.out.trans (HB.out.mono hsw)⟩
namespace fnCovers
set_option maxRecDepth 100000 in
theorem lifted (os : Os) (started : os.Started) (H : Type) (enc : TypeId × Value → H) :
    ReturnsInHanded {} Try.checked os 8 .any (Rows.fnCoversSpec.pre6 enc Try.prog Try.f8 Rows.fnCoversRow.domain false) (Rows.fnCoversSpec.post enc Try.prog Try.f8 false true false false) := by
  refine returnsInHanded_of_change (C := Try.checked) own started (by kernel_rfl) Try.func8
    (ChangeSpec.witness6 (enc := enc) (C := Try.checked) false ⟨#[], #[.slice none 0 0], []⟩ 8 (by kernel_rfl) (by kernel_rfl) (by kernel_rfl) (by kernel_rfl)) ?_
  intro W base args ds gs before hval0 hW hcnd _
  have hval : ∀ (j : Nat) t v, Try.f8.params[j]? = some t → args[j]? = some v → Value.okWide Try.prog W .any base t v := hval0
  have hW' := hW
  obtain ⟨p, q, hA0, hV, hbef, hfz, hnd⟩ := hW
  have hA : DataW.TrodAll enc Try.prog W 0 (fun _ => true) true Try.f8.params.toList args.toList ds p := hA0
  rw [Try.params8] at hA hval
  obtain ⟨v0, vs0, d0, ds0, p0, q0, hargs, rfl, hp0, h0, r0⟩ := trodAll_cons hA
  obtain ⟨rfl, rfl, hpn⟩ := trodAll_nil r0
  obtain rfl : args = #[v0] := by cases args; simp_all
  obtain ⟨rfl, rfl⟩ := trodVars_none hV
  obtain ⟨a0, g0, w0⟩ := open_rows8 Try.underlying46 Try.underlying5 (by kernel_rfl) (hval 0 46 v0 rfl rfl) h0
  refine (FnCovers_walk W _ a0 g0 w0).mono fun e W' ⟨he, hg⟩ => ?_
  subst he
  exact ⟨_, rfl, post_law laidOut (by kernel_rfl) rfl Try.underlying4 rfl ⟨rfl, rfl, rfl⟩ hW' hg⟩
theorem proved : Rows.FnCoversSaid :=
  OpenClaim.holds_of_wide 8 Try.f8 rfl rfl rfl rfl rfl rfl rfl ⟨rfl, rfl, rfl, rfl, rfl⟩ rfl rfl rfl rfl rfl (by kernel_rfl) Try.func8 (by kernel_rfl)
    (of_decide_eq_true (by kernel_rfl)) (by unfold Func.isWrapper; first | (rw [if_pos (by decide +kernel)]; kernel_rfl) | (rw [if_neg (by decide +kernel)]; exact ⟨rfl, rfl⟩))
    (fun os started H enc _ => lifted os started H enc)
end fnCovers
end Go.Proofs.Ytdbpgfbbkejljaa
