/- Whether every duty has a person: both texts. No condition. -/
import Derived.Test.YtdbpgfbbkejljaaCover2
import Derived.Test.YtdbpgfbbkejljaaSeq
namespace Go.Proofs.Ytdbpgfbbkejljaa
open Go.RowKit
set_option linter.unusedVariables false
def clashAt (B : Nat → Nat → Bool) (who : List Int) (i k : Nat) : Bool := decide (who.getD k default = who.getD i default) && !B i k
def coverRow (B : Nat → Nat → Bool) (who : List Int) (n i : Nat) : Bool := inB (who.getD i default) 0 ((n : Int) - 1) && allUpTo (fun k => !clashAt B who i k) i
def isCover (p : Int) (ms : List Int) (xs : List DutyD) (who : List Int) : Bool := dutiesOk xs && decide (who.length = xs.length) && allUpTo (coverRow (bothD p ms xs) who xs.length) xs.length
theorem dutiesOk_len {xs : List DutyD} (h : dutiesOk xs = true) : xs.length ≤ 12 := by simp [dutiesOk] at h; exact h.1
/-- the cells of a table -/
theorem RdM.cells {p : Int} {ms : List Int} {xs : List DutyD} {w : World} {B : Nat} {v : Value} (h : RdM w B v (bothM p ms xs)) (hn : 0 < xs.length) :
    ∃ b off c, v = .slice (some ⟨b, off, none⟩) xs.length c ∧ b < B ∧ ∀ i, i < xs.length → ∃ b' o' c', w.cell? ⟨b, off + i, none⟩ = some (.slice (some ⟨b', o', none⟩) xs.length c') ∧ b' < B ∧ ∀ k, k < xs.length → w.cell? ⟨b', o' + k, none⟩ = some (.bool (bothD p ms xs i k)) := by
  obtain ⟨svs, h1, h2, h3⟩ := h
  obtain ⟨A, c, rfl, _, _, h1⟩ := h1
  have hl : svs.length = xs.length := by simpa [bothM] using h2
  obtain ⟨b, off, rfl, hlt, hcell⟩ := h1 (by omega)
  refine ⟨b, off, c, by rw [hl], hlt, fun i hi => ?_⟩
  obtain ⟨A', c', hv, _, _, hr⟩ := h3 i (by omega) (by simp [bothM]; omega)
  have hrow : ∀ hh, (bothM p ms xs)[i]'hh = rowB p ms xs i xs.length := fun hh => by simp [bothM]
  rw [hrow] at hv hr
  rw [rowB_len] at hv
  obtain ⟨b', o', rfl, hlt', hcell'⟩ := hr (by rw [rowB_len]; omega)
  refine ⟨b', o', c', ?_, hlt', fun k hk => ?_⟩
  · have := hcell i svs[i] (List.getElem?_eq_getElem (by omega)) 0 (svs[i].val) rfl
    rw [hv] at this
    simpa using this
  · have := hcell' k (bothD p ms xs i k) (by simp [rowB, hk]) 0 (.bool (bothD p ms xs i k)) rfl
    simpa using this
theorem RdM.slice {p : Int} {ms : List Int} {xs : List DutyD} {w : World} {B : Nat} {v : Value} (h : RdM w B v (bothM p ms xs)) : ∃ A c, v = .slice A xs.length c := by
  obtain ⟨svs, ⟨A, c, rfl, _⟩, h2, _⟩ := h
  exact ⟨A, c, by rw [h2]; simp [bothM]⟩
theorem ownU_rd {w : World} {base n : Nat} {v : Value} {u : Nat → Nat} {T : TypeId} (h : Own w base T 1 encU v (rowL n u)) : ∃ A c, v = .slice A n c ∧ (0 < n → ∃ b o, A = some ⟨b, o, none⟩ ∧ b < w.heap.size ∧ ∀ i, i < n → w.cell? ⟨b, o + i, none⟩ = some (.int .u64 (u i : Nat))) := by
  obtain ⟨A, c, rfl, _, _, h⟩ := Own.rd encU_len h
  refine ⟨A, c, by rw [rowL_len], fun hn => ?_⟩
  obtain ⟨b, o, rfl, hb, hc⟩ := h (by rw [rowL_len]; exact hn)
  refine ⟨b, o, rfl, hb, fun i hi => ?_⟩
  have := hc i (u i : Nat) (by rw [List.getElem?_eq_getElem (by rw [rowL_len]; exact hi), rowL_at _ _ hi]) 0 _ rfl
  simpa using this
set_option maxRecDepth 100000 in
set_option maxHeartbeats 16000000 in
theorem spec_IsCover_any (p : Int) (v1 v2 v3 : Value) (ms : List Int) (xs : List DutyD) (who : List Int) (w : World) (h1 : RdI w v1 ms) (h2 : RdDuty w v2 xs) (h3 : RdI w v3 who) :
    Calls Try.prog 22 #[.int .i64 p, v1, v2, v3] w fun e w' => e = .returned (.bool (isCover p ms xs who)) ∧ Below w.heap.size w w' := by
  have HR1 := hide h1; have HR2 := hide h2
  obtain ⟨A1, c1, rfl, hc1, hm1, h1⟩ := h1
  obtain ⟨A2, c2, rfl, hc2, hm2, h2⟩ := h2
  obtain ⟨A3, c3, rfl, hc3, hm3, h3⟩ := h3
  unfold maxLen at hm1 hm2 hm3
  have H3 := hide h3; clear h1 h2 h3
  rcases ch2 (dutiesOk xs) (decide (who.length = xs.length)) with ⟨g1, g2⟩ | g1 | ⟨g1, g2⟩
  · have h12 := dutiesOk_len g1
    have hll : who.length = xs.length := by simpa using g2
    have hne : ((who.length : Int) != (xs.length : Int)) = false := by simp [hll]
    have HP := hide (show isCover p ms xs who = allUpTo (coverRow (bothD p ms xs) who xs.length) xs.length by unfold isCover; rw [g1, g2]; rfl)
    have HLL := hide hll; clear hll g2
    go_enter Try.func22, Try.ntmps22
    go_wp2_with (first
      | (go_at_call 11; with_reducible refine (spec_DutiesOk_any _ xs _ ((RdB.keep HR2.out (B' := w.heap.size) (by repeat (first | exact Below.refl _ _ | assumption | refine Below.setCell ?_ (by first | omega | (simp <;> omega)) _ | refine Below.alloc ?_ (by first | omega | (simp <;> omega)) _ | refine below_drewN ?_ _ | refine Below.drew ?_ | refine Below.trans ?_ (Below.mono (by assumption) (by first | omega | (simp <;> omega))))) (Nat.le_refl _)).mono (by first | omega | (simp <;> omega)))).mono ?_; rintro e w1 ⟨rfl, hb'⟩; (first | have hb := bnext hb hb' | have hb := bnextA hb hb' | have hb := hb'); clear hb'; obtain ⟨hc, hf⟩ := bcell hb; have hz := hb.size; (try simp at hz))
      | (go_at_call 40; with_reducible refine (l13Both_any p _ _ ms xs _ ((RdB.keep HR1.out (B' := w.heap.size) (by repeat (first | exact Below.refl _ _ | assumption | refine Below.setCell ?_ (by first | omega | (simp <;> omega)) _ | refine Below.alloc ?_ (by first | omega | (simp <;> omega)) _ | refine below_drewN ?_ _ | refine Below.drew ?_ | refine Below.trans ?_ (Below.mono (by assumption) (by first | omega | (simp <;> omega))))) (Nat.le_refl _)).mono (by first | omega | (simp <;> omega))) ((RdB.keep HR2.out (B' := w.heap.size) (by repeat (first | exact Below.refl _ _ | assumption | refine Below.setCell ?_ (by first | omega | (simp <;> omega)) _ | refine Below.alloc ?_ (by first | omega | (simp <;> omega)) _ | refine below_drewN ?_ _ | refine Below.drew ?_ | refine Below.trans ?_ (Below.mono (by assumption) (by first | omega | (simp <;> omega))))) (Nat.le_refl _)).mono (by first | omega | (simp <;> omega))) h12).mono ?_; rintro e w1 ⟨vm, rfl, hM, hb'⟩; (first | have hb := bnext hb hb' | have hb := bnextA hb hb' | have hb := hb'); clear hb'; obtain ⟨hc, hf⟩ := bcell hb; have hz := hb.size; (try simp at hz); obtain ⟨Am, cm, rfl⟩ := hM.slice))
    have HM := hide hM
    clear hc hf hz hne g1 hM
    have hbs := hb.size
    go_loopw [29] (fun s wr => ∃ i : Nat, i ≤ xs.length ∧ s = .int .i64 i ∧ Hid (allUpTo (coverRow (bothD p ms xs) who xs.length) i = true) ∧ wr = w1) (fun s _ => xs.length - (intOf s).toNat)
    case atStart => exact ⟨0, Nat.zero_le _, rfl, hide rfl, rfl⟩
    case round =>
      obtain ⟨i, hi, rfl, HN, rfl⟩ := hrel
      by_cases hlt : i < xs.length
      · have hlt3 : i < who.length := by have := HLL.out; omega
        have hlt3' : (i : Int) < who.length := by omega
        have hltx : (i : Int) < xs.length := by omega
        obtain ⟨b3, o3, rfl, hb3, hcell3⟩ := H3.out (by omega)
        have e0 : wr.cell? ⟨b3, o3 + i, none⟩ = some (.int .i64 who[i]) := by
          rw [hb.cell (p := ⟨b3, _, none⟩) hb3]; have := hcell3 i who[i] (List.getElem?_eq_getElem hlt3) 0 _ rfl; simpa using this
        have HC3 := hide hcell3
        have HX := hide (getD_at hlt3)
        obtain ⟨x, hx⟩ : ∃ x, who[i] = x := ⟨_, rfl⟩
        rw [hx] at e0 HX
        clear hcell3 hx
        rcases ch1 (inB x 0 ((xs.length : Int) - 1)) with gr | gr
        · have HRW := hide (show coverRow (bothD p ms xs) who xs.length i = allUpTo (fun k => !clashAt (bothD p ms xs) who i k) i by unfold coverRow; rw [HX.out, gr]; rfl)
          obtain ⟨bm, om, cm', hvm, hbm, hcm⟩ := HM.out.cells (by omega)
          injection hvm with hA _ hc'
          subst hA hc'
          obtain ⟨br, or', cr, hrow, hbr, hcr⟩ := hcm i hlt
          have HCR := hide hcr; clear hcm hcr
          go_wp2_with (go_at_call 37; with_reducible refine (l01In_any _ _ _ _).mono ?_; rintro e w' ⟨rfl, hw⟩; obtain rfl := hw.symm)
          clear gr
          go_loopw [12] (fun t wr2 => ∃ k : Nat, k ≤ i ∧ t = .int .i64 k ∧ Hid (allUpTo (fun k => !clashAt (bothD p ms xs) who i k) k = true) ∧ wr2 = wr) (fun t _ => i - (intOf t).toNat)
          case atStart => exact ⟨0, Nat.zero_le _, rfl, hide rfl, rfl⟩
          case round =>
            obtain ⟨k, hk, rfl, HJ, rfl⟩ := hrel
            by_cases hlt2 : k < i
            · have hk3 : k < who.length := by omega
              have hk3' : (k : Int) < who.length := by omega
              have hkx : k < xs.length := by omega
              have hkx' : (k : Int) < xs.length := by omega
              have f0 : wr.cell? ⟨b3, o3 + k, none⟩ = some (.int .i64 who[k]) := by
                rw [hb.cell (p := ⟨b3, _, none⟩) hb3]; have := HC3.out k who[k] (List.getElem?_eq_getElem hk3) 0 _ rfl; simpa using this
              have HY := hide (getD_at hk3)
              obtain ⟨y, hy⟩ : ∃ y, who[k] = y := ⟨_, rfl⟩
              rw [hy] at f0 HY
              clear hy
              have HCL := hide (show clashAt (bothD p ms xs) who i k = (decide (y = x) && !bothD p ms xs i k) by unfold clashAt; rw [HX.out, HY.out])
              have q0 := HCR.out k hkx
              by_cases hxy : y = x
              · have hq : ((y == x) : Bool) = true := by simp [hxy]
                have HD := hide (show decide (y = x) = true by simp [hxy])
                clear hxy
                rcases ch1 (bothD p ms xs i k) with gb | gb
                · have HG := hide (show (!clashAt (bothD p ms xs) who i k) = true by rw [HCL.out, HD.out, gb]; rfl)
                  rw [gb] at q0
                  clear gb
                  go_wp2
                  go_roundw
                  case rel => exact ⟨k + 1, by omega, by go_num, hide (allUpTo_succ HJ.out HG.out), by first | rfl | trivial⟩
                  case measure => simp [intOf]; omega
                · have HF := hide (show isCover p ms xs who = false by rw [HP.out]; exact allUpTo_bad hlt (by rw [HRW.out]; exact allUpTo_bad hlt2 (by rw [HCL.out, HD.out, gb]; rfl)))
                  rw [gb] at q0
                  clear gb
                  go_wp2
                  go_ret
                  exact ⟨by rw [HF.out]; first | done | rfl, hb⟩
              · have hq : ((y == x) : Bool) = false := by simp; omega
                have HG := hide (show (!clashAt (bothD p ms xs) who i k) = true by rw [HCL.out]; simp [hxy])
                clear hxy
                go_wp2
                go_roundw
                case rel => exact ⟨k + 1, by omega, by go_num, hide (allUpTo_succ HJ.out HG.out), by first | rfl | trivial⟩
                case measure => simp [intOf]; omega
            · obtain rfl : k = i := by omega
              have HG := hide (show coverRow (bothD p ms xs) who xs.length k = true by rw [HRW.out]; exact HJ.out)
              go_wp2
              go_roundw
              case rel => exact ⟨k + 1, by omega, by go_num, hide (allUpTo_succ HN.out HG.out), by first | rfl | trivial⟩
              case measure => simp [intOf]; omega
        · have HF := hide (show isCover p ms xs who = false by rw [HP.out]; exact allUpTo_bad hlt (by unfold coverRow; rw [HX.out, gr]; rfl))
          go_wp2_with (go_at_call 37; with_reducible refine (l01In_any _ _ _ _).mono ?_; rintro e w' ⟨rfl, hw⟩; obtain rfl := hw.symm)
          go_ret
          exact ⟨by rw [HF.out]; first | done | rfl, hb⟩
      · obtain rfl : i = xs.length := by omega
        have HE := hide (show isCover p ms xs who = true by rw [HP.out]; exact HN.out)
        have hle : (who.length : Int) ≤ xs.length := by have := HLL.out; omega
        go_wp2
        go_ret
        exact ⟨by rw [HE.out]; first | done | rfl, hb⟩
  all_goals
    have HF := hide (show isCover p ms xs who = false by unfold isCover; simp [*])
    try have hne : ((who.length : Int) != (xs.length : Int)) = true := by simp at g2 ⊢; omega
    go_enter Try.func22, Try.ntmps22
    go_wp2_with (go_at_call 11; with_reducible refine (spec_DutiesOk_any _ xs _ ((RdB.keep HR2.out (B' := w.heap.size) (by repeat (first | exact Below.refl _ _ | assumption | refine Below.setCell ?_ (by first | omega | (simp <;> omega)) _ | refine Below.alloc ?_ (by first | omega | (simp <;> omega)) _ | refine below_drewN ?_ _ | refine Below.drew ?_ | refine Below.trans ?_ (Below.mono (by assumption) (by first | omega | (simp <;> omega))))) (Nat.le_refl _)).mono (by first | omega | (simp <;> omega)))).mono ?_; rintro e w1 ⟨rfl, hb'⟩; (first | have hb := bnext hb hb' | have hb := bnextA hb hb' | have hb := hb'); clear hb'; obtain ⟨hc, hf⟩ := bcell hb; have hz := hb.size; (try simp at hz))
    go_ret
    exact ⟨by rw [HF.out]; first | done | rfl, (by repeat (first | exact Below.refl _ _ | assumption | refine Below.setCell ?_ (by first | omega | (simp <;> omega)) _ | refine Below.alloc ?_ (by first | omega | (simp <;> omega)) _ | refine below_drewN ?_ _ | refine Below.drew ?_ | refine Below.trans ?_ (Below.mono (by assumption) (by first | omega | (simp <;> omega)))))⟩
set_option maxRecDepth 100000 in
set_option maxHeartbeats 16000000 in
theorem impl_IsCover_any (p : Int) (v1 v2 v3 : Value) (ms : List Int) (xs : List DutyD) (who : List Int) (w : World) (h1 : RdI w v1 ms) (h2 : RdDuty w v2 xs) (h3 : RdI w v3 who) :
    Calls Try.prog 23 #[.int .i64 p, v1, v2, v3] w fun e w' => e = .returned (.bool (isCover p ms xs who)) ∧ Below w.heap.size w w' := by
  have HR1 := hide h1; have HR2 := hide h2
  obtain ⟨A1, c1, rfl, hc1, hm1, h1⟩ := h1
  obtain ⟨A2, c2, rfl, hc2, hm2, h2⟩ := h2
  obtain ⟨A3, c3, rfl, hc3, hm3, h3⟩ := h3
  unfold maxLen at hm1 hm2 hm3
  have H3 := hide h3; clear h1 h2 h3
  rcases ch2 (dutiesOk xs) (decide (who.length = xs.length)) with ⟨g1, g2⟩ | g1 | ⟨g1, g2⟩
  · have h12 := dutiesOk_len g1
    have hll : who.length = xs.length := by simpa using g2
    have hne : ((who.length : Int) != (xs.length : Int)) = false := by simp [hll]
    have HP := hide (show isCover p ms xs who = allUpTo (coverRow (bothD p ms xs) who xs.length) xs.length by unfold isCover; rw [g1, g2]; rfl)
    have HLL := hide hll; clear hll g2
    go_enter Try.func23, Try.ntmps23
    go_wp2_with (first
      | (go_at_call 13; with_reducible refine (impl_DutiesOk_any _ xs _ ((RdB.keep HR2.out (B' := w.heap.size) (by repeat (first | exact Below.refl _ _ | assumption | refine Below.setCell ?_ (by first | omega | (simp <;> omega)) _ | refine Below.alloc ?_ (by first | omega | (simp <;> omega)) _ | refine below_drewN ?_ _ | refine Below.drew ?_ | refine Below.trans ?_ (Below.mono (by assumption) (by first | omega | (simp <;> omega))))) (Nat.le_refl _)).mono (by first | omega | (simp <;> omega)))).mono ?_; rintro e w1 ⟨rfl, hb'⟩; (first | have hb := bnext hb hb' | have hb := bnextA hb hb' | have hb := hb'); clear hb'; obtain ⟨hc, hf⟩ := bcell hb; have hz := hb.size; (try simp at hz))
      | (go_at_call 41; with_reducible refine (partners_any p _ _ ms xs _ ((RdB.keep HR1.out (B' := w.heap.size) (by repeat (first | exact Below.refl _ _ | assumption | refine Below.setCell ?_ (by first | omega | (simp <;> omega)) _ | refine Below.alloc ?_ (by first | omega | (simp <;> omega)) _ | refine below_drewN ?_ _ | refine Below.drew ?_ | refine Below.trans ?_ (Below.mono (by assumption) (by first | omega | (simp <;> omega))))) (Nat.le_refl _)).mono (by first | omega | (simp <;> omega))) ((RdB.keep HR2.out (B' := w.heap.size) (by repeat (first | exact Below.refl _ _ | assumption | refine Below.setCell ?_ (by first | omega | (simp <;> omega)) _ | refine Below.alloc ?_ (by first | omega | (simp <;> omega)) _ | refine below_drewN ?_ _ | refine Below.drew ?_ | refine Below.trans ?_ (Below.mono (by assumption) (by first | omega | (simp <;> omega))))) (Nat.le_refl _)).mono (by first | omega | (simp <;> omega))) h12).mono ?_; rintro e w1 ⟨vm, rfl, hOw, hb'⟩; (first | have hb := bnext hb hb' | have hb := bnextA hb hb' | have hb := hb'); clear hb'; obtain ⟨hc, hf⟩ := bcell hb; have hz := hb.size; (try simp at hz); obtain ⟨Am, cm, rfl, hM⟩ := ownU_rd hOw))
    have HM := hide hM
    clear hc hf hz hne g1 hM hOw
    have hbs := hb.size
    go_loopw [30] (fun s wr => ∃ i : Nat, i ≤ xs.length ∧ s = .int .i64 i ∧ Hid (allUpTo (coverRow (bothD p ms xs) who xs.length) i = true) ∧ wr = w1) (fun s _ => xs.length - (intOf s).toNat)
    case atStart => exact ⟨0, Nat.zero_le _, rfl, hide rfl, rfl⟩
    case round =>
      obtain ⟨i, hi, rfl, HN, rfl⟩ := hrel
      by_cases hlt : i < xs.length
      · have hlt3 : i < who.length := by have := HLL.out; omega
        have hlt3' : (i : Int) < who.length := by omega
        have hltx : (i : Int) < xs.length := by omega
        obtain ⟨b3, o3, rfl, hb3, hcell3⟩ := H3.out (by omega)
        have e0 : wr.cell? ⟨b3, o3 + i, none⟩ = some (.int .i64 who[i]) := by
          rw [hb.cell (p := ⟨b3, _, none⟩) hb3]; have := hcell3 i who[i] (List.getElem?_eq_getElem hlt3) 0 _ rfl; simpa using this
        have HC3 := hide hcell3
        have HX := hide (getD_at hlt3)
        obtain ⟨x, hx⟩ : ∃ x, who[i] = x := ⟨_, rfl⟩
        rw [hx] at e0 HX
        clear hcell3 hx
        rcases ch1 (inB x 0 ((xs.length : Int) - 1)) with gr | gr
        · have HRW := hide (show coverRow (bothD p ms xs) who xs.length i = allUpTo (fun k => !clashAt (bothD p ms xs) who i k) i by unfold coverRow; rw [HX.out, gr]; rfl)
          obtain ⟨bm, om, rfl, hbm, hcm⟩ := HM.out (by omega)
          have hrow := hcm i hlt
          have hbd : partBits p ms xs i < 4611686018427387904 := Nat.lt_trans (bitsOf_lt _ _) (two_pow_lt (by omega))
          obtain ⟨pb, hpb⟩ : ∃ pb, partBits p ms xs i = pb := ⟨_, rfl⟩
          have HPB := hide hpb
          rw [hpb] at hrow hbd
          clear hcm hpb
          go_wp2_with (go_at_call 34; with_reducible refine (isIndexB _ _ ((xs.length : Int) - 1) _ (by omega)).mono ?_; rintro e w' ⟨rfl, hw⟩; obtain rfl := hw.symm)
          clear gr
          go_loopw [44] (fun t wr2 => ∃ k : Nat, k ≤ i ∧ t = .int .i64 k ∧ Hid (allUpTo (fun k => !clashAt (bothD p ms xs) who i k) k = true) ∧ wr2 = wr) (fun t _ => i - (intOf t).toNat)
          case atStart => exact ⟨0, Nat.zero_le _, rfl, hide rfl, rfl⟩
          case round =>
            obtain ⟨k, hk, rfl, HJ, rfl⟩ := hrel
            by_cases hlt2 : k < i
            · have hk3 : k < who.length := by omega
              have hk3' : (k : Int) < who.length := by omega
              have hkx : k < xs.length := by omega
              have hkx' : (k : Int) < xs.length := by omega
              have f0 : wr.cell? ⟨b3, o3 + k, none⟩ = some (.int .i64 who[k]) := by
                rw [hb.cell (p := ⟨b3, _, none⟩) hb3]; have := HC3.out k who[k] (List.getElem?_eq_getElem hk3) 0 _ rfl; simpa using this
              have HY := hide (getD_at hk3)
              obtain ⟨y, hy⟩ : ∃ y, who[k] = y := ⟨_, rfl⟩
              rw [hy] at f0 HY
              clear hy
              have HCL := hide (show clashAt (bothD p ms xs) who i k = (decide (y = x) && !bothD p ms xs i k) by unfold clashAt; rw [HX.out, HY.out])
              have HBT := hide (show pb.testBit k = bothD p ms xs i k by rw [← HPB.out]; unfold partBits; rw [bitsOf_test]; simp [partB, hkx]; intro h; omega)
              have hbit := bit_u64 pb k hbd
              have hkw : IntKind.i64.wrap ((k : Nat) : Int) = k := IntWalk.i64_in _ (by omega)
              by_cases hxy : y = x
              · have hq : ((x == y) : Bool) = true := by simp [hxy]
                have HD := hide (show decide (y = x) = true by simp [hxy])
                clear hxy
                rcases ch1 (bothD p ms xs i k) with gb | gb
                · have HG := hide (show (!clashAt (bothD p ms xs) who i k) = true by rw [HCL.out, HD.out, gb]; rfl)
                  rw [if_pos (by rw [HBT.out, gb])] at hbit
                  clear gb
                  go_wp2
                  go_roundw
                  case rel => exact ⟨k + 1, by omega, by go_num, hide (allUpTo_succ HJ.out HG.out), by first | rfl | trivial⟩
                  case measure => simp [intOf]; omega
                · have HF := hide (show isCover p ms xs who = false by rw [HP.out]; exact allUpTo_bad hlt (by rw [HRW.out]; exact allUpTo_bad hlt2 (by rw [HCL.out, HD.out, gb]; rfl)))
                  rw [if_neg (by rw [HBT.out, gb]; simp)] at hbit
                  clear gb
                  go_wp2
                  go_ret
                  exact ⟨by rw [HF.out]; first | done | rfl, hb⟩
              · have hq : ((x == y) : Bool) = false := by simp; omega
                have HG := hide (show (!clashAt (bothD p ms xs) who i k) = true by rw [HCL.out]; simp [hxy])
                clear hxy
                go_wp2
                go_roundw
                case rel => exact ⟨k + 1, by omega, by go_num, hide (allUpTo_succ HJ.out HG.out), by first | rfl | trivial⟩
                case measure => simp [intOf]; omega
            · obtain rfl : k = i := by omega
              have HG := hide (show coverRow (bothD p ms xs) who xs.length k = true by rw [HRW.out]; exact HJ.out)
              go_wp2
              go_roundw
              case rel => exact ⟨k + 1, by omega, by go_num, hide (allUpTo_succ HN.out HG.out), by first | rfl | trivial⟩
              case measure => simp [intOf]; omega
        · have HF := hide (show isCover p ms xs who = false by rw [HP.out]; exact allUpTo_bad hlt (by unfold coverRow; rw [HX.out, gr]; rfl))
          go_wp2_with (go_at_call 34; with_reducible refine (isIndexB _ _ ((xs.length : Int) - 1) _ (by omega)).mono ?_; rintro e w' ⟨rfl, hw⟩; obtain rfl := hw.symm)
          go_ret
          exact ⟨by rw [HF.out]; first | done | rfl, hb⟩
      · obtain rfl : i = xs.length := by omega
        have HE := hide (show isCover p ms xs who = true by rw [HP.out]; exact HN.out)
        have hle : (who.length : Int) ≤ xs.length := by have := HLL.out; omega
        go_wp2
        go_ret
        exact ⟨by rw [HE.out]; first | done | rfl, hb⟩
  all_goals
    have HF := hide (show isCover p ms xs who = false by unfold isCover; simp [*])
    try have hne : ((who.length : Int) != (xs.length : Int)) = true := by simp at g2 ⊢; omega
    go_enter Try.func23, Try.ntmps23
    go_wp2_with (go_at_call 13; with_reducible refine (impl_DutiesOk_any _ xs _ ((RdB.keep HR2.out (B' := w.heap.size) (by repeat (first | exact Below.refl _ _ | assumption | refine Below.setCell ?_ (by first | omega | (simp <;> omega)) _ | refine Below.alloc ?_ (by first | omega | (simp <;> omega)) _ | refine below_drewN ?_ _ | refine Below.drew ?_ | refine Below.trans ?_ (Below.mono (by assumption) (by first | omega | (simp <;> omega))))) (Nat.le_refl _)).mono (by first | omega | (simp <;> omega)))).mono ?_; rintro e w1 ⟨rfl, hb'⟩; (first | have hb := bnext hb hb' | have hb := bnextA hb hb' | have hb := hb'); clear hb'; obtain ⟨hc, hf⟩ := bcell hb; have hz := hb.size; (try simp at hz))
    go_ret
    exact ⟨by rw [HF.out]; first | done | rfl, (by repeat (first | exact Below.refl _ _ | assumption | refine Below.setCell ?_ (by first | omega | (simp <;> omega)) _ | refine Below.alloc ?_ (by first | omega | (simp <;> omega)) _ | refine below_drewN ?_ _ | refine Below.drew ?_ | refine Below.trans ?_ (Below.mono (by assumption) (by first | omega | (simp <;> omega)))))⟩
end Go.Proofs.Ytdbpgfbbkejljaa
