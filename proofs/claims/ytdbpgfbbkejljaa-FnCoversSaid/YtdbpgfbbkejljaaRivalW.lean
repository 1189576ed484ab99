/- The most duties of which no two go together: both texts. No condition. -/
import Derived.Test.YtdbpgfbbkejljaaCover3
namespace Go.Proofs.Ytdbpgfbbkejljaa
open Go.RowKit
set_option linter.unusedVariables false
def ints (l : List Nat) : List Int := l.map fun (n : Nat) => (n : Int)
theorem ints_len (l : List Nat) : (ints l).length = l.length := by simp [ints]
theorem ints_at {l : List Nat} {k : Nat} (h : k < (ints l).length) (h2 : k < l.length) : (ints l)[k] = ((l[k] : Nat) : Int) := by simp [ints]
theorem ints_snoc (l : List Nat) (k : Nat) : ints (l ++ [k]) = ints l ++ [(k : Int)] := by simp [ints]
def rivalsOf (p : Int) (ms : List Int) (xs : List DutyD) : List Nat := if (dutiesOk xs && tableOk p ms) = true then bestR (bothD p ms xs) xs.length (2 ^ xs.length) else []
theorem rivalsOf_len (p : Int) (ms : List Int) (xs : List DutyD) : (ints (rivalsOf p ms xs)).length ≤ 12 := by
  rw [ints_len]
  unfold rivalsOf
  split
  · rename_i h
    simp at h
    have := dutiesOk_len h.1
    have := bestR_len (bothD p ms xs) xs.length (2 ^ xs.length)
    omega
  · simp
theorem lessL_step {a b : List Nat} {k : Nat} (ha : k < a.length) (hb : k < b.length) : lessL (a.drop k) (b.drop k) = if a[k] = b[k] then lessL (a.drop (k + 1)) (b.drop (k + 1)) else decide (a[k] < b[k]) := by
  rw [List.drop_eq_getElem_cons ha, List.drop_eq_getElem_cons hb]; rfl
theorem rivalB_zero {p : Int} {ms : List Int} {xs : List DutyD} {b : Nat} : rivalB (bothD p ms xs) (nums xs.length b) = true ↔ ∀ i, i < xs.length → b.testBit i = true → partBits p ms xs i &&& b = 0 := by
  rw [rivalB_nums (bothD_symm p ms xs)]
  constructor
  · intro h i hi h1
    apply Nat.eq_of_testBit_eq
    intro k
    rw [Nat.testBit_and, Nat.zero_testBit]
    unfold partBits
    rw [bitsOf_test]
    cases hk : b.testBit k
    · simp
    · by_cases hkn : k < xs.length
      · by_cases e : i = k
        · simp [partB, e]
        · simp [partB, h i k hi hkn e h1 hk]
      · simp [hkn]
  · intro h i k hi hk hne h1 h2
    have := congrArg (fun n => n.testBit k) (h i hi h1)
    simp only [Nat.testBit_and, Nat.zero_testBit] at this
    unfold partBits at this
    rw [bitsOf_test, h2] at this
    simpa [hk, partB, hne] using this
theorem lessL_end {a b : List Nat} {k : Nat} (ha : a.length ≤ k) : lessL (a.drop k) (b.drop k) = false := by
  rw [List.drop_eq_nil_of_le ha]; rfl
/-- the cell of a number in a row -/
theorem RdI.at {w : World} {B : Nat} {v : Value} {l : List Int} (h : RdB w B 1 encI v l) (h0 : 0 < l.length) : ∃ b o c, v = .slice (some ⟨b, o, none⟩) l.length c ∧ b < B ∧ ∀ k (hk : k < l.length), w.cell? ⟨b, o + k, none⟩ = some (.int .i64 l[k]) := by
  obtain ⟨A, c, rfl, _, _, h⟩ := h
  obtain ⟨b, o, rfl, hb, hc⟩ := h h0
  exact ⟨b, o, c, rfl, hb, fun k hk => by have := hc k l[k] (List.getElem?_eq_getElem hk) 0 _ rfl; simpa using this⟩
set_option maxRecDepth 100000 in
set_option maxHeartbeats 4000000 in
theorem l13Less_any (v1 v2 : Value) (a b : List Nat) (w : World) (hab : a.length = b.length) (h1 : RdI w v1 (ints a)) (h2 : RdI w v2 (ints b)) :
    Calls Try.prog 42 #[v1, v2] w fun e w' => e = .returned (.bool (lessL a b)) ∧ w' = w := by
  obtain ⟨A1, c1, rfl, hc1, hm1, h1⟩ := h1
  obtain ⟨A2, c2, rfl, hc2, hm2, h2⟩ := h2
  unfold maxLen at hm1 hm2
  rw [ints_len] at hc1 hc2
  simp only [ints_len] at h1 h2 ⊢
  have H1 := hide h1; have H2 := hide h2; clear h1 h2
  have HAB := hide hab; clear hab
  go_enter Try.func42, Try.ntmps42
  go_wp2
  go_loopw [9] (fun s wr => ∃ k : Nat, k ≤ a.length ∧ s = .int .i64 k ∧ Hid (lessL (a.drop k) (b.drop k) = lessL a b) ∧ wr = w) (fun s _ => a.length - (intOf s).toNat)
  case atStart => exact ⟨0, Nat.zero_le _, rfl, hide rfl, rfl⟩
  case round =>
    obtain ⟨k, hk, rfl, HN, rfl⟩ := hrel
    by_cases hlt : k < a.length
    · have hlt2 : k < b.length := by have := HAB.out; omega
      have hlt2' : (k : Int) < b.length := by omega
      obtain ⟨b1, o1, rfl, hb1, hcell1⟩ := H1.out (by omega)
      obtain ⟨b2, o2, rfl, hb2, hcell2⟩ := H2.out (by omega)
      have e0 : wr.cell? ⟨b1, o1 + k, none⟩ = some (.int .i64 (a[k] : Nat)) := by have := hcell1 k (a[k] : Nat) (by simp [ints, hlt]) 0 _ rfl; simpa using this
      have f0 : wr.cell? ⟨b2, o2 + k, none⟩ = some (.int .i64 (b[k] : Nat)) := by have := hcell2 k (b[k] : Nat) (by simp [ints, hlt2]) 0 _ rfl; simpa using this
      clear hcell1 hcell2
      have HST := hide (lessL_step hlt hlt2)
      obtain ⟨x, hx⟩ : ∃ x, a[k] = x := ⟨_, rfl⟩
      obtain ⟨y, hy⟩ : ∃ y, b[k] = y := ⟨_, rfl⟩
      rw [hx] at e0 HST; rw [hy] at f0 HST
      clear hx hy
      by_cases hxy : x = y
      · have hne : ((x : Int) != (y : Int)) = false := by simp [hxy]
        have HS2 := hide (show lessL (a.drop (k + 1)) (b.drop (k + 1)) = lessL a b by rw [← HN.out, HST.out, if_pos hxy])
        clear hxy
        go_wp2
        go_roundw
        case rel => exact ⟨k + 1, by omega, by go_num, HS2, by first | rfl | trivial⟩
        case measure => simp [intOf]; omega
      · have hne : ((x : Int) != (y : Int)) = true := by simp; omega
        have HS2 := hide (show decide (x < y) = lessL a b by rw [← HN.out, HST.out, if_neg hxy])
        clear hxy
        go_wp2
        go_ret
        exact ⟨by rw [HS2.out]; first | done | rfl, by first | rfl | trivial⟩
    · obtain rfl : k = a.length := by omega
      have HE := hide (show lessL a b = false by rw [← HN.out]; exact lessL_end (Nat.le_refl _))
      go_wp2
      go_ret
      exact ⟨by rw [HE.out]; first | done | rfl, by first | rfl | trivial⟩
set_option maxRecDepth 100000 in
set_option maxHeartbeats 4000000 in
theorem lessInts_any (v1 v2 : Value) (a b : List Nat) (w : World) (hab : a.length = b.length) (h1 : RdI w v1 (ints a)) (h2 : RdI w v2 (ints b)) :
    Calls Try.prog 45 #[v1, v2] w fun e w' => e = .returned (.bool (lessL a b)) ∧ Below w.heap.size w w' := by
  obtain ⟨A1, c1, rfl, hc1, hm1, h1⟩ := h1
  obtain ⟨A2, c2, rfl, hc2, hm2, h2⟩ := h2
  unfold maxLen at hm1 hm2
  rw [ints_len] at hc1 hc2
  simp only [ints_len] at h1 h2 ⊢
  have H1 := hide h1; have H2 := hide h2; clear h1 h2
  have HAB := hide hab; clear hab
  go_enter Try.func45, Try.ntmps45
  have hle1 : (a.length : Int) ≤ b.length := by have := HAB.out; omega
  have hle2 : (b.length : Int) ≤ a.length := by have := HAB.out; omega
  have hnl : ¬ (b.length : Int) < a.length := by omega
  have hnl2 : ¬ (a.length : Int) < b.length := by omega
  go_wp2
  go_loopw [11] (fun s wr => ∃ k : Nat, k ≤ a.length ∧ s = .int .i64 k ∧ Hid (lessL (a.drop k) (b.drop k) = lessL a b) ∧ Below w.heap.size w wr) (fun s _ => a.length - (intOf s).toNat)
  case atStart => exact ⟨0, Nat.zero_le _, rfl, hide rfl, Below.refl _ _⟩
  case round =>
    obtain ⟨k, hk, rfl, HN, hbk⟩ := hrel
    have hbs := hbk.size
    by_cases hlt : k < a.length
    · have hlt2 : k < b.length := by have := HAB.out; omega
      have hlt2' : (k : Int) < b.length := by omega
      obtain ⟨b1, o1, rfl, hb1, hcell1⟩ := H1.out (by omega)
      obtain ⟨b2, o2, rfl, hb2, hcell2⟩ := H2.out (by omega)
      have e0 : wr.cell? ⟨b1, o1 + k, none⟩ = some (.int .i64 (a[k] : Nat)) := by rw [hbk.cell (p := ⟨b1, _, none⟩) hb1]; have := hcell1 k (a[k] : Nat) (by simp [ints, hlt]) 0 _ rfl; simpa using this
      have f0 : wr.cell? ⟨b2, o2 + k, none⟩ = some (.int .i64 (b[k] : Nat)) := by rw [hbk.cell (p := ⟨b2, _, none⟩) hb2]; have := hcell2 k (b[k] : Nat) (by simp [ints, hlt2]) 0 _ rfl; simpa using this
      clear hcell1 hcell2
      have HST := hide (lessL_step hlt hlt2)
      obtain ⟨x, hx⟩ : ∃ x, a[k] = x := ⟨_, rfl⟩
      obtain ⟨y, hy⟩ : ∃ y, b[k] = y := ⟨_, rfl⟩
      rw [hx] at e0 HST; rw [hy] at f0 HST
      clear hx hy
      by_cases hxy : x = y
      · have hne : ((x : Int) != (y : Int)) = false := by simp [hxy]
        have HS2 := hide (show lessL (a.drop (k + 1)) (b.drop (k + 1)) = lessL a b by rw [← HN.out, HST.out, if_pos hxy])
        clear hxy
        go_wp2
        go_quiet (fail)
        go_wp2
        go_roundw
        case rel => exact ⟨k + 1, by omega, by go_num, HS2, (by repeat (first | exact Below.refl _ _ | assumption | refine Below.setCell ?_ (by first | omega | (simp <;> omega)) _ | refine Below.alloc ?_ (by first | omega | (simp <;> omega)) _ | refine below_drewN ?_ _ | refine Below.drew ?_ | refine Below.trans ?_ (Below.mono (by assumption) (by first | omega | (simp <;> omega)))))⟩
        case measure => simp [intOf]; omega
      · have hne : ((x : Int) != (y : Int)) = true := by simp; omega
        have HS2 := hide (show decide (x < y) = lessL a b by rw [← HN.out, HST.out, if_neg hxy])
        clear hxy
        go_wp2
        go_quiet (fail)
        go_wp2
        go_quiet (fail)
        go_wp2
        go_ret
        exact ⟨by rw [← HS2.out]; first | done | rfl | simp, (by repeat (first | exact Below.refl _ _ | assumption | refine Below.setCell ?_ (by first | omega | (simp <;> omega)) _ | refine Below.alloc ?_ (by first | omega | (simp <;> omega)) _ | refine below_drewN ?_ _ | refine Below.drew ?_ | refine Below.trans ?_ (Below.mono (by assumption) (by first | omega | (simp <;> omega)))))⟩
    · obtain rfl : k = a.length := by omega
      have HE := hide (show lessL a b = false by rw [← HN.out]; exact lessL_end (Nat.le_refl _))
      have hde : decide ((a.length : Int) < (b.length : Int)) = false := by simp; omega
      have hde2 : decide (a.length < b.length) = false := by simp; omega
      go_wp2
      go_ret
      exact ⟨by rw [HE.out]; first | done | rfl | simp [hde2], hbk⟩
set_option maxRecDepth 100000 in
set_option maxHeartbeats 4000000 in
theorem l13Rivals_any (p : Int) (ms : List Int) (xs : List DutyD) (v1 v2 : Value) (s : List Nat) (w : World) (hs : ∀ x ∈ s, x < xs.length) (h12 : xs.length ≤ 12) (h1 : RdM w w.heap.size v1 (bothM p ms xs)) (h2 : RdI w v2 (ints s)) :
    Calls Try.prog 43 #[v1, v2] w fun e w' => e = .returned (.bool (rivalB (bothD p ms xs) s)) ∧ w' = w := by
  have HM := hide h1
  obtain ⟨Am, cm, rfl⟩ := h1.slice
  clear h1
  obtain ⟨A2, c2, rfl, hc2, hm2, h2⟩ := h2
  unfold maxLen at hm2
  rw [ints_len] at hc2
  simp only [ints_len] at h2 ⊢
  have H2 := hide h2; clear h2
  have HS := hide hs; clear hs
  have HP := hide (show rivalB (bothD p ms xs) s = allUpTo (fun i => allUpTo (fun j => !bothD p ms xs (s.getD i 0) (s.getD j 0)) i) s.length from rfl)
  go_enter Try.func43, Try.ntmps43
  go_wp2
  go_loopw [11] (fun t wr => ∃ i : Nat, i ≤ s.length ∧ t = .int .i64 i ∧ Hid (allUpTo (fun i => allUpTo (fun j => !bothD p ms xs (s.getD i 0) (s.getD j 0)) i) i = true) ∧ wr = w) (fun t _ => s.length - (intOf t).toNat)
  case atStart => exact ⟨0, Nat.zero_le _, rfl, hide rfl, rfl⟩
  case round =>
    obtain ⟨i, hi, rfl, HN, rfl⟩ := hrel
    by_cases hlt : i < s.length
    · obtain ⟨b2, o2, rfl, hb2, hcell2⟩ := H2.out (by omega)
      have e0 : wr.cell? ⟨b2, o2 + i, none⟩ = some (.int .i64 (s[i] : Nat)) := by have := hcell2 i (s[i] : Nat) (by simp [ints, hlt]) 0 _ rfl; simpa using this
      have hx := HS.out s[i] (List.getElem_mem hlt)
      have HX := hide (show s.getD i 0 = s[i] by simp [List.getD, hlt])
      obtain ⟨x, hxe⟩ : ∃ x, s[i] = x := ⟨_, rfl⟩
      rw [hxe] at e0 hx HX
      have HC2 := hide hcell2
      clear hcell2 hxe
      obtain ⟨bm, om, cm', hvm, hbm, hcm⟩ := HM.out.cells (by omega)
      injection hvm with hA _ hc'
      subst hA hc'
      obtain ⟨br, or', cr, hrow, hbr, hcr⟩ := hcm x hx
      have HCR := hide hcr; clear hcm hcr
      have hx' : (x : Int) < xs.length := by omega
      go_wp2
      go_loopw [20] (fun t wr2 => ∃ j : Nat, j ≤ i ∧ t = .int .i64 j ∧ Hid (allUpTo (fun j => !bothD p ms xs (s.getD i 0) (s.getD j 0)) j = true) ∧ wr2 = wr) (fun t _ => i - (intOf t).toNat)
      case atStart => exact ⟨0, Nat.zero_le _, rfl, hide rfl, rfl⟩
      case round =>
        obtain ⟨j, hj, rfl, HJ, rfl⟩ := hrel
        by_cases hlt2 : j < i
        · have hjs : j < s.length := by omega
          have f0 : wr.cell? ⟨b2, o2 + j, none⟩ = some (.int .i64 (s[j] : Nat)) := by have := HC2.out j (s[j] : Nat) (by simp [ints, hjs]) 0 _ rfl; simpa using this
          have hy := HS.out s[j] (List.getElem_mem hjs)
          have HY := hide (show s.getD j 0 = s[j] by simp [List.getD, hjs])
          obtain ⟨y, hye⟩ : ∃ y, s[j] = y := ⟨_, rfl⟩
          rw [hye] at f0 hy HY
          clear hye
          have hy' : (y : Int) < xs.length := by omega
          have q0 := HCR.out y hy
          rcases ch1 (bothD p ms xs x y) with gb | gb
          · have HF := hide (show rivalB (bothD p ms xs) s = false by rw [HP.out]; exact allUpTo_bad hlt (allUpTo_bad hlt2 (by rw [HX.out, HY.out, gb]; rfl)))
            rw [gb] at q0
            clear gb
            go_wp2
            go_ret
            exact ⟨by rw [HF.out]; first | done | rfl, by first | rfl | trivial⟩
          · have HG := hide (show (!bothD p ms xs (s.getD i 0) (s.getD j 0)) = true by rw [HX.out, HY.out, gb]; rfl)
            rw [gb] at q0
            clear gb
            go_wp2
            go_roundw
            case rel => exact ⟨j + 1, by omega, by go_num, hide (allUpTo_succ HJ.out HG.out), by first | rfl | trivial⟩
            case measure => simp [intOf]; omega
        · obtain rfl : j = i := by omega
          go_wp2
          go_roundw
          case rel => exact ⟨j + 1, by omega, by go_num, hide (allUpTo_succ HN.out HJ.out), by first | rfl | trivial⟩
          case measure => simp [intOf]; omega
    · obtain rfl : i = s.length := by omega
      have HE := hide (show rivalB (bothD p ms xs) s = true by rw [HP.out]; exact HN.out)
      go_wp2
      go_ret
      exact ⟨by rw [HE.out]; first | done | rfl, by first | rfl | trivial⟩
set_option maxRecDepth 100000 in
set_option maxHeartbeats 16000000 in
theorem spec_RivalDuties_any (p : Int) (v1 v2 : Value) (ms : List Int) (xs : List DutyD) (w : World) (h1 : RdI w v1 ms) (h2 : RdDuty w v2 xs) :
    Calls Try.prog 24 #[.int .i64 p, v1, v2] w fun e w' => ∃ v, e = .returned v ∧ Own w' w.heap.size 3 1 encI v (ints (rivalsOf p ms xs)) ∧ Below w.heap.size w w' := by
  have HR1 := hide h1; have HR2 := hide h2
  obtain ⟨A1, c1, rfl, hc1, hm1, h1⟩ := h1
  obtain ⟨A2, c2, rfl, hc2, hm2, h2⟩ := h2
  unfold maxLen at hm1 hm2
  clear h1 h2
  obtain ⟨i0, hi, hz0, hz1, hz2⟩ := info_parts int_info
  rcases ch2 (dutiesOk xs) (tableOk p ms) with ⟨g1, g2⟩ | g1 | ⟨g1, g2⟩
  · have h12 := dutiesOk_len g1
    have HV := hide (show rivalsOf p ms xs = bestR (bothD p ms xs) xs.length (2 ^ xs.length) by unfold rivalsOf; rw [g1, g2]; rfl)
    have hNlt : 2 ^ xs.length ≤ 4096 := Nat.pow_le_pow_right (n := 2) (by omega) h12
    have hNw := wrap_i64 (2 ^ xs.length) (by omega)
    rw [← two_pow_cast] at hNw
    obtain ⟨N, hN⟩ : ∃ N, 2 ^ xs.length = N := ⟨_, rfl⟩
    have hNw2 : IntKind.i64.wrap ((2 : Int) ^ xs.length) = (N : Int) := by rw [hNw, two_pow_cast, hN]
    rw [hN] at hNlt
    have HVN := hide hN
    clear hNw hN
    go_enter Try.func24, Try.ntmps24
    go_wp2_with (first
      | (go_at_call 11; with_reducible refine (spec_DutiesOk_any _ xs _ ((RdB.keep HR2.out (B' := w.heap.size) (by repeat (first | exact Below.refl _ _ | assumption | refine Below.setCell ?_ (by first | omega | (simp <;> omega)) _ | refine Below.alloc ?_ (by first | omega | (simp <;> omega)) _ | refine below_drewN ?_ _ | refine Below.drew ?_ | refine Below.trans ?_ (Below.mono (by assumption) (by first | omega | (simp <;> omega))))) (Nat.le_refl _)).mono (by first | omega | (simp <;> omega)))).mono ?_; rintro e w1 ⟨rfl, hb'⟩; (first | have hb := bnext hb hb' | have hb := bnextA hb hb' | have hb := hb'); clear hb'; obtain ⟨hc, hf⟩ := bcell hb; have hz := hb.size; (try simp at hz))
      | (go_at_call 36; with_reducible refine (l13Table_any _ _ ms _ ((RdB.keep HR1.out (B' := w.heap.size) (by repeat (first | exact Below.refl _ _ | assumption | refine Below.setCell ?_ (by first | omega | (simp <;> omega)) _ | refine Below.alloc ?_ (by first | omega | (simp <;> omega)) _ | refine below_drewN ?_ _ | refine Below.drew ?_ | refine Below.trans ?_ (Below.mono (by assumption) (by first | omega | (simp <;> omega))))) (Nat.le_refl _)).mono (by first | omega | (simp <;> omega)))).mono ?_; rintro e w1 ⟨rfl, hb'⟩; (first | have hb := bnext hb hb' | have hb := bnextA hb hb' | have hb := hb'); clear hb'; obtain ⟨hc, hf⟩ := bcell hb; have hz := hb.size; (try simp at hz))
      | (go_at_call 40; with_reducible refine (l13Both_any p _ _ ms xs _ ((RdB.keep HR1.out (B' := w.heap.size) (by repeat (first | exact Below.refl _ _ | assumption | refine Below.setCell ?_ (by first | omega | (simp <;> omega)) _ | refine Below.alloc ?_ (by first | omega | (simp <;> omega)) _ | refine below_drewN ?_ _ | refine Below.drew ?_ | refine Below.trans ?_ (Below.mono (by assumption) (by first | omega | (simp <;> omega))))) (Nat.le_refl _)).mono (by first | omega | (simp <;> omega))) ((RdB.keep HR2.out (B' := w.heap.size) (by repeat (first | exact Below.refl _ _ | assumption | refine Below.setCell ?_ (by first | omega | (simp <;> omega)) _ | refine Below.alloc ?_ (by first | omega | (simp <;> omega)) _ | refine below_drewN ?_ _ | refine Below.drew ?_ | refine Below.trans ?_ (Below.mono (by assumption) (by first | omega | (simp <;> omega))))) (Nat.le_refl _)).mono (by first | omega | (simp <;> omega))) h12).mono ?_; rintro e w1 ⟨vm, rfl, hM, hb'⟩; (first | have hb := bnext hb hb' | have hb := bnextA hb hb' | have hb := hb'); clear hb'; obtain ⟨hc, hf⟩ := bcell hb; have hz := hb.size; (try simp at hz)))
    clear hc hf hz
    have hbs := hb.size
    have hou0 := own_built0 (enc := encI) w1 3 1
    have hb0 : Below w1.heap.size w1 (w1.alloc (.cells #[] 3)) := (Below.refl _ _).alloc (Nat.le_refl _) _
    have HM := hide hM
    clear hM g1 g2
    go_loopw [8, 9] (fun bv s wr => ∃ B : Nat, B ≤ N ∧ s = .int .i64 B ∧ Hid (Own wr w1.heap.size 3 1 encI bv (ints (bestR (bothD p ms xs) xs.length B))) ∧ Below w1.heap.size w1 wr) (fun _ s _ => N - (intOf s).toNat)
    case atStart => exact ⟨0, Nat.zero_le _, rfl, hide hou0, hb0⟩
    case round =>
      clear hou0 hb0
      obtain ⟨B, hB, rfl, HO, hbk⟩ := hrel
      rename_i bv wr
      obtain ⟨wo, rfl⟩ : ∃ wo : World, wo = wr := ⟨_, rfl⟩
      have hbk1 := hbk.size
      have hBt : B < 4611686018427387904 := by omega
      by_cases hlt : B < N
      · go_wp2
        have hs0 := own_built0 (enc := encI) wo 3 1
        have hb1 : Below wo.heap.size wo (wo.alloc (.cells #[] 3)) := (Below.refl _ _).alloc (Nat.le_refl _) _
        go_loopw [10, 36] (fun sv s wr2 => ∃ i : Nat, i ≤ xs.length ∧ s = .int .i64 i ∧ Hid (Own wr2 wo.heap.size 3 1 encI sv (ints (nums i B))) ∧ Below wo.heap.size wo wr2) (fun _ s _ => xs.length - (intOf s).toNat)
        case atStart => exact ⟨0, Nat.zero_le _, rfl, hide hs0, hb1⟩
        case round =>
          clear hs0 hb1
          rename_i sv wr2
          obtain ⟨i, hin, rfl, HS, hb2⟩ := hrel
          have hb2s := hb2.size
          have hbt := bit_i64 B i hBt
          have hiw : IntKind.i64.wrap ((i : Nat) : Int) = i := IntWalk.i64_in _ (by omega)
          by_cases hlt2 : i < xs.length
          · have hlen := nums_len i B
            rcases ch1 (B.testBit i) with gb | gb
            · have HT := hide (show ints (nums (i + 1) B) = ints (nums i B) ++ [(i : Int)] by rw [nums_succ, if_pos gb, ints_snoc])
              rw [if_pos gb] at hbt
              clear gb
              go_wp2_with (at_builtin; refine wpList_append_rd _ encI_len encI_one (by rfl) _ _ 29 (by rfl) wo.heap.size 3 i0 (.int .i64 0) 8 Try.underlying29 hi hz0 hz1 hz2 rfl (by decide) _ _ (by rfl) (HS.out.below ((Below.refl _ _).alloc (Nat.le_refl _) _)) _ _ [(i : Int)] (by rfl) (rd_new (enc := encI) _ (i : Int) _) (by have := ints_len (nums i B); unfold maxLen; simp; omega) (by have := ints_len (nums i B); simp; omega) (by simp; omega) ?_; intro r9 w9 hown9 hgrow9 hblk9)
              have hb9 := (hb2.trans (((Below.refl _ _).alloc (Nat.le_refl _) _).mono hb2s)).trans (Own.belowGrown (B := wo.heap.size) (HS.out.below ((Below.refl _ _).alloc (Nat.le_refl _) _)) hgrow9 (Nat.le_refl _) (by simp; omega))
              go_roundw
              case rel => exact ⟨i + 1, by omega, by go_num, hide (by rw [HT.out]; exact hown9), hb9⟩
              case measure => simp [intOf]; omega
            · have HT := hide (show nums (i + 1) B = nums i B by rw [nums_succ, if_neg (by simp [gb]), List.append_nil])
              rw [if_neg (by simp [gb])] at hbt
              clear gb
              go_wp2
              go_roundw
              case rel => exact ⟨i + 1, by omega, by go_num, hide (by rw [HT.out]; exact HS.out), hb2⟩
              case measure => simp [intOf]; omega
          · obtain rfl : i = xs.length := by omega
            have HNX := hide (show ∀ j ∈ nums xs.length B, j < xs.length from fun j hj => (mem_nums.1 hj).1)
            
            have HB1 := hide (show bestR (bothD p ms xs) xs.length (B + 1) = if rivalB (bothD p ms xs) (nums xs.length B) = true ∧ ((bestR (bothD p ms xs) xs.length B).length < (nums xs.length B).length ∨ (nums xs.length B).length = (bestR (bothD p ms xs) xs.length B).length ∧ lessL (nums xs.length B) (bestR (bothD p ms xs) xs.length B) = true) then nums xs.length B else bestR (bothD p ms xs) xs.length B from rfl)
            obtain ⟨bb, hbb⟩ : ∃ bb, bestR (bothD p ms xs) xs.length B = bb := ⟨_, rfl⟩
            obtain ⟨ss, hss⟩ : ∃ ss, nums xs.length B = ss := ⟨_, rfl⟩
            rw [hbb] at HO HB1
            rw [hss] at HS HB1 HNX
            clear hbb hss hbt hiw
            obtain ⟨Ab, cb, rfl, hcb, hmb, -⟩ := Own.rd encI_len HO.out
            obtain ⟨As, cs, rfl, hcs, hms, -⟩ := Own.rd encI_len HS.out
            have HRB := hide (Own.rd encI_len (HO.out.below hb2))
            have HRS := hide (Own.rd encI_len HS.out)
            unfold maxLen at hmb hms
            simp only [ints_len] at HO HS HRB HRS hcb hmb hcs hms ⊢
            have hend := bnext hbk hb2 (Nat.le_refl _)
            have HMW := hide ((HM.out.below hend).mono hend.size)
            rcases Nat.lt_trichotomy ss.length bb.length with hcmp | heq | hcmp
            · have hq1 : (ss.length : Int) < bb.length := by omega
              have HB2 := hide (show bestR (bothD p ms xs) xs.length (B + 1) = bb by rw [HB1.out, if_neg]; intro h; rcases h.2 with h | h <;> omega)
              go_wp2
              go_roundw
              case rel => exact ⟨B + 1, by omega, by go_num, hide (by rw [HB2.out]; exact HO.out.below hb2), hend⟩
              case measure => simp [intOf]; omega
            · have hq1 : ¬ (ss.length : Int) < bb.length := by omega
              have hq2 : ((ss.length : Int) == (bb.length : Int)) = true := by simp; omega
              have HEQ := hide heq; clear heq
              rcases ch1 (lessL ss bb) with gl | gl
              · rcases ch1 (rivalB (bothD p ms xs) ss) with gr | gr
                · have HB2 := hide (show bestR (bothD p ms xs) xs.length (B + 1) = ss by rw [HB1.out, if_pos ⟨gr, .inr ⟨HEQ.out, gl⟩⟩])
                  go_wp2_with (first | (go_at_call 42; with_reducible refine (l13Less_any _ _ ss bb _ HEQ.out HRS.out HRB.out).mono ?_; rintro e w' ⟨rfl, hw⟩; obtain rfl := hw.symm) | (go_at_call 43; with_reducible refine (l13Rivals_any p ms xs _ _ ss _ HNX.out h12 HMW.out HRS.out).mono ?_; rintro e w' ⟨rfl, hw⟩; obtain rfl := hw.symm))
                  go_roundw
                  case rel => exact ⟨B + 1, by omega, by go_num, hide (by rw [HB2.out]; exact HS.out.mono hbk1), hend⟩
                  case measure => simp [intOf]; omega
                · have HB2 := hide (show bestR (bothD p ms xs) xs.length (B + 1) = bb by rw [HB1.out, if_neg]; intro h; rw [gr] at h; exact absurd h.1 (by simp))
                  go_wp2_with (first | (go_at_call 42; with_reducible refine (l13Less_any _ _ ss bb _ HEQ.out HRS.out HRB.out).mono ?_; rintro e w' ⟨rfl, hw⟩; obtain rfl := hw.symm) | (go_at_call 43; with_reducible refine (l13Rivals_any p ms xs _ _ ss _ HNX.out h12 HMW.out HRS.out).mono ?_; rintro e w' ⟨rfl, hw⟩; obtain rfl := hw.symm))
                  go_roundw
                  case rel => exact ⟨B + 1, by omega, by go_num, hide (by rw [HB2.out]; exact HO.out.below hb2), hend⟩
                  case measure => simp [intOf]; omega
              · have HB2 := hide (show bestR (bothD p ms xs) xs.length (B + 1) = bb by rw [HB1.out, if_neg]; intro h; rw [gl] at h; rcases h.2 with h | h; (have := HEQ.out; omega); exact absurd h.2 (by simp))
                go_wp2_with (first | (go_at_call 42; with_reducible refine (l13Less_any _ _ ss bb _ HEQ.out HRS.out HRB.out).mono ?_; rintro e w' ⟨rfl, hw⟩; obtain rfl := hw.symm) | (go_at_call 43; with_reducible refine (l13Rivals_any p ms xs _ _ ss _ HNX.out h12 HMW.out HRS.out).mono ?_; rintro e w' ⟨rfl, hw⟩; obtain rfl := hw.symm))
                go_roundw
                case rel => exact ⟨B + 1, by omega, by go_num, hide (by rw [HB2.out]; exact HO.out.below hb2), hend⟩
                case measure => simp [intOf]; omega
            · have hq1 : ¬ (ss.length : Int) < bb.length := by omega
              have hq2 : ((ss.length : Int) == (bb.length : Int)) = false := by simp; omega
              rcases ch1 (rivalB (bothD p ms xs) ss) with gr | gr
              · have HB2 := hide (show bestR (bothD p ms xs) xs.length (B + 1) = ss by rw [HB1.out, if_pos ⟨gr, .inl hcmp⟩])
                go_wp2_with (go_at_call 43; with_reducible refine (l13Rivals_any p ms xs _ _ ss _ HNX.out h12 HMW.out HRS.out).mono ?_; rintro e w' ⟨rfl, hw⟩; obtain rfl := hw.symm)
                go_roundw
                case rel => exact ⟨B + 1, by omega, by go_num, hide (by rw [HB2.out]; exact HS.out.mono hbk1), hend⟩
                case measure => simp [intOf]; omega
              · have HB2 := hide (show bestR (bothD p ms xs) xs.length (B + 1) = bb by rw [HB1.out, if_neg]; intro h; rw [gr] at h; exact absurd h.1 (by simp))
                go_wp2_with (go_at_call 43; with_reducible refine (l13Rivals_any p ms xs _ _ ss _ HNX.out h12 HMW.out HRS.out).mono ?_; rintro e w' ⟨rfl, hw⟩; obtain rfl := hw.symm)
                go_roundw
                case rel => exact ⟨B + 1, by omega, by go_num, hide (by rw [HB2.out]; exact HO.out.below hb2), hend⟩
                case measure => simp [intOf]; omega
      · obtain rfl : B = N := by omega
        have HE := hide (show rivalsOf p ms xs = bestR (bothD p ms xs) xs.length B by rw [HV.out, HVN.out])
        go_wp2
        go_ret
        exact ⟨_, rfl, by rw [HE.out]; exact HO.out.mono hbs, bnext hb hbk (Nat.le_refl _)⟩
  all_goals
    have HF := hide (show rivalsOf p ms xs = [] by unfold rivalsOf; simp [*])
    go_enter Try.func24, Try.ntmps24
    go_wp2_with (first
      | (go_at_call 11; with_reducible refine (spec_DutiesOk_any _ xs _ ((RdB.keep HR2.out (B' := w.heap.size) (by repeat (first | exact Below.refl _ _ | assumption | refine Below.setCell ?_ (by first | omega | (simp <;> omega)) _ | refine Below.alloc ?_ (by first | omega | (simp <;> omega)) _ | refine below_drewN ?_ _ | refine Below.drew ?_ | refine Below.trans ?_ (Below.mono (by assumption) (by first | omega | (simp <;> omega))))) (Nat.le_refl _)).mono (by first | omega | (simp <;> omega)))).mono ?_; rintro e w1 ⟨rfl, hb'⟩; (first | have hb := bnext hb hb' | have hb := bnextA hb hb' | have hb := hb'); clear hb'; obtain ⟨hc, hf⟩ := bcell hb; have hz := hb.size; (try simp at hz))
      | (go_at_call 36; with_reducible refine (l13Table_any _ _ ms _ ((RdB.keep HR1.out (B' := w.heap.size) (by repeat (first | exact Below.refl _ _ | assumption | refine Below.setCell ?_ (by first | omega | (simp <;> omega)) _ | refine Below.alloc ?_ (by first | omega | (simp <;> omega)) _ | refine below_drewN ?_ _ | refine Below.drew ?_ | refine Below.trans ?_ (Below.mono (by assumption) (by first | omega | (simp <;> omega))))) (Nat.le_refl _)).mono (by first | omega | (simp <;> omega)))).mono ?_; rintro e w1 ⟨rfl, hb'⟩; (first | have hb := bnext hb hb' | have hb := bnextA hb hb' | have hb := hb'); clear hb'; obtain ⟨hc, hf⟩ := bcell hb; have hz := hb.size; (try simp at hz))
      | (go_at_call 40; with_reducible refine (l13Both_any p _ _ ms xs _ ((RdB.keep HR1.out (B' := w.heap.size) (by repeat (first | exact Below.refl _ _ | assumption | refine Below.setCell ?_ (by first | omega | (simp <;> omega)) _ | refine Below.alloc ?_ (by first | omega | (simp <;> omega)) _ | refine below_drewN ?_ _ | refine Below.drew ?_ | refine Below.trans ?_ (Below.mono (by assumption) (by first | omega | (simp <;> omega))))) (Nat.le_refl _)).mono (by first | omega | (simp <;> omega))) ((RdB.keep HR2.out (B' := w.heap.size) (by repeat (first | exact Below.refl _ _ | assumption | refine Below.setCell ?_ (by first | omega | (simp <;> omega)) _ | refine Below.alloc ?_ (by first | omega | (simp <;> omega)) _ | refine below_drewN ?_ _ | refine Below.drew ?_ | refine Below.trans ?_ (Below.mono (by assumption) (by first | omega | (simp <;> omega))))) (Nat.le_refl _)).mono (by first | omega | (simp <;> omega))) h12).mono ?_; rintro e w1 ⟨vm, rfl, hM, hb'⟩; (first | have hb := bnext hb hb' | have hb := bnextA hb hb' | have hb := hb'); clear hb'; obtain ⟨hc, hf⟩ := bcell hb; have hz := hb.size; (try simp at hz)))
    go_ret
    exact ⟨_, rfl, by rw [HF.out]; exact Own.nil_, (by repeat (first | exact Below.refl _ _ | assumption | refine Below.setCell ?_ (by first | omega | (simp <;> omega)) _ | refine Below.alloc ?_ (by first | omega | (simp <;> omega)) _ | refine below_drewN ?_ _ | refine Below.drew ?_ | refine Below.trans ?_ (Below.mono (by assumption) (by first | omega | (simp <;> omega)))))⟩
set_option maxHeartbeats 4000000 in
theorem coverable_any (p : Int) (v1 v2 : Value) (ms : List Int) (xs : List DutyD) (w : World) (h1 : RdI w v1 ms) (h2 : RdDuty w v2 xs) :
    Calls Try.prog 44 #[.int .i64 p, v1, v2] w fun e w' => e = .returned (.bool (dutiesOk xs && tableOk p ms)) ∧ Below w.heap.size w w' := by
  have HR1 := hide h1; have HR2 := hide h2
  obtain ⟨A1, c1, rfl, hc1, hm1, h1⟩ := h1
  obtain ⟨A2, c2, rfl, hc2, hm2, h2⟩ := h2
  clear h1 h2
  have HV := hide (show (dutiesOk xs && tableOk p ms) = (dutiesOk xs && (inB p 0 2880 && movesOk ms)) from rfl)
  rcases ch3 (dutiesOk xs) (inB p 0 2880) (movesOk ms) with ⟨g1, g2, g3⟩ | g1 | ⟨g1, g2⟩ | ⟨g1, g2, g3⟩
  all_goals
    go_enter Try.func44, Try.ntmps44
    go_wp2_with (first
      | (go_at_call 13; with_reducible refine (impl_DutiesOk_any _ xs _ ((RdB.keep HR2.out (B' := w.heap.size) (by repeat (first | exact Below.refl _ _ | assumption | refine Below.setCell ?_ (by first | omega | (simp <;> omega)) _ | refine Below.alloc ?_ (by first | omega | (simp <;> omega)) _ | refine below_drewN ?_ _ | refine Below.drew ?_ | refine Below.trans ?_ (Below.mono (by assumption) (by first | omega | (simp <;> omega))))) (Nat.le_refl _)).mono (by first | omega | (simp <;> omega)))).mono ?_; rintro e w1 ⟨rfl, hb'⟩; (first | have hb := bnext hb hb' | have hb := bnextA hb hb' | have hb := hb'); clear hb'; obtain ⟨hc, hf⟩ := bcell hb; have hz := hb.size; (try simp at hz))
      | (go_at_call 38; with_reducible refine (isMinute_any _ _).mono ?_; rintro e w1 ⟨rfl, hw⟩; obtain rfl := hw.symm)
      | (go_at_call 39; with_reducible refine (movesOk_any _ ms _ ((RdB.keep HR1.out (B' := w.heap.size) (by repeat (first | exact Below.refl _ _ | assumption | refine Below.setCell ?_ (by first | omega | (simp <;> omega)) _ | refine Below.alloc ?_ (by first | omega | (simp <;> omega)) _ | refine below_drewN ?_ _ | refine Below.drew ?_ | refine Below.trans ?_ (Below.mono (by assumption) (by first | omega | (simp <;> omega))))) (Nat.le_refl _)).mono (by first | omega | (simp <;> omega)))).mono ?_; rintro e w1 ⟨rfl, hb'⟩; (first | have hb := bnext hb hb' | have hb := bnextA hb hb' | have hb := hb'); clear hb'; obtain ⟨hc, hf⟩ := bcell hb; have hz := hb.size; (try simp at hz)))
    go_ret
    exact ⟨by rw [HV.out]; simp [*], (by repeat (first | exact Below.refl _ _ | assumption | refine Below.setCell ?_ (by first | omega | (simp <;> omega)) _ | refine Below.alloc ?_ (by first | omega | (simp <;> omega)) _ | refine below_drewN ?_ _ | refine Below.drew ?_ | refine Below.trans ?_ (Below.mono (by assumption) (by first | omega | (simp <;> omega)))))⟩
set_option maxRecDepth 100000 in
set_option maxHeartbeats 16000000 in
theorem impl_RivalDuties_any (p : Int) (v1 v2 : Value) (ms : List Int) (xs : List DutyD) (w : World) (h1 : RdI w v1 ms) (h2 : RdDuty w v2 xs) :
    Calls Try.prog 25 #[.int .i64 p, v1, v2] w fun e w' => ∃ v, e = .returned v ∧ Own w' w.heap.size 3 1 encI v (ints (rivalsOf p ms xs)) ∧ Below w.heap.size w w' := by
  have HR1 := hide h1; have HR2 := hide h2
  obtain ⟨A1, c1, rfl, hc1, hm1, h1⟩ := h1
  obtain ⟨A2, c2, rfl, hc2, hm2, h2⟩ := h2
  unfold maxLen at hm1 hm2
  clear h1 h2
  obtain ⟨i0, hi, hz0, hz1, hz2⟩ := info_parts int_info
  rcases ch2 (dutiesOk xs) (tableOk p ms) with ⟨g1, g2⟩ | g1 | ⟨g1, g2⟩
  · have h12 := dutiesOk_len g1
    have HV := hide (show rivalsOf p ms xs = bestR (bothD p ms xs) xs.length (2 ^ xs.length) by unfold rivalsOf; rw [g1, g2]; rfl)
    have hNlt : 2 ^ xs.length ≤ 4096 := Nat.pow_le_pow_right (n := 2) (by omega) h12
    have hNw := wrap_i64 (2 ^ xs.length) (by omega)
    rw [← two_pow_cast] at hNw
    obtain ⟨N, hN⟩ : ∃ N, 2 ^ xs.length = N := ⟨_, rfl⟩
    have hNw2 : IntKind.i64.wrap ((2 : Int) ^ xs.length) = (N : Int) := by rw [hNw, two_pow_cast, hN]
    rw [hN] at hNlt
    have HVN := hide hN
    clear hNw hN
    go_enter Try.func25, Try.ntmps25
    go_wp2_with (first
      | (go_at_call 44; with_reducible refine (coverable_any p _ _ ms xs _ ((RdB.keep HR1.out (B' := w.heap.size) (by repeat (first | exact Below.refl _ _ | assumption | refine Below.setCell ?_ (by first | omega | (simp <;> omega)) _ | refine Below.alloc ?_ (by first | omega | (simp <;> omega)) _ | refine below_drewN ?_ _ | refine Below.drew ?_ | refine Below.trans ?_ (Below.mono (by assumption) (by first | omega | (simp <;> omega))))) (Nat.le_refl _)).mono (by first | omega | (simp <;> omega))) ((RdB.keep HR2.out (B' := w.heap.size) (by repeat (first | exact Below.refl _ _ | assumption | refine Below.setCell ?_ (by first | omega | (simp <;> omega)) _ | refine Below.alloc ?_ (by first | omega | (simp <;> omega)) _ | refine below_drewN ?_ _ | refine Below.drew ?_ | refine Below.trans ?_ (Below.mono (by assumption) (by first | omega | (simp <;> omega))))) (Nat.le_refl _)).mono (by first | omega | (simp <;> omega)))).mono ?_; rintro e w1 ⟨rfl, hb'⟩; (first | have hb := bnext hb hb' | have hb := bnextA hb hb' | have hb := hb'); clear hb'; obtain ⟨hc, hf⟩ := bcell hb; have hz := hb.size; (try simp at hz))
      | (go_at_call 41; with_reducible refine (partners_any p _ _ ms xs _ ((RdB.keep HR1.out (B' := w.heap.size) (by repeat (first | exact Below.refl _ _ | assumption | refine Below.setCell ?_ (by first | omega | (simp <;> omega)) _ | refine Below.alloc ?_ (by first | omega | (simp <;> omega)) _ | refine below_drewN ?_ _ | refine Below.drew ?_ | refine Below.trans ?_ (Below.mono (by assumption) (by first | omega | (simp <;> omega))))) (Nat.le_refl _)).mono (by first | omega | (simp <;> omega))) ((RdB.keep HR2.out (B' := w.heap.size) (by repeat (first | exact Below.refl _ _ | assumption | refine Below.setCell ?_ (by first | omega | (simp <;> omega)) _ | refine Below.alloc ?_ (by first | omega | (simp <;> omega)) _ | refine below_drewN ?_ _ | refine Below.drew ?_ | refine Below.trans ?_ (Below.mono (by assumption) (by first | omega | (simp <;> omega))))) (Nat.le_refl _)).mono (by first | omega | (simp <;> omega))) h12).mono ?_; rintro e w1 ⟨vm, rfl, hOw, hb'⟩; (first | have hb := bnext hb hb' | have hb := bnextA hb hb' | have hb := hb'); clear hb'; obtain ⟨hc, hf⟩ := bcell hb; have hz := hb.size; (try simp at hz); obtain ⟨Am, cm, rfl, hM⟩ := ownU_rd hOw))
    clear hc hf hz
    have hbs := hb.size
    have hou0 := own_built0 (enc := encI) w1 3 1
    have hb0 : Below w1.heap.size w1 (w1.alloc (.cells #[] 3)) := (Below.refl _ _).alloc (Nat.le_refl _) _
    have HM := hide hM
    clear hM hOw g1 g2
    go_loopw [8, 25] (fun bv s wr => ∃ B : Nat, B ≤ N ∧ s = .int .i64 B ∧ Hid (Own wr w1.heap.size 3 1 encI bv (ints (bestR (bothD p ms xs) xs.length B))) ∧ Below w1.heap.size w1 wr) (fun _ s _ => N - (intOf s).toNat)
    case atStart => exact ⟨0, Nat.zero_le _, rfl, hide hou0, hb0⟩
    case round =>
      clear hou0 hb0
      obtain ⟨B, hB, rfl, HO, hbk⟩ := hrel
      rename_i bv wr
      obtain ⟨wo, rfl⟩ : ∃ wo : World, wo = wr := ⟨_, rfl⟩
      have hbk1 := hbk.size
      have hBt : B < 4611686018427387904 := by omega
      by_cases hlt : B < N
      · go_wp2
        have hs0 := own_built0 (enc := encI) wo 3 1
        have hb1 : Below wo.heap.size wo (wo.alloc (.cells #[] 3)) := (Below.refl _ _).alloc (Nat.le_refl _) _
        go_loopw [10, 31] (fun sv s wr2 => ∃ i : Nat, i ≤ xs.length ∧ s = .int .i64 i ∧ Hid (Own wr2 wo.heap.size 3 1 encI sv (ints (nums i B))) ∧ Hid (∀ j, j < i → B.testBit j = true → partBits p ms xs j &&& B = 0) ∧ Below wo.heap.size wo wr2) (fun _ s _ => xs.length - (intOf s).toNat)
        case atStart => exact ⟨0, Nat.zero_le _, rfl, hide hs0, hide (fun j hj => by omega), hb1⟩
        case round =>
          clear hs0 hb1
          rename_i sv wr2
          obtain ⟨i, hin, rfl, HS, HZ, hb2⟩ := hrel
          have hb2s := hb2.size
          have hbt := bit_i64 B i hBt
          have hiw : IntKind.i64.wrap ((i : Nat) : Int) = i := IntWalk.i64_in _ (by omega)
          by_cases hlt2 : i < xs.length
          · have hlen := nums_len i B
            obtain ⟨bm, om, rfl, hbm, hcm⟩ := HM.out (by omega)
            have q0 := cellKeep hb2 (cellKeep hbk (hcm i hlt2) hbm) (by omega)
            have hpd : partBits p ms xs i < 4611686018427387904 := Nat.lt_trans (bitsOf_lt _ _) (two_pow_lt (by omega))
            have hltx : (i : Int) < xs.length := by omega
            have HPZ := hide (show ∀ h : partBits p ms xs i &&& B = 0, ∀ j, j < i + 1 → B.testBit j = true → partBits p ms xs j &&& B = 0 from fun h j hj hb => by rcases Nat.lt_or_ge j i with e | e; (exact HZ.out j e hb); (obtain rfl : j = i := by omega); exact h)
            have HPN := hide (show B.testBit i = true → partBits p ms xs i &&& B ≠ 0 → rivalB (bothD p ms xs) (nums xs.length B) = false from fun hb h => by
              cases hr : rivalB (bothD p ms xs) (nums xs.length B)
              · rfl
              · exact absurd (rivalB_zero.1 hr i hlt2 hb) h)
            obtain ⟨pb, hpb⟩ : ∃ pb, partBits p ms xs i = pb := ⟨_, rfl⟩
            rw [hpb] at q0 hpd HPZ HPN
            clear hcm hpb
            have hand := bits_and_u64 pb B hpd hBt
            have hBw := wrap_u64 B hBt
            rcases ch1 (B.testBit i) with gb | gb
            · have HT := hide (show ints (nums (i + 1) B) = ints (nums i B) ++ [(i : Int)] by rw [nums_succ, if_pos gb, ints_snoc])
              rw [if_pos gb] at hbt
              have HGB := hide gb
              clear gb
              obtain ⟨q, hq⟩ : ∃ q, pb &&& B = q := ⟨_, rfl⟩
              rw [hq] at hand HPZ HPN
              clear hq
              by_cases hq0 : q = 0
              · have hqq : ((q : Int) != 0) = false := by simp [hq0]
                have HZ2 := hide (HPZ.out hq0)
                clear hq0
                go_wp2_with (at_builtin; refine wpList_append_rd _ encI_len encI_one (by rfl) _ _ 29 (by rfl) wo.heap.size 3 i0 (.int .i64 0) 8 Try.underlying29 hi hz0 hz1 hz2 rfl (by decide) _ _ (by rfl) (HS.out.below ((Below.refl _ _).alloc (Nat.le_refl _) _)) _ _ [(i : Int)] (by rfl) (rd_new (enc := encI) _ (i : Int) _) (by have := ints_len (nums i B); unfold maxLen; simp; omega) (by have := ints_len (nums i B); simp; omega) (by simp; omega) ?_; intro r9 w9 hown9 hgrow9 hblk9)
                have hb9 := (hb2.trans (((Below.refl _ _).alloc (Nat.le_refl _) _).mono hb2s)).trans (Own.belowGrown (B := wo.heap.size) (HS.out.below ((Below.refl _ _).alloc (Nat.le_refl _) _)) hgrow9 (Nat.le_refl _) (by simp; omega))
                go_roundw
                case rel => exact ⟨i + 1, by omega, by go_num, hide (by rw [HT.out]; exact hown9), HZ2, hb9⟩
                case measure => simp [intOf]; omega
              · have hqq : ((q : Int) != 0) = true := by simp; omega
                have HRV := hide (HPN.out HGB.out hq0)
                clear hq0
                have HB1 := hide (show bestR (bothD p ms xs) xs.length (B + 1) = bestR (bothD p ms xs) xs.length B by rw [bestR, if_neg]; intro h; rw [HRV.out] at h; exact absurd h.1 (by simp))
                obtain ⟨bb, hbb⟩ : ∃ bb, bestR (bothD p ms xs) xs.length B = bb := ⟨_, rfl⟩
                rw [hbb] at HO HB1
                clear hbb
                obtain ⟨Ab, cb, rfl, hcb, hmb, -⟩ := Own.rd encI_len HO.out
                have HRB := hide (Own.rd encI_len (HO.out.below hb2))
                simp only [ints_len] at HO HRB ⊢
                by_cases hz : bb = []
                · subst hz
                  simp only [List.length_nil] at HO HRB ⊢
                  have HNIL : ∀ W : World, RdI W (.slice none 0 0) (ints []) := fun W => RdB.nil_
                  go_wp2_with (go_at_call 45; with_reducible refine (lessInts_any _ _ [] [] _ rfl (HNIL _) HRB.out).mono ?_; rintro e w7 ⟨rfl, hb7⟩; have hb27 := bnext hb2 hb7 (Nat.le_refl _); have hend7 := bnext hbk hb27 (Nat.le_refl _))
                  go_roundw
                  case rel => exact ⟨B + 1, by omega, by go_num, hide (by rw [HB1.out]; exact HO.out.below hb27), hend7⟩
                  case measure => simp [intOf]; omega
                · have hzl : 0 < bb.length := List.length_pos_iff.2 hz
                  obtain ⟨nb, hnb⟩ : ∃ nb, bb.length = nb := ⟨_, rfl⟩
                  rw [hnb] at HO HRB hzl ⊢
                  clear hnb hz
                  have hzz : ((0 : Int) == (nb : Int)) = false := by simp; omega
                  go_wp2
                  go_roundw
                  case rel => exact ⟨B + 1, by omega, by go_num, hide (by rw [HB1.out]; exact HO.out.below hb2), bnext hbk hb2 (Nat.le_refl _)⟩
                  case measure => simp [intOf]; omega
            · have HT := hide (show nums (i + 1) B = nums i B by rw [nums_succ, if_neg (by simp [gb]), List.append_nil])
              rw [if_neg (by simp [gb])] at hbt
              have HZ2 := hide (show ∀ j, j < i + 1 → B.testBit j = true → partBits p ms xs j &&& B = 0 from fun j hj hb => by rcases Nat.lt_or_ge j i with e | e; (exact HZ.out j e hb); (obtain rfl : j = i := by omega); rw [gb] at hb; cases hb)
              clear gb
              go_wp2
              go_roundw
              case rel => exact ⟨i + 1, by omega, by go_num, hide (by rw [HT.out]; exact HS.out), HZ2, hb2⟩
              case measure => simp [intOf]; omega
          · obtain rfl : i = xs.length := by omega
            have HNX := hide (show ∀ j ∈ nums xs.length B, j < xs.length from fun j hj => (mem_nums.1 hj).1)
            have HRT := hide (show rivalB (bothD p ms xs) (nums xs.length B) = true from rivalB_zero.2 HZ.out)
            have HB1 := hide (show bestR (bothD p ms xs) xs.length (B + 1) = if rivalB (bothD p ms xs) (nums xs.length B) = true ∧ ((bestR (bothD p ms xs) xs.length B).length < (nums xs.length B).length ∨ (nums xs.length B).length = (bestR (bothD p ms xs) xs.length B).length ∧ lessL (nums xs.length B) (bestR (bothD p ms xs) xs.length B) = true) then nums xs.length B else bestR (bothD p ms xs) xs.length B from rfl)
            obtain ⟨bb, hbb⟩ : ∃ bb, bestR (bothD p ms xs) xs.length B = bb := ⟨_, rfl⟩
            obtain ⟨ss, hss⟩ : ∃ ss, nums xs.length B = ss := ⟨_, rfl⟩
            rw [hbb] at HO HB1
            rw [hss] at HS HB1 HNX HRT
            clear hbb hss hbt hiw
            obtain ⟨Ab, cb, rfl, hcb, hmb, -⟩ := Own.rd encI_len HO.out
            obtain ⟨As, cs, rfl, hcs, hms, -⟩ := Own.rd encI_len HS.out
            have HRB := hide (Own.rd encI_len (HO.out.below hb2))
            have HRS := hide (Own.rd encI_len HS.out)
            unfold maxLen at hmb hms
            simp only [ints_len] at HO HS HRB HRS hcb hmb hcs hms ⊢
            have hend := bnext hbk hb2 (Nat.le_refl _)
            have HMW := hide (True.intro)
            rcases Nat.lt_trichotomy ss.length bb.length with hcmp | heq | hcmp
            · have hq1 : ¬ (bb.length : Int) < ss.length := by omega
              have hq2 : ((ss.length : Int) == (bb.length : Int)) = false := by simp; omega
              have HB2 := hide (show bestR (bothD p ms xs) xs.length (B + 1) = bb by rw [HB1.out, if_neg]; intro h; rcases h.2 with h | h <;> omega)
              go_wp2
              go_roundw
              case rel => exact ⟨B + 1, by omega, by go_num, hide (by rw [HB2.out]; exact HO.out.below hb2), hend⟩
              case measure => simp [intOf]; omega
            · have hq1 : ¬ (bb.length : Int) < ss.length := by omega
              have hq2 : ((ss.length : Int) == (bb.length : Int)) = true := by simp; omega
              have HEQ := hide heq; clear heq
              rcases ch1 (lessL ss bb) with gl | gl
              · have HB2 := hide (show bestR (bothD p ms xs) xs.length (B + 1) = ss by rw [HB1.out, if_pos ⟨HRT.out, .inr ⟨HEQ.out, gl⟩⟩])
                go_wp2_with (go_at_call 45; with_reducible refine (lessInts_any _ _ ss bb _ HEQ.out HRS.out HRB.out).mono ?_; rintro e w7 ⟨rfl, hb7⟩; have hb27 := bnext hb2 hb7 (Nat.le_refl _); have hend7 := bnext hend hb7 (Nat.le_refl _))
                go_roundw
                case rel => exact ⟨B + 1, by omega, by go_num, hide (by rw [HB2.out]; exact (HS.out.below hb7).mono hbk1), hend7⟩
                case measure => simp [intOf]; omega
              · have HB2 := hide (show bestR (bothD p ms xs) xs.length (B + 1) = bb by rw [HB1.out, if_neg]; intro h; rw [gl] at h; rcases h.2 with h | h; (have := HEQ.out; omega); exact absurd h.2 (by simp))
                go_wp2_with (go_at_call 45; with_reducible refine (lessInts_any _ _ ss bb _ HEQ.out HRS.out HRB.out).mono ?_; rintro e w7 ⟨rfl, hb7⟩; have hb27 := bnext hb2 hb7 (Nat.le_refl _); have hend7 := bnext hend hb7 (Nat.le_refl _))
                go_roundw
                case rel => exact ⟨B + 1, by omega, by go_num, hide (by rw [HB2.out]; exact HO.out.below hb27), hend7⟩
                case measure => simp [intOf]; omega
            · have hq1 : (bb.length : Int) < ss.length := by omega
              have HB2 := hide (show bestR (bothD p ms xs) xs.length (B + 1) = ss by rw [HB1.out, if_pos ⟨HRT.out, .inl hcmp⟩])
              go_wp2
              go_roundw
              case rel => exact ⟨B + 1, by omega, by go_num, hide (by rw [HB2.out]; exact HS.out.mono hbk1), hend⟩
              case measure => simp [intOf]; omega
      · obtain rfl : B = N := by omega
        have HE := hide (show rivalsOf p ms xs = bestR (bothD p ms xs) xs.length B by rw [HV.out, HVN.out])
        go_wp2
        go_ret
        exact ⟨_, rfl, by rw [HE.out]; exact HO.out.mono hbs, bnext hb hbk (Nat.le_refl _)⟩
  all_goals
    have HF := hide (show rivalsOf p ms xs = [] by unfold rivalsOf; simp [*])
    go_enter Try.func25, Try.ntmps25
    go_wp2_with (first
      | (go_at_call 44; with_reducible refine (coverable_any p _ _ ms xs _ ((RdB.keep HR1.out (B' := w.heap.size) (by repeat (first | exact Below.refl _ _ | assumption | refine Below.setCell ?_ (by first | omega | (simp <;> omega)) _ | refine Below.alloc ?_ (by first | omega | (simp <;> omega)) _ | refine below_drewN ?_ _ | refine Below.drew ?_ | refine Below.trans ?_ (Below.mono (by assumption) (by first | omega | (simp <;> omega))))) (Nat.le_refl _)).mono (by first | omega | (simp <;> omega))) ((RdB.keep HR2.out (B' := w.heap.size) (by repeat (first | exact Below.refl _ _ | assumption | refine Below.setCell ?_ (by first | omega | (simp <;> omega)) _ | refine Below.alloc ?_ (by first | omega | (simp <;> omega)) _ | refine below_drewN ?_ _ | refine Below.drew ?_ | refine Below.trans ?_ (Below.mono (by assumption) (by first | omega | (simp <;> omega))))) (Nat.le_refl _)).mono (by first | omega | (simp <;> omega)))).mono ?_; rintro e w1 ⟨rfl, hb'⟩; (first | have hb := bnext hb hb' | have hb := bnextA hb hb' | have hb := hb'); clear hb'; obtain ⟨hc, hf⟩ := bcell hb; have hz := hb.size; (try simp at hz))
      | (go_at_call 41; with_reducible refine (partners_any p _ _ ms xs _ ((RdB.keep HR1.out (B' := w.heap.size) (by repeat (first | exact Below.refl _ _ | assumption | refine Below.setCell ?_ (by first | omega | (simp <;> omega)) _ | refine Below.alloc ?_ (by first | omega | (simp <;> omega)) _ | refine below_drewN ?_ _ | refine Below.drew ?_ | refine Below.trans ?_ (Below.mono (by assumption) (by first | omega | (simp <;> omega))))) (Nat.le_refl _)).mono (by first | omega | (simp <;> omega))) ((RdB.keep HR2.out (B' := w.heap.size) (by repeat (first | exact Below.refl _ _ | assumption | refine Below.setCell ?_ (by first | omega | (simp <;> omega)) _ | refine Below.alloc ?_ (by first | omega | (simp <;> omega)) _ | refine below_drewN ?_ _ | refine Below.drew ?_ | refine Below.trans ?_ (Below.mono (by assumption) (by first | omega | (simp <;> omega))))) (Nat.le_refl _)).mono (by first | omega | (simp <;> omega))) h12).mono ?_; rintro e w1 ⟨vm, rfl, hOw, hb'⟩; (first | have hb := bnext hb hb' | have hb := bnextA hb hb' | have hb := hb'); clear hb'; obtain ⟨hc, hf⟩ := bcell hb; have hz := hb.size; (try simp at hz); obtain ⟨Am, cm, rfl, hM⟩ := ownU_rd hOw))
    go_ret
    exact ⟨_, rfl, by rw [HF.out]; exact Own.nil_, (by repeat (first | exact Below.refl _ _ | assumption | refine Below.setCell ?_ (by first | omega | (simp <;> omega)) _ | refine Below.alloc ?_ (by first | omega | (simp <;> omega)) _ | refine below_drewN ?_ _ | refine Below.drew ?_ | refine Below.trans ?_ (Below.mono (by assumption) (by first | omega | (simp <;> omega)))))⟩
end Go.Proofs.Ytdbpgfbbkejljaa
