/- Berths and stays: whether they are valid, what occupies them. No condition. -/
import Derived.Test.YtjfppjhlkeopnaaShip
import Derived.Test.YtjfppjhlkeopnaaSBerth
import Derived.Test.YtjfppjhlkeopnaaSStay
namespace Go.Proofs.Ytjfppjhlkeopnaa
open Go.RowKit
set_option linter.unusedVariables false

def lasts (s : StayD) : Bool := decide (0 ≤ s.start) && decide (s.start < s.fin) && decide (s.fin ≤ 2880)
def loadAt (s : StayD) (b : Int) : Int := if s.berth = b ∧ lasts s = true then s.fin - s.start else 0
def loadTo (xs : List StayD) (b : Int) : Nat → Int
  | 0 => 0
  | k + 1 => loadTo xs b k + loadAt (xs.getD k default) b
theorem loadAt_range (s : StayD) (b : Int) : 0 ≤ loadAt s b ∧ loadAt s b ≤ 2880 := by
  unfold loadAt lasts; split
  · rename_i h; simp at h; omega
  · omega
theorem loadTo_range (xs : List StayD) (b : Int) : ∀ k : Nat, 0 ≤ loadTo xs b k ∧ loadTo xs b k ≤ 2880 * k
  | 0 => by simp [loadTo]
  | k + 1 => by have := loadTo_range xs b k; have := loadAt_range (xs.getD k default) b; rw [loadTo]; omega
def berthLoad (xs : List StayD) (b : Int) : Int := loadTo xs b xs.length
theorem lasts_yes {a b c d : Int} (h0 : 0 ≤ c) (h1 : c < d) (h2 : d ≤ 2880) : lasts ⟨a, b, c, d⟩ = true := by simp [lasts]; omega
theorem lasts_no {a b c d : Int} (h : ¬ (0 ≤ c ∧ c < d ∧ d ≤ 2880)) : lasts ⟨a, b, c, d⟩ = false := by simp [lasts]; omega
theorem lasts_of {s : StayD} (h : lasts s = true) : 0 ≤ s.start ∧ s.start < s.fin ∧ s.fin ≤ 2880 := by simp [lasts] at h; omega

def fitsBerth (b : BerthD) (s : ShipD) : Bool := shipOk s && decide (s.length ≤ b.length) && decide (s.draught ≤ b.depth)
def otherName (xs : List BerthD) (name : ByteArray) (j : Nat) : Bool := !decide ((xs.getD j default).name = name)
def berthRow (xs : List BerthD) (i : Nat) : Bool := isName (xs.getD i default).name && inB (xs.getD i default).length 10 400 && inB (xs.getD i default).depth 0 3000 && allUpTo (otherName xs (xs.getD i default).name) i
def berthsOk (xs : List BerthD) : Bool := decide (xs.length ≤ 4) && allUpTo (berthRow xs) xs.length
set_option maxHeartbeats 2000000 in
theorem spec_l12Time_any (x0 x1 x2 x3 : Int) (w : World) :
    Calls Try.prog 58 #[.agg #[.int .i64 x0, .int .i64 x1, .int .i64 x2, .int .i64 x3]] w fun e w' => e = .returned (.bool (lasts ⟨x0, x1, x2, x3⟩)) ∧ Below w.heap.size w w' := by
  by_cases h0 : 0 ≤ x2
  · by_cases h1 : x2 < x3
    · by_cases h2 : x3 ≤ 2880
      · have hr := hide (lasts_yes (a := x0) (b := x1) h0 h1 h2)
        have hi : inB x2 0 2880 = true := by simp [inB]; omega
        go_enter Try.func58, Try.ntmps58
        go_wp2_with (go_at_call 63; refine (l01In_any _ _ _ _).mono ?_; rintro e w1 ⟨rfl, hw⟩; obtain rfl := hw.symm)
        go_ret
        exact ⟨by rw [hr.out]; simp, (by repeat (first | exact Below.refl _ _ | assumption | refine Below.setCell ?_ (by first | omega | (simp <;> omega)) _ | refine Below.alloc ?_ (by first | omega | (simp <;> omega)) _ | refine below_drewN ?_ _ | refine Below.drew ?_ | refine Below.trans ?_ (Below.mono (by assumption) (by first | omega | (simp <;> omega)))))⟩
      · have hr := hide (lasts_no (a := x0) (b := x1) (c := x2) (d := x3) (by omega))
        have h2' : ¬ x3 ≤ 2880 := h2
        by_cases hi : inB x2 0 2880 = true
        all_goals
          go_enter Try.func58, Try.ntmps58
          go_wp2_with (go_at_call 63; refine (l01In_any _ _ _ _).mono ?_; rintro e w1 ⟨rfl, hw⟩; obtain rfl := hw.symm)
          go_ret
          exact ⟨by rw [hr.out]; simp; try omega, (by repeat (first | exact Below.refl _ _ | assumption | refine Below.setCell ?_ (by first | omega | (simp <;> omega)) _ | refine Below.alloc ?_ (by first | omega | (simp <;> omega)) _ | refine below_drewN ?_ _ | refine Below.drew ?_ | refine Below.trans ?_ (Below.mono (by assumption) (by first | omega | (simp <;> omega)))))⟩
    · have hr := hide (lasts_no (a := x0) (b := x1) (c := x2) (d := x3) (by omega))
      by_cases hi : inB x2 0 2880 = true
      all_goals
        go_enter Try.func58, Try.ntmps58
        go_wp2_with (go_at_call 63; refine (l01In_any _ _ _ _).mono ?_; rintro e w1 ⟨rfl, hw⟩; obtain rfl := hw.symm)
        go_ret
        exact ⟨by rw [hr.out]; try simp, (by repeat (first | exact Below.refl _ _ | assumption | refine Below.setCell ?_ (by first | omega | (simp <;> omega)) _ | refine Below.alloc ?_ (by first | omega | (simp <;> omega)) _ | refine below_drewN ?_ _ | refine Below.drew ?_ | refine Below.trans ?_ (Below.mono (by assumption) (by first | omega | (simp <;> omega)))))⟩
  · have hr := hide (lasts_no (a := x0) (b := x1) (c := x2) (d := x3) (by omega))
    have hi : inB x2 0 2880 = false := by simp [inB]; omega
    go_enter Try.func58, Try.ntmps58
    go_wp2_with (go_at_call 63; refine (l01In_any _ _ _ _).mono ?_; rintro e w1 ⟨rfl, hw⟩; obtain rfl := hw.symm)
    go_ret
    exact ⟨by rw [hr.out]; try simp, (by repeat (first | exact Below.refl _ _ | assumption | refine Below.setCell ?_ (by first | omega | (simp <;> omega)) _ | refine Below.alloc ?_ (by first | omega | (simp <;> omega)) _ | refine below_drewN ?_ _ | refine Below.drew ?_ | refine Below.trans ?_ (Below.mono (by assumption) (by first | omega | (simp <;> omega)))))⟩
set_option maxRecDepth 100000 in
set_option maxHeartbeats 4000000 in
theorem spec_BerthLoad_any (v : Value) (xs : List StayD) (b : Int) (w : World) (h1 : RdStay w v xs) (hn : xs.length ≤ 1048576) :
    Calls Try.prog 20 #[v, .int .i64 b] w fun e w' => e = .returned (.int .i64 (berthLoad xs b)) ∧ Below w.heap.size w w' := by
  obtain ⟨A1, c1, rfl, hc1, hm1, h1⟩ := h1
  unfold maxLen at hm1
  go_enter Try.func20, Try.ntmps20
  go_wp2
  go_loopw [5, 10] (fun sv i wr => ∃ (k : Nat) (s : Int), k ≤ xs.length ∧ i = .int .i64 k ∧ sv = .int .i64 s ∧ Hid (s = loadTo xs b k) ∧ 0 ≤ s ∧ s ≤ 2880 * k ∧ Below w.heap.size w wr) (fun _ i _ => xs.length - (intOf i).toNat)
  case atStart => exact ⟨0, 0, Nat.zero_le _, rfl, rfl, hide rfl, by omega, by omega, Below.refl _ _⟩
  case round =>
    obtain ⟨k, s, hk, rfl, rfl, HS, s0, s1, hb⟩ := hrel
    have hbs := hb.size
    by_cases hlt : k < xs.length
    · obtain ⟨b1, o1, rfl, hb1, hcell1⟩ := h1 (by omega)
      have e0 : wr.cell? ⟨b1, o1 + k * 4, none⟩ = some (.int .i64 xs[k].ship) := by
        rw [hb.cell (p := ⟨b1, _, none⟩) hb1]; have := hcell1 k xs[k] (List.getElem?_eq_getElem hlt) 0 _ rfl; simpa using this
      have e1 : wr.cell? ⟨b1, o1 + k * 4 + 1, none⟩ = some (.int .i64 xs[k].berth) := by
        rw [hb.cell (p := ⟨b1, _, none⟩) hb1]; have := hcell1 k xs[k] (List.getElem?_eq_getElem hlt) 1 _ rfl; simpa using this
      have e2 : wr.cell? ⟨b1, o1 + k * 4 + 2, none⟩ = some (.int .i64 xs[k].start) := by
        rw [hb.cell (p := ⟨b1, _, none⟩) hb1]; have := hcell1 k xs[k] (List.getElem?_eq_getElem hlt) 2 _ rfl; simpa using this
      have e3 : wr.cell? ⟨b1, o1 + k * 4 + 3, none⟩ = some (.int .i64 xs[k].fin) := by
        rw [hb.cell (p := ⟨b1, _, none⟩) hb1]; have := hcell1 k xs[k] (List.getElem?_eq_getElem hlt) 3 _ rfl; simpa using this
      clear hcell1 h1
      have HX := hide (getD_at hlt)
      have hs2 : s ≤ 3019898880 := by omega
      by_cases he : xs[k].berth = b
      · have he' : (xs[k].berth == b) = true := by simpa using he
        have HE := hide he
        clear he
        by_cases hl : lasts xs[k] = true
        · obtain ⟨l0, l1, l2⟩ := lasts_of hl
          have HL := hide hl
          have HA := hide (show loadAt xs[k] b = xs[k].fin - xs[k].start by unfold loadAt; rw [if_pos ⟨HE.out, hl⟩])
          go_wp2_with fail
          refine (spec_l12Time_any _ _ _ _ _).mono ?_; rintro e w2 ⟨rfl, hb'⟩
          obtain ⟨hc, hf⟩ := bcell hb'
          have hs2' := hb'.size; simp at hs2'
          have hb2 := hb.trans ((Below.alloc (Below.refl _ wr) (Nat.le_refl _) _).trans (hb'.mono (by simp)) |>.mono hbs)
          clear hb' hb
          go_wp2
          go_roundw
          case rel => exact ⟨k + 1, s + (xs[k].fin - xs[k].start), by omega, by go_num, by first | rfl | go_num, hide (by rw [loadTo, ← HS.out, HX.out, HA.out]), by omega, by omega, hb2⟩
          case measure => simp [intOf]; omega
        · have hl' : lasts xs[k] = false := by simpa using hl
          have HA := hide (show loadAt xs[k] b = 0 by unfold loadAt; rw [if_neg (by simp [hl'])])
          clear hl
          go_wp2_with fail
          refine (spec_l12Time_any _ _ _ _ _).mono ?_; rintro e w2 ⟨rfl, hb'⟩
          have hb2 := hb.trans ((Below.alloc (Below.refl _ wr) (Nat.le_refl _) _).trans (hb'.mono (by simp)) |>.mono hbs)
          clear hb' hb
          go_wp2
          go_roundw
          case rel => exact ⟨k + 1, s, by omega, by go_num, rfl, hide (by rw [loadTo, ← HS.out, HX.out, HA.out]; simp), by omega, by omega, hb2⟩
          case measure => simp [intOf]; omega
      · have he' : (xs[k].berth == b) = false := by simpa using he
        have HA := hide (show loadAt xs[k] b = 0 by unfold loadAt; rw [if_neg (by simp [he])])
        clear he
        go_wp2
        go_roundw
        case rel => exact ⟨k + 1, s, by omega, by go_num, rfl, hide (by rw [loadTo, ← HS.out, HX.out, HA.out]; simp), by omega, by omega, (by repeat (first | exact Below.refl _ _ | assumption | refine Below.setCell ?_ (by first | omega | (simp <;> omega)) _ | refine Below.alloc ?_ (by first | omega | (simp <;> omega)) _ | refine below_drewN ?_ _ | refine Below.drew ?_ | refine Below.trans ?_ (Below.mono (by assumption) (by first | omega | (simp <;> omega)))))⟩
        case measure => simp [intOf]; omega
    · obtain rfl : k = xs.length := by omega
      go_wp2
      go_ret
      exact ⟨ret_int (by rw [HS.out]; rfl), hb⟩
set_option maxRecDepth 100000 in
set_option maxHeartbeats 4000000 in
theorem spec_FitsBerth_any (b : BerthD) (s : ShipD) (w : World) (hs : s.name.size ≤ maxLen) :
    Calls Try.prog 15 #[b.val, s.val] w fun e w' => e = .returned (.bool (fitsBerth b s)) ∧ Below w.heap.size w w' := by
  obtain ⟨b0, b1, b2⟩ := b
  obtain ⟨x0, x1, x2, x3, x4, x5⟩ := s
  by_cases hso : shipOk ⟨x0, x1, x2, x3, x4, x5⟩ = true
  · by_cases h1 : x1 ≤ b1
    · by_cases h2 : x2 ≤ b2
      · have hr := hide (show fitsBerth ⟨b0, b1, b2⟩ ⟨x0, x1, x2, x3, x4, x5⟩ = true by simp [fitsBerth, hso, h1, h2])
        go_enter Try.func15, Try.ntmps15
        go_wp2_with (go_at_call 56; refine (spec_ShipOk_any _ _ _ _ _ _ _ hs).mono ?_; rintro e w1 ⟨rfl, hb'⟩; (first | have hb := bnext hb hb' | have hb := bnextA hb hb' | have hb := hb'); clear hb'; obtain ⟨hc, hf⟩ := bcell hb; have hz := hb.size; (try simp at hz))
        go_ret
        exact ⟨by rw [hr.out]; simp; try omega, (by repeat (first | exact Below.refl _ _ | assumption | refine Below.setCell ?_ (by first | omega | (simp <;> omega)) _ | refine Below.alloc ?_ (by first | omega | (simp <;> omega)) _ | refine below_drewN ?_ _ | refine Below.drew ?_ | refine Below.trans ?_ (Below.mono (by assumption) (by first | omega | (simp <;> omega)))))⟩
      · have hr := hide (show fitsBerth ⟨b0, b1, b2⟩ ⟨x0, x1, x2, x3, x4, x5⟩ = false by simp [fitsBerth, h2])
        go_enter Try.func15, Try.ntmps15
        go_wp2_with (go_at_call 56; refine (spec_ShipOk_any _ _ _ _ _ _ _ hs).mono ?_; rintro e w1 ⟨rfl, hb'⟩; (first | have hb := bnext hb hb' | have hb := bnextA hb hb' | have hb := hb'); clear hb'; obtain ⟨hc, hf⟩ := bcell hb; have hz := hb.size; (try simp at hz))
        go_ret
        exact ⟨by rw [hr.out]; simp; try omega, (by repeat (first | exact Below.refl _ _ | assumption | refine Below.setCell ?_ (by first | omega | (simp <;> omega)) _ | refine Below.alloc ?_ (by first | omega | (simp <;> omega)) _ | refine below_drewN ?_ _ | refine Below.drew ?_ | refine Below.trans ?_ (Below.mono (by assumption) (by first | omega | (simp <;> omega)))))⟩
    · have hr := hide (show fitsBerth ⟨b0, b1, b2⟩ ⟨x0, x1, x2, x3, x4, x5⟩ = false by simp [fitsBerth, h1])
      go_enter Try.func15, Try.ntmps15
      go_wp2_with (go_at_call 56; refine (spec_ShipOk_any _ _ _ _ _ _ _ hs).mono ?_; rintro e w1 ⟨rfl, hb'⟩; (first | have hb := bnext hb hb' | have hb := bnextA hb hb' | have hb := hb'); clear hb'; obtain ⟨hc, hf⟩ := bcell hb; have hz := hb.size; (try simp at hz))
      go_ret
      exact ⟨by rw [hr.out]; try simp, (by repeat (first | exact Below.refl _ _ | assumption | refine Below.setCell ?_ (by first | omega | (simp <;> omega)) _ | refine Below.alloc ?_ (by first | omega | (simp <;> omega)) _ | refine below_drewN ?_ _ | refine Below.drew ?_ | refine Below.trans ?_ (Below.mono (by assumption) (by first | omega | (simp <;> omega)))))⟩
  · have hr := hide (show fitsBerth ⟨b0, b1, b2⟩ ⟨x0, x1, x2, x3, x4, x5⟩ = false by simp [fitsBerth, hso])
    have hso' : shipOk ⟨x0, x1, x2, x3, x4, x5⟩ = false := by simpa using hso
    clear hso
    go_enter Try.func15, Try.ntmps15
    go_wp2_with (go_at_call 56; refine (spec_ShipOk_any _ _ _ _ _ _ _ hs).mono ?_; rintro e w1 ⟨rfl, hb'⟩; (first | have hb := bnext hb hb' | have hb := bnextA hb hb' | have hb := hb'); clear hb'; obtain ⟨hc, hf⟩ := bcell hb; have hz := hb.size; (try simp at hz))
    go_ret
    exact ⟨by rw [hr.out]; try simp, (by repeat (first | exact Below.refl _ _ | assumption | refine Below.setCell ?_ (by first | omega | (simp <;> omega)) _ | refine Below.alloc ?_ (by first | omega | (simp <;> omega)) _ | refine below_drewN ?_ _ | refine Below.drew ?_ | refine Below.trans ?_ (Below.mono (by assumption) (by first | omega | (simp <;> omega)))))⟩
set_option maxHeartbeats 2000000 in
theorem impl_lasts_any (x0 x1 x2 x3 : Int) (w : World) :
    Calls Try.prog 60 #[.agg #[.int .i64 x0, .int .i64 x1, .int .i64 x2, .int .i64 x3]] w fun e w' => e = .returned (.bool (lasts ⟨x0, x1, x2, x3⟩)) ∧ Below w.heap.size w w' := by
  by_cases h0 : 0 ≤ x2
  · by_cases h1 : x2 < x3
    · by_cases h2 : x3 ≤ 2880
      · have hr := hide (lasts_yes (a := x0) (b := x1) h0 h1 h2)
        have hi : inB x2 0 2880 = true := by simp [inB]; omega
        go_enter Try.func60, Try.ntmps60
        go_wp2_with (go_at_call 65; refine (within_any _ _ _ _).mono ?_; rintro e w1 ⟨rfl, hw⟩; obtain rfl := hw.symm)
        go_ret
        exact ⟨by rw [hr.out]; simp, (by repeat (first | exact Below.refl _ _ | assumption | refine Below.setCell ?_ (by first | omega | (simp <;> omega)) _ | refine Below.alloc ?_ (by first | omega | (simp <;> omega)) _ | refine below_drewN ?_ _ | refine Below.drew ?_ | refine Below.trans ?_ (Below.mono (by assumption) (by first | omega | (simp <;> omega)))))⟩
      · have hr := hide (lasts_no (a := x0) (b := x1) (c := x2) (d := x3) (by omega))
        have h2' : ¬ x3 ≤ 2880 := h2
        by_cases hi : inB x2 0 2880 = true
        all_goals
          go_enter Try.func60, Try.ntmps60
          go_wp2_with (go_at_call 65; refine (within_any _ _ _ _).mono ?_; rintro e w1 ⟨rfl, hw⟩; obtain rfl := hw.symm)
          go_ret
          exact ⟨by rw [hr.out]; simp; try omega, (by repeat (first | exact Below.refl _ _ | assumption | refine Below.setCell ?_ (by first | omega | (simp <;> omega)) _ | refine Below.alloc ?_ (by first | omega | (simp <;> omega)) _ | refine below_drewN ?_ _ | refine Below.drew ?_ | refine Below.trans ?_ (Below.mono (by assumption) (by first | omega | (simp <;> omega)))))⟩
    · have hr := hide (lasts_no (a := x0) (b := x1) (c := x2) (d := x3) (by omega))
      by_cases hi : inB x2 0 2880 = true
      all_goals
        go_enter Try.func60, Try.ntmps60
        go_wp2_with (go_at_call 65; refine (within_any _ _ _ _).mono ?_; rintro e w1 ⟨rfl, hw⟩; obtain rfl := hw.symm)
        go_ret
        exact ⟨by rw [hr.out]; try simp, (by repeat (first | exact Below.refl _ _ | assumption | refine Below.setCell ?_ (by first | omega | (simp <;> omega)) _ | refine Below.alloc ?_ (by first | omega | (simp <;> omega)) _ | refine below_drewN ?_ _ | refine Below.drew ?_ | refine Below.trans ?_ (Below.mono (by assumption) (by first | omega | (simp <;> omega)))))⟩
  · have hr := hide (lasts_no (a := x0) (b := x1) (c := x2) (d := x3) (by omega))
    have hi : inB x2 0 2880 = false := by simp [inB]; omega
    go_enter Try.func60, Try.ntmps60
    go_wp2_with (go_at_call 65; refine (within_any _ _ _ _).mono ?_; rintro e w1 ⟨rfl, hw⟩; obtain rfl := hw.symm)
    go_ret
    exact ⟨by rw [hr.out]; try simp, (by repeat (first | exact Below.refl _ _ | assumption | refine Below.setCell ?_ (by first | omega | (simp <;> omega)) _ | refine Below.alloc ?_ (by first | omega | (simp <;> omega)) _ | refine below_drewN ?_ _ | refine Below.drew ?_ | refine Below.trans ?_ (Below.mono (by assumption) (by first | omega | (simp <;> omega)))))⟩
set_option maxRecDepth 100000 in
set_option maxHeartbeats 4000000 in
theorem impl_BerthLoad_any (v : Value) (xs : List StayD) (b : Int) (w : World) (h1 : RdStay w v xs) (hn : xs.length ≤ 1048576) :
    Calls Try.prog 22 #[v, .int .i64 b] w fun e w' => e = .returned (.int .i64 (berthLoad xs b)) ∧ Below w.heap.size w w' := by
  obtain ⟨A1, c1, rfl, hc1, hm1, h1⟩ := h1
  unfold maxLen at hm1
  go_enter Try.func22, Try.ntmps22
  go_wp2
  go_loopw [5, 10] (fun sv i wr => ∃ (k : Nat) (s : Int), k ≤ xs.length ∧ i = .int .i64 k ∧ sv = .int .i64 s ∧ Hid (s = loadTo xs b k) ∧ 0 ≤ s ∧ s ≤ 2880 * k ∧ Below w.heap.size w wr) (fun _ i _ => xs.length - (intOf i).toNat)
  case atStart => exact ⟨0, 0, Nat.zero_le _, rfl, rfl, hide rfl, by omega, by omega, Below.refl _ _⟩
  case round =>
    obtain ⟨k, s, hk, rfl, rfl, HS, s0, s1, hb⟩ := hrel
    have hbs := hb.size
    by_cases hlt : k < xs.length
    · obtain ⟨b1, o1, rfl, hb1, hcell1⟩ := h1 (by omega)
      have e0 : wr.cell? ⟨b1, o1 + k * 4, none⟩ = some (.int .i64 xs[k].ship) := by
        rw [hb.cell (p := ⟨b1, _, none⟩) hb1]; have := hcell1 k xs[k] (List.getElem?_eq_getElem hlt) 0 _ rfl; simpa using this
      have e1 : wr.cell? ⟨b1, o1 + k * 4 + 1, none⟩ = some (.int .i64 xs[k].berth) := by
        rw [hb.cell (p := ⟨b1, _, none⟩) hb1]; have := hcell1 k xs[k] (List.getElem?_eq_getElem hlt) 1 _ rfl; simpa using this
      have e2 : wr.cell? ⟨b1, o1 + k * 4 + 2, none⟩ = some (.int .i64 xs[k].start) := by
        rw [hb.cell (p := ⟨b1, _, none⟩) hb1]; have := hcell1 k xs[k] (List.getElem?_eq_getElem hlt) 2 _ rfl; simpa using this
      have e3 : wr.cell? ⟨b1, o1 + k * 4 + 3, none⟩ = some (.int .i64 xs[k].fin) := by
        rw [hb.cell (p := ⟨b1, _, none⟩) hb1]; have := hcell1 k xs[k] (List.getElem?_eq_getElem hlt) 3 _ rfl; simpa using this
      clear hcell1 h1
      have HX := hide (getD_at hlt)
      have hs2 : s ≤ 3019898880 := by omega
      by_cases he : xs[k].berth = b
      · have he' : (xs[k].berth == b) = true := by simpa using he
        have HE := hide he
        clear he
        by_cases hl : lasts xs[k] = true
        · obtain ⟨l0, l1, l2⟩ := lasts_of hl
          have HL := hide hl
          have HA := hide (show loadAt xs[k] b = xs[k].fin - xs[k].start by unfold loadAt; rw [if_pos ⟨HE.out, hl⟩])
          go_wp2_with fail
          refine (impl_lasts_any _ _ _ _ _).mono ?_; rintro e w2 ⟨rfl, hb'⟩
          obtain ⟨hc, hf⟩ := bcell hb'
          have hs2' := hb'.size; simp at hs2'
          have hb2 := hb.trans ((Below.alloc (Below.refl _ wr) (Nat.le_refl _) _).trans (hb'.mono (by simp)) |>.mono hbs)
          clear hb' hb
          go_wp2
          go_roundw
          case rel => exact ⟨k + 1, s + (xs[k].fin - xs[k].start), by omega, by go_num, by first | rfl | go_num, hide (by rw [loadTo, ← HS.out, HX.out, HA.out]), by omega, by omega, hb2⟩
          case measure => simp [intOf]; omega
        · have hl' : lasts xs[k] = false := by simpa using hl
          have HA := hide (show loadAt xs[k] b = 0 by unfold loadAt; rw [if_neg (by simp [hl'])])
          clear hl
          go_wp2_with fail
          refine (impl_lasts_any _ _ _ _ _).mono ?_; rintro e w2 ⟨rfl, hb'⟩
          have hb2 := hb.trans ((Below.alloc (Below.refl _ wr) (Nat.le_refl _) _).trans (hb'.mono (by simp)) |>.mono hbs)
          clear hb' hb
          go_wp2
          go_roundw
          case rel => exact ⟨k + 1, s, by omega, by go_num, rfl, hide (by rw [loadTo, ← HS.out, HX.out, HA.out]; simp), by omega, by omega, hb2⟩
          case measure => simp [intOf]; omega
      · have he' : (xs[k].berth == b) = false := by simpa using he
        have HA := hide (show loadAt xs[k] b = 0 by unfold loadAt; rw [if_neg (by simp [he])])
        clear he
        go_wp2
        go_roundw
        case rel => exact ⟨k + 1, s, by omega, by go_num, rfl, hide (by rw [loadTo, ← HS.out, HX.out, HA.out]; simp), by omega, by omega, (by repeat (first | exact Below.refl _ _ | assumption | refine Below.setCell ?_ (by first | omega | (simp <;> omega)) _ | refine Below.alloc ?_ (by first | omega | (simp <;> omega)) _ | refine below_drewN ?_ _ | refine Below.drew ?_ | refine Below.trans ?_ (Below.mono (by assumption) (by first | omega | (simp <;> omega)))))⟩
        case measure => simp [intOf]; omega
    · obtain rfl : k = xs.length := by omega
      go_wp2
      go_ret
      exact ⟨ret_int (by rw [HS.out]; rfl), hb⟩
set_option maxRecDepth 100000 in
set_option maxHeartbeats 4000000 in
theorem impl_FitsBerth_any (b : BerthD) (s : ShipD) (w : World) (hs : s.name.size ≤ maxLen) :
    Calls Try.prog 18 #[b.val, s.val] w fun e w' => e = .returned (.bool (fitsBerth b s)) ∧ Below w.heap.size w w' := by
  obtain ⟨b0, b1, b2⟩ := b
  obtain ⟨x0, x1, x2, x3, x4, x5⟩ := s
  by_cases hso : shipOk ⟨x0, x1, x2, x3, x4, x5⟩ = true
  · by_cases h1 : x1 ≤ b1
    · by_cases h2 : x2 ≤ b2
      · have hr := hide (show fitsBerth ⟨b0, b1, b2⟩ ⟨x0, x1, x2, x3, x4, x5⟩ = true by simp [fitsBerth, hso, h1, h2])
        go_enter Try.func18, Try.ntmps18
        go_wp2_with (go_at_call 57; refine (impl_ShipOk_any _ _ _ _ _ _ _ hs).mono ?_; rintro e w1 ⟨rfl, hb'⟩; (first | have hb := bnext hb hb' | have hb := bnextA hb hb' | have hb := hb'); clear hb'; obtain ⟨hc, hf⟩ := bcell hb; have hz := hb.size; (try simp at hz))
        go_ret
        exact ⟨by rw [hr.out]; simp; try omega, (by repeat (first | exact Below.refl _ _ | assumption | refine Below.setCell ?_ (by first | omega | (simp <;> omega)) _ | refine Below.alloc ?_ (by first | omega | (simp <;> omega)) _ | refine below_drewN ?_ _ | refine Below.drew ?_ | refine Below.trans ?_ (Below.mono (by assumption) (by first | omega | (simp <;> omega)))))⟩
      · have hr := hide (show fitsBerth ⟨b0, b1, b2⟩ ⟨x0, x1, x2, x3, x4, x5⟩ = false by simp [fitsBerth, h2])
        go_enter Try.func18, Try.ntmps18
        go_wp2_with (go_at_call 57; refine (impl_ShipOk_any _ _ _ _ _ _ _ hs).mono ?_; rintro e w1 ⟨rfl, hb'⟩; (first | have hb := bnext hb hb' | have hb := bnextA hb hb' | have hb := hb'); clear hb'; obtain ⟨hc, hf⟩ := bcell hb; have hz := hb.size; (try simp at hz))
        go_ret
        exact ⟨by rw [hr.out]; simp; try omega, (by repeat (first | exact Below.refl _ _ | assumption | refine Below.setCell ?_ (by first | omega | (simp <;> omega)) _ | refine Below.alloc ?_ (by first | omega | (simp <;> omega)) _ | refine below_drewN ?_ _ | refine Below.drew ?_ | refine Below.trans ?_ (Below.mono (by assumption) (by first | omega | (simp <;> omega)))))⟩
    · have hr := hide (show fitsBerth ⟨b0, b1, b2⟩ ⟨x0, x1, x2, x3, x4, x5⟩ = false by simp [fitsBerth, h1])
      go_enter Try.func18, Try.ntmps18
      go_wp2_with (go_at_call 57; refine (impl_ShipOk_any _ _ _ _ _ _ _ hs).mono ?_; rintro e w1 ⟨rfl, hb'⟩; (first | have hb := bnext hb hb' | have hb := bnextA hb hb' | have hb := hb'); clear hb'; obtain ⟨hc, hf⟩ := bcell hb; have hz := hb.size; (try simp at hz))
      go_ret
      exact ⟨by rw [hr.out]; try simp, (by repeat (first | exact Below.refl _ _ | assumption | refine Below.setCell ?_ (by first | omega | (simp <;> omega)) _ | refine Below.alloc ?_ (by first | omega | (simp <;> omega)) _ | refine below_drewN ?_ _ | refine Below.drew ?_ | refine Below.trans ?_ (Below.mono (by assumption) (by first | omega | (simp <;> omega)))))⟩
  · have hr := hide (show fitsBerth ⟨b0, b1, b2⟩ ⟨x0, x1, x2, x3, x4, x5⟩ = false by simp [fitsBerth, hso])
    have hso' : shipOk ⟨x0, x1, x2, x3, x4, x5⟩ = false := by simpa using hso
    clear hso
    go_enter Try.func18, Try.ntmps18
    go_wp2_with (go_at_call 57; refine (impl_ShipOk_any _ _ _ _ _ _ _ hs).mono ?_; rintro e w1 ⟨rfl, hb'⟩; (first | have hb := bnext hb hb' | have hb := bnextA hb hb' | have hb := hb'); clear hb'; obtain ⟨hc, hf⟩ := bcell hb; have hz := hb.size; (try simp at hz))
    go_ret
    exact ⟨by rw [hr.out]; try simp, (by repeat (first | exact Below.refl _ _ | assumption | refine Below.setCell ?_ (by first | omega | (simp <;> omega)) _ | refine Below.alloc ?_ (by first | omega | (simp <;> omega)) _ | refine below_drewN ?_ _ | refine Below.drew ?_ | refine Below.trans ?_ (Below.mono (by assumption) (by first | omega | (simp <;> omega)))))⟩
end Go.Proofs.Ytjfppjhlkeopnaa
