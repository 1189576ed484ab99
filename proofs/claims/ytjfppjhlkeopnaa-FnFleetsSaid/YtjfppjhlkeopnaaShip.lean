/- Ships and fleets: whether they are valid, found by name, their needs. No condition. -/
import Derived.Test.YtjfppjhlkeopnaaName
import Derived.Test.YtjfppjhlkeopnaaSShip
namespace Go.Proofs.Ytjfppjhlkeopnaa
open Go.RowKit
set_option linter.unusedVariables false

def shipOk (s : ShipD) : Bool := isName s.name && inB s.length 10 400 && inB s.draught 100 2000 && inB s.line 0 3 && inB s.tugs 0 4
theorem shipOk_of {s : ShipD} (h : shipOk s = true) : 10 ≤ s.length ∧ s.length ≤ 400 ∧ 100 ≤ s.draught ∧ s.draught ≤ 2000 ∧ 0 ≤ s.line ∧ s.line ≤ 3 ∧ 0 ≤ s.tugs ∧ s.tugs ≤ 4 := by simp [shipOk, inB] at h; omega
def sameName (name : ByteArray) (xs : List ShipD) (j : Nat) : Bool := decide ((xs.getD j default).name = name)
def shipNamed (xs : List ShipD) (name : ByteArray) : Int := firstUpTo (sameName name xs) xs.length
def fleetRow (xs : List ShipD) (i : Nat) : Bool := shipOk (xs.getD i default) && decide (shipNamed xs (xs.getD i default).name = i)
def fleetOk (xs : List ShipD) : Bool := decide (xs.length ≤ 6) && allUpTo (fleetRow xs) xs.length
def squat (s : ShipD) : Int := if s.slow then s.draught / 50 else s.draught / 20
def squatOf (s : ShipD) : Int := if shipOk s then squat s else 0
def needOf (s : ShipD) : Int := if shipOk s then s.draught + squat s + 50 else 0
set_option maxHeartbeats 2000000 in
theorem spec_ShipOk_any (x0 : ByteArray) (x1 x2 x3 x4 : Int) (x5 : Bool) (w : World) (hs : x0.size ≤ maxLen) :
    Calls Try.prog 56 #[.agg #[.string x0, .int .i64 x1, .int .i64 x2, .int .i64 x3, .int .i64 x4, .bool x5]] w fun e w' => e = .returned (.bool (shipOk ⟨x0, x1, x2, x3, x4, x5⟩)) ∧ Below w.heap.size w w' := by
  go_enter Try.func56, Try.ntmps56
  go_wp2_with (first
    | (go_at_call 62; refine (spec_IsName_any _ _ hs).mono ?_; rintro e w1 ⟨rfl, hb'⟩; (first | have hb := bnext hb hb' | have hb := bnextA hb hb' | have hb := hb'); clear hb'; obtain ⟨hc, hf⟩ := bcell hb; have hz := hb.size; (try simp at hz))
    | (go_at_call 63; refine (l01In_any _ _ _ _).mono ?_; rintro e w1 ⟨rfl, hw⟩; obtain rfl := hw.symm))
  all_goals go_ret
  all_goals exact ⟨by simp_all [shipOk, inB, -hc, -hf] <;> omega, (by repeat (first | exact Below.refl _ _ | assumption | refine Below.setCell ?_ (by first | omega | (simp <;> omega)) _ | refine Below.alloc ?_ (by first | omega | (simp <;> omega)) _ | refine below_drewN ?_ _ | refine Below.drew ?_ | refine Below.trans ?_ (Below.mono (by assumption) (by first | omega | (simp <;> omega)))))⟩
set_option maxHeartbeats 2000000 in
theorem spec_ShipNamed_any (v : Value) (xs : List ShipD) (name : ByteArray) (w : World) (h1 : RdShip w v xs) :
    Calls Try.prog 92 #[v, .string name] w fun e w' => e = .returned (.int .i64 (shipNamed xs name)) ∧ Below w.heap.size w w' := by
  obtain ⟨A1, c1, rfl, hc1, hm1, h1⟩ := h1
  unfold maxLen at hm1
  go_enter Try.func92, Try.ntmps92
  go_wp2
  go_loopw [9] (fun i wr => ∃ k : Nat, k ≤ xs.length ∧ i = .int .i64 k ∧ Hid (∀ j, j < k → sameName name xs j = false) ∧ Below w.heap.size w wr) (fun i _ => xs.length - (intOf i).toNat)
  case atStart => exact ⟨0, Nat.zero_le _, rfl, hide (fun j hj => by omega), Below.refl _ _⟩
  case round =>
    obtain ⟨k, hk, rfl, HN, hb⟩ := hrel
    have hbs := hb.size
    by_cases hlt : k < xs.length
    · obtain ⟨b1, o1, rfl, hb1, hcell1⟩ := h1 (by omega)
      have e0 : wr.cell? ⟨b1, o1 + k * 6, none⟩ = some (.string xs[k].name) := by
        rw [hb.cell (p := ⟨b1, _, none⟩) hb1]; have := hcell1 k xs[k] (List.getElem?_eq_getElem hlt) 0 _ rfl; simpa using this
      have e1 : wr.cell? ⟨b1, o1 + k * 6 + 1, none⟩ = some (.int .i64 xs[k].length) := by
        rw [hb.cell (p := ⟨b1, _, none⟩) hb1]; have := hcell1 k xs[k] (List.getElem?_eq_getElem hlt) 1 _ rfl; simpa using this
      have e2 : wr.cell? ⟨b1, o1 + k * 6 + 2, none⟩ = some (.int .i64 xs[k].draught) := by
        rw [hb.cell (p := ⟨b1, _, none⟩) hb1]; have := hcell1 k xs[k] (List.getElem?_eq_getElem hlt) 2 _ rfl; simpa using this
      have e3 : wr.cell? ⟨b1, o1 + k * 6 + 3, none⟩ = some (.int .i64 xs[k].line) := by
        rw [hb.cell (p := ⟨b1, _, none⟩) hb1]; have := hcell1 k xs[k] (List.getElem?_eq_getElem hlt) 3 _ rfl; simpa using this
      have e4 : wr.cell? ⟨b1, o1 + k * 6 + 4, none⟩ = some (.int .i64 xs[k].tugs) := by
        rw [hb.cell (p := ⟨b1, _, none⟩) hb1]; have := hcell1 k xs[k] (List.getElem?_eq_getElem hlt) 4 _ rfl; simpa using this
      have e5 : wr.cell? ⟨b1, o1 + k * 6 + 5, none⟩ = some (.bool xs[k].slow) := by
        rw [hb.cell (p := ⟨b1, _, none⟩) hb1]; have := hcell1 k xs[k] (List.getElem?_eq_getElem hlt) 5 _ rfl; simpa using this
      clear hcell1 h1
      by_cases he : xs[k].name = name
      · have he' := ba_eq he
        have HE := hide (show sameName name xs k = true by unfold sameName; rw [getD_at hlt]; simpa using he)
        clear he
        go_wp2
        go_ret
        exact ⟨ret_int (by rw [shipNamed, firstUpTo_hit HN.out HE.out hlt]), (by repeat (first | exact Below.refl _ _ | assumption | refine Below.setCell ?_ (by first | omega | (simp <;> omega)) _ | refine Below.alloc ?_ (by first | omega | (simp <;> omega)) _ | refine below_drewN ?_ _ | refine Below.drew ?_ | refine Below.trans ?_ (Below.mono (by assumption) (by first | omega | (simp <;> omega)))))⟩
      · have he' := ba_ne he
        have HE := hide (show sameName name xs k = false by unfold sameName; rw [getD_at hlt]; simpa using he)
        clear he
        go_wp2
        go_roundw
        case rel => exact ⟨k + 1, by omega, by go_num, hide (none_succ HN.out HE.out), (by repeat (first | exact Below.refl _ _ | assumption | refine Below.setCell ?_ (by first | omega | (simp <;> omega)) _ | refine Below.alloc ?_ (by first | omega | (simp <;> omega)) _ | refine below_drewN ?_ _ | refine Below.drew ?_ | refine Below.trans ?_ (Below.mono (by assumption) (by first | omega | (simp <;> omega)))))⟩
        case measure => simp [intOf]; omega
    · obtain rfl : k = xs.length := by omega
      go_wp2
      go_ret
      exact ⟨ret_int (by rw [shipNamed, firstUpTo_none HN.out]), hb⟩
set_option maxHeartbeats 4000000 in
theorem spec_FleetOk_any (v : Value) (xs : List ShipD) (w : World) (h1 : RdShip w v xs) (hok : ∀ x ∈ xs, x.ok) :
    Calls Try.prog 71 #[v] w fun e w' => e = .returned (.bool (fleetOk xs)) ∧ Below w.heap.size w w' := by
  have H1 := h1
  obtain ⟨A1, c1, rfl, hc1, hm1, h1⟩ := h1
  unfold maxLen at hm1
  by_cases h6 : xs.length ≤ 6
  · go_enter Try.func71, Try.ntmps71
    go_wp2
    have H6 := hide h6
    go_loopw [10] (fun i wr => ∃ k : Nat, k ≤ xs.length ∧ i = .int .i64 k ∧ Hid (allUpTo (fleetRow xs) k = true) ∧ Below w.heap.size w wr) (fun i _ => xs.length - (intOf i).toNat)
    case atStart => exact ⟨0, Nat.zero_le _, rfl, hide rfl, Below.refl _ _⟩
    case round =>
      obtain ⟨k, hk, rfl, HN, hb⟩ := hrel
      have hbs := hb.size
      by_cases hlt : k < xs.length
      · obtain ⟨b1, o1, rfl, hb1, hcell1⟩ := h1 (by omega)
        have e0 : wr.cell? ⟨b1, o1 + k * 6, none⟩ = some (.string xs[k].name) := by
          rw [hb.cell (p := ⟨b1, _, none⟩) hb1]; have := hcell1 k xs[k] (List.getElem?_eq_getElem hlt) 0 _ rfl; simpa using this
        have e1 : wr.cell? ⟨b1, o1 + k * 6 + 1, none⟩ = some (.int .i64 xs[k].length) := by
          rw [hb.cell (p := ⟨b1, _, none⟩) hb1]; have := hcell1 k xs[k] (List.getElem?_eq_getElem hlt) 1 _ rfl; simpa using this
        have e2 : wr.cell? ⟨b1, o1 + k * 6 + 2, none⟩ = some (.int .i64 xs[k].draught) := by
          rw [hb.cell (p := ⟨b1, _, none⟩) hb1]; have := hcell1 k xs[k] (List.getElem?_eq_getElem hlt) 2 _ rfl; simpa using this
        have e3 : wr.cell? ⟨b1, o1 + k * 6 + 3, none⟩ = some (.int .i64 xs[k].line) := by
          rw [hb.cell (p := ⟨b1, _, none⟩) hb1]; have := hcell1 k xs[k] (List.getElem?_eq_getElem hlt) 3 _ rfl; simpa using this
        have e4 : wr.cell? ⟨b1, o1 + k * 6 + 4, none⟩ = some (.int .i64 xs[k].tugs) := by
          rw [hb.cell (p := ⟨b1, _, none⟩) hb1]; have := hcell1 k xs[k] (List.getElem?_eq_getElem hlt) 4 _ rfl; simpa using this
        have e5 : wr.cell? ⟨b1, o1 + k * 6 + 5, none⟩ = some (.bool xs[k].slow) := by
          rw [hb.cell (p := ⟨b1, _, none⟩) hb1]; have := hcell1 k xs[k] (List.getElem?_eq_getElem hlt) 5 _ rfl; simpa using this
        have hsz := (hok xs[k] (List.getElem_mem hlt)).2.2.2.2
        have HK := hide hok
        have HW := hide (H1.keep hb (Nat.le_refl _))
        clear hcell1 h1 hok H1
        by_cases hso : shipOk xs[k] = true
        · go_wp2_with fail
          refine (spec_ShipOk_any _ _ _ _ _ _ _ hsz).mono ?_; rintro e w2 ⟨rfl, hb'⟩
          have hb2 := hb.trans ((Below.alloc (Below.refl _ wr) (Nat.le_refl _) _).trans (hb'.mono (by simp)) |>.mono hbs)
          obtain ⟨hc, hf⟩ := bcell hb'
          have hs2 := hb'.size; simp at hs2
          have hso' : shipOk { name := xs[k].name, length := xs[k].length, draught := xs[k].draught, line := xs[k].line, tugs := xs[k].tugs, slow := xs[k].slow } = true := hso
          go_wp2_with fail
          have HW2 := RdB.keep HW.out ((Below.alloc (Below.refl _ wr) (Nat.le_refl _) _).trans (hb'.mono (by simp))) (by omega)
          refine (spec_ShipNamed_any _ _ _ _ (HW2.mono (by omega))).mono ?_; rintro e w3 ⟨rfl, hb3⟩
          have hb4 := bnext hb2 hb3 (Nat.le_refl _)
          by_cases hn : shipNamed xs xs[k].name = k
          · have hn' : (shipNamed xs xs[k].name != (k : Int)) = false := by simpa using hn
            have HE := hide (show fleetRow xs k = true by unfold fleetRow; rw [getD_at hlt]; simp [hso, hn])
            clear hn
            go_wp2
            go_roundw
            case rel => exact ⟨k + 1, by omega, by go_num, hide (allUpTo_succ HN.out HE.out), hb4⟩
            case measure => simp [intOf]; omega
          · have hn' : (shipNamed xs xs[k].name != (k : Int)) = true := by simpa using hn
            have HE := hide (show fleetRow xs k = false by unfold fleetRow; rw [getD_at hlt]; simp [hn])
            clear hn
            go_wp2
            go_ret
            exact ⟨by simp [fleetOk, allUpTo_bad hlt HE.out], hb4⟩
        · have hso' : shipOk { name := xs[k].name, length := xs[k].length, draught := xs[k].draught, line := xs[k].line, tugs := xs[k].tugs, slow := xs[k].slow } = false := by simpa using hso
          have HE := hide (show fleetRow xs k = false by unfold fleetRow; rw [getD_at hlt]; simp [hso])
          clear hso
          go_wp2_with fail
          refine (spec_ShipOk_any _ _ _ _ _ _ _ hsz).mono ?_; rintro e w2 ⟨rfl, hb'⟩
          have hb2 := hb.trans ((Below.alloc (Below.refl _ wr) (Nat.le_refl _) _).trans (hb'.mono (by simp)) |>.mono hbs)
          go_wp2
          go_ret
          exact ⟨by simp [fleetOk, allUpTo_bad hlt HE.out], hb2⟩
      · obtain rfl : k = xs.length := by omega
        go_wp2
        go_ret
        exact ⟨by simp [fleetOk, H6.out, HN.out], hb⟩
  · go_enter Try.func71, Try.ntmps71
    go_wp2
    go_ret
    exact ⟨by simp [fleetOk, h6], Below.refl _ _⟩
set_option maxHeartbeats 2000000 in
theorem impl_ShipOk_any (x0 : ByteArray) (x1 x2 x3 x4 : Int) (x5 : Bool) (w : World) (hs : x0.size ≤ maxLen) :
    Calls Try.prog 57 #[.agg #[.string x0, .int .i64 x1, .int .i64 x2, .int .i64 x3, .int .i64 x4, .bool x5]] w fun e w' => e = .returned (.bool (shipOk ⟨x0, x1, x2, x3, x4, x5⟩)) ∧ Below w.heap.size w w' := by
  go_enter Try.func57, Try.ntmps57
  go_wp2_with (first
    | (go_at_call 64; refine (impl_IsName_any _ _ hs).mono ?_; rintro e w1 ⟨rfl, hb'⟩; (first | have hb := bnext hb hb' | have hb := bnextA hb hb' | have hb := hb'); clear hb'; obtain ⟨hc, hf⟩ := bcell hb; have hz := hb.size; (try simp at hz))
    | (go_at_call 65; refine (within_any _ _ _ _).mono ?_; rintro e w1 ⟨rfl, hw⟩; obtain rfl := hw.symm)
    | (go_at_call 72; refine (isIndex_any _ _ _).mono ?_; rintro e w1 ⟨rfl, hw⟩; obtain rfl := hw.symm))
  all_goals go_ret
  all_goals exact ⟨by simp_all [shipOk, inB, -hc, -hf] <;> omega, (by repeat (first | exact Below.refl _ _ | assumption | refine Below.setCell ?_ (by first | omega | (simp <;> omega)) _ | refine Below.alloc ?_ (by first | omega | (simp <;> omega)) _ | refine below_drewN ?_ _ | refine Below.drew ?_ | refine Below.trans ?_ (Below.mono (by assumption) (by first | omega | (simp <;> omega)))))⟩
set_option maxHeartbeats 2000000 in
theorem impl_ShipNamed_any (v : Value) (xs : List ShipD) (name : ByteArray) (w : World) (h1 : RdShip w v xs) :
    Calls Try.prog 33 #[v, .string name] w fun e w' => e = .returned (.int .i64 (shipNamed xs name)) ∧ Below w.heap.size w w' := by
  obtain ⟨A1, c1, rfl, hc1, hm1, h1⟩ := h1
  unfold maxLen at hm1
  go_enter Try.func33, Try.ntmps33
  go_wp2
  go_loopw [9] (fun i wr => ∃ k : Nat, k ≤ xs.length ∧ i = .int .i64 k ∧ Hid (∀ j, j < k → sameName name xs j = false) ∧ Below w.heap.size w wr) (fun i _ => xs.length - (intOf i).toNat)
  case atStart => exact ⟨0, Nat.zero_le _, rfl, hide (fun j hj => by omega), Below.refl _ _⟩
  case round =>
    obtain ⟨k, hk, rfl, HN, hb⟩ := hrel
    have hbs := hb.size
    by_cases hlt : k < xs.length
    · obtain ⟨b1, o1, rfl, hb1, hcell1⟩ := h1 (by omega)
      have e0 : wr.cell? ⟨b1, o1 + k * 6, none⟩ = some (.string xs[k].name) := by
        rw [hb.cell (p := ⟨b1, _, none⟩) hb1]; have := hcell1 k xs[k] (List.getElem?_eq_getElem hlt) 0 _ rfl; simpa using this
      have e1 : wr.cell? ⟨b1, o1 + k * 6 + 1, none⟩ = some (.int .i64 xs[k].length) := by
        rw [hb.cell (p := ⟨b1, _, none⟩) hb1]; have := hcell1 k xs[k] (List.getElem?_eq_getElem hlt) 1 _ rfl; simpa using this
      have e2 : wr.cell? ⟨b1, o1 + k * 6 + 2, none⟩ = some (.int .i64 xs[k].draught) := by
        rw [hb.cell (p := ⟨b1, _, none⟩) hb1]; have := hcell1 k xs[k] (List.getElem?_eq_getElem hlt) 2 _ rfl; simpa using this
      have e3 : wr.cell? ⟨b1, o1 + k * 6 + 3, none⟩ = some (.int .i64 xs[k].line) := by
        rw [hb.cell (p := ⟨b1, _, none⟩) hb1]; have := hcell1 k xs[k] (List.getElem?_eq_getElem hlt) 3 _ rfl; simpa using this
      have e4 : wr.cell? ⟨b1, o1 + k * 6 + 4, none⟩ = some (.int .i64 xs[k].tugs) := by
        rw [hb.cell (p := ⟨b1, _, none⟩) hb1]; have := hcell1 k xs[k] (List.getElem?_eq_getElem hlt) 4 _ rfl; simpa using this
      have e5 : wr.cell? ⟨b1, o1 + k * 6 + 5, none⟩ = some (.bool xs[k].slow) := by
        rw [hb.cell (p := ⟨b1, _, none⟩) hb1]; have := hcell1 k xs[k] (List.getElem?_eq_getElem hlt) 5 _ rfl; simpa using this
      clear hcell1 h1
      by_cases he : xs[k].name = name
      · have he' := ba_eq he
        have HE := hide (show sameName name xs k = true by unfold sameName; rw [getD_at hlt]; simpa using he)
        clear he
        go_wp2
        go_ret
        exact ⟨ret_int (by rw [shipNamed, firstUpTo_hit HN.out HE.out hlt]), (by repeat (first | exact Below.refl _ _ | assumption | refine Below.setCell ?_ (by first | omega | (simp <;> omega)) _ | refine Below.alloc ?_ (by first | omega | (simp <;> omega)) _ | refine below_drewN ?_ _ | refine Below.drew ?_ | refine Below.trans ?_ (Below.mono (by assumption) (by first | omega | (simp <;> omega)))))⟩
      · have he' := ba_ne he
        have HE := hide (show sameName name xs k = false by unfold sameName; rw [getD_at hlt]; simpa using he)
        clear he
        go_wp2
        go_roundw
        case rel => exact ⟨k + 1, by omega, by go_num, hide (none_succ HN.out HE.out), (by repeat (first | exact Below.refl _ _ | assumption | refine Below.setCell ?_ (by first | omega | (simp <;> omega)) _ | refine Below.alloc ?_ (by first | omega | (simp <;> omega)) _ | refine below_drewN ?_ _ | refine Below.drew ?_ | refine Below.trans ?_ (Below.mono (by assumption) (by first | omega | (simp <;> omega)))))⟩
        case measure => simp [intOf]; omega
    · obtain rfl : k = xs.length := by omega
      go_wp2
      go_ret
      exact ⟨ret_int (by rw [shipNamed, firstUpTo_none HN.out]), hb⟩
set_option maxHeartbeats 4000000 in
theorem impl_FleetOk_any (v : Value) (xs : List ShipD) (w : World) (h1 : RdShip w v xs) (hok : ∀ x ∈ xs, x.ok) :
    Calls Try.prog 35 #[v] w fun e w' => e = .returned (.bool (fleetOk xs)) ∧ Below w.heap.size w w' := by
  have H1 := h1
  obtain ⟨A1, c1, rfl, hc1, hm1, h1⟩ := h1
  unfold maxLen at hm1
  by_cases h6 : xs.length ≤ 6
  · go_enter Try.func35, Try.ntmps35
    go_wp2
    have H6 := hide h6
    go_loopw [10] (fun i wr => ∃ k : Nat, k ≤ xs.length ∧ i = .int .i64 k ∧ Hid (allUpTo (fleetRow xs) k = true) ∧ Below w.heap.size w wr) (fun i _ => xs.length - (intOf i).toNat)
    case atStart => exact ⟨0, Nat.zero_le _, rfl, hide rfl, Below.refl _ _⟩
    case round =>
      obtain ⟨k, hk, rfl, HN, hb⟩ := hrel
      have hbs := hb.size
      by_cases hlt : k < xs.length
      · obtain ⟨b1, o1, rfl, hb1, hcell1⟩ := h1 (by omega)
        have e0 : wr.cell? ⟨b1, o1 + k * 6, none⟩ = some (.string xs[k].name) := by
          rw [hb.cell (p := ⟨b1, _, none⟩) hb1]; have := hcell1 k xs[k] (List.getElem?_eq_getElem hlt) 0 _ rfl; simpa using this
        have e1 : wr.cell? ⟨b1, o1 + k * 6 + 1, none⟩ = some (.int .i64 xs[k].length) := by
          rw [hb.cell (p := ⟨b1, _, none⟩) hb1]; have := hcell1 k xs[k] (List.getElem?_eq_getElem hlt) 1 _ rfl; simpa using this
        have e2 : wr.cell? ⟨b1, o1 + k * 6 + 2, none⟩ = some (.int .i64 xs[k].draught) := by
          rw [hb.cell (p := ⟨b1, _, none⟩) hb1]; have := hcell1 k xs[k] (List.getElem?_eq_getElem hlt) 2 _ rfl; simpa using this
        have e3 : wr.cell? ⟨b1, o1 + k * 6 + 3, none⟩ = some (.int .i64 xs[k].line) := by
          rw [hb.cell (p := ⟨b1, _, none⟩) hb1]; have := hcell1 k xs[k] (List.getElem?_eq_getElem hlt) 3 _ rfl; simpa using this
        have e4 : wr.cell? ⟨b1, o1 + k * 6 + 4, none⟩ = some (.int .i64 xs[k].tugs) := by
          rw [hb.cell (p := ⟨b1, _, none⟩) hb1]; have := hcell1 k xs[k] (List.getElem?_eq_getElem hlt) 4 _ rfl; simpa using this
        have e5 : wr.cell? ⟨b1, o1 + k * 6 + 5, none⟩ = some (.bool xs[k].slow) := by
          rw [hb.cell (p := ⟨b1, _, none⟩) hb1]; have := hcell1 k xs[k] (List.getElem?_eq_getElem hlt) 5 _ rfl; simpa using this
        have hsz := (hok xs[k] (List.getElem_mem hlt)).2.2.2.2
        have HK := hide hok
        have HW := hide (H1.keep hb (Nat.le_refl _))
        clear hcell1 h1 hok H1
        by_cases hso : shipOk xs[k] = true
        · go_wp2_with fail
          refine (impl_ShipOk_any _ _ _ _ _ _ _ hsz).mono ?_; rintro e w2 ⟨rfl, hb'⟩
          have hb2 := hb.trans ((Below.alloc (Below.refl _ wr) (Nat.le_refl _) _).trans (hb'.mono (by simp)) |>.mono hbs)
          obtain ⟨hc, hf⟩ := bcell hb'
          have hs2 := hb'.size; simp at hs2
          have hso' : shipOk { name := xs[k].name, length := xs[k].length, draught := xs[k].draught, line := xs[k].line, tugs := xs[k].tugs, slow := xs[k].slow } = true := hso
          go_wp2_with fail
          have HW2 := RdB.keep HW.out ((Below.alloc (Below.refl _ wr) (Nat.le_refl _) _).trans (hb'.mono (by simp))) (by omega)
          refine (impl_ShipNamed_any _ _ _ _ (HW2.mono (by omega))).mono ?_; rintro e w3 ⟨rfl, hb3⟩
          have hb4 := bnext hb2 hb3 (Nat.le_refl _)
          by_cases hn : shipNamed xs xs[k].name = k
          · have hn' : (shipNamed xs xs[k].name != (k : Int)) = false := by simpa using hn
            have HE := hide (show fleetRow xs k = true by unfold fleetRow; rw [getD_at hlt]; simp [hso, hn])
            clear hn
            go_wp2
            go_roundw
            case rel => exact ⟨k + 1, by omega, by go_num, hide (allUpTo_succ HN.out HE.out), hb4⟩
            case measure => simp [intOf]; omega
          · have hn' : (shipNamed xs xs[k].name != (k : Int)) = true := by simpa using hn
            have HE := hide (show fleetRow xs k = false by unfold fleetRow; rw [getD_at hlt]; simp [hn])
            clear hn
            go_wp2
            go_ret
            exact ⟨by simp [fleetOk, allUpTo_bad hlt HE.out], hb4⟩
        · have hso' : shipOk { name := xs[k].name, length := xs[k].length, draught := xs[k].draught, line := xs[k].line, tugs := xs[k].tugs, slow := xs[k].slow } = false := by simpa using hso
          have HE := hide (show fleetRow xs k = false by unfold fleetRow; rw [getD_at hlt]; simp [hso])
          clear hso
          go_wp2_with fail
          refine (impl_ShipOk_any _ _ _ _ _ _ _ hsz).mono ?_; rintro e w2 ⟨rfl, hb'⟩
          have hb2 := hb.trans ((Below.alloc (Below.refl _ wr) (Nat.le_refl _) _).trans (hb'.mono (by simp)) |>.mono hbs)
          go_wp2
          go_ret
          exact ⟨by simp [fleetOk, allUpTo_bad hlt HE.out], hb2⟩
      · obtain rfl : k = xs.length := by omega
        go_wp2
        go_ret
        exact ⟨by simp [fleetOk, H6.out, HN.out], hb⟩
  · go_enter Try.func35, Try.ntmps35
    go_wp2
    go_ret
    exact ⟨by simp [fleetOk, h6], Below.refl _ _⟩
end Go.Proofs.Ytjfppjhlkeopnaa
