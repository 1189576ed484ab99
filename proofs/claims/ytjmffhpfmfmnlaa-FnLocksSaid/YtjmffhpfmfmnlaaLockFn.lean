/- Functions on plans of lockings that only read. No condition. -/
import Derived.Test.YtjmffhpfmfmnlaaLock
import Derived.Test.YtjmffhpfmfmnlaaScal
namespace Go.Proofs.Ytjmffhpfmfmnlaa
open Go.RowKit
set_option linter.unusedVariables false

theorem lkd_at {rs : List LockR} {k : Nat} (h : k < rs.length) : (rs.map LockR.d).getD k default = rs[k].d := by simp [List.getD, h]
def emptyTo (ds : List LockD) : Nat → Int
  | 0 => 0
  | k + 1 => emptyTo ds k + (if (ds.getD k default).ships.length = 0 then 1 else 0)
def emptyLockings (ds : List LockD) : Int := emptyTo ds ds.length
theorem emptyTo_range (ds : List LockD) : ∀ k : Nat, 0 ≤ emptyTo ds k ∧ emptyTo ds k ≤ k
  | 0 => by simp [emptyTo]
  | k + 1 => by have := emptyTo_range ds k; rw [emptyTo]; split <;> omega
def hasAt (xs : List Int) (n : Int) (i : Nat) : Bool := decide (xs.getD i default = n)
def hasI (xs : List Int) (n : Int) : Bool := !allUpTo (fun i => !hasAt xs n i) xs.length
def lkRow (ds : List LockD) (ship : Int) (up : Bool) (i : Nat) : Bool := decide ((ds.getD i default).up = up) && hasI (ds.getD i default).ships ship
def lockedAt (ds : List LockD) (ship : Int) (up : Bool) : Int := if firstUpTo (lkRow ds ship up) ds.length < 0 then -1 else (ds.getD (firstUpTo (lkRow ds ship up) ds.length).toNat default).start
theorem lockedAt_hit {ds : List LockD} {ship : Int} {up : Bool} {k : Nat} (h : ∀ j, j < k → lkRow ds ship up j = false) (hk : lkRow ds ship up k = true) (hl : k < ds.length) : lockedAt ds ship up = (ds.getD k default).start := by
  unfold lockedAt; rw [firstUpTo_hit h hk hl, if_neg (by omega), Int.toNat_natCast]
theorem lockedAt_none {ds : List LockD} {ship : Int} {up : Bool} (h : ∀ j, j < ds.length → lkRow ds ship up j = false) : lockedAt ds ship up = -1 := by
  unfold lockedAt; rw [firstUpTo_none h]; simp

set_option maxRecDepth 100000 in
set_option maxHeartbeats 2000000 in
theorem eqLockingS_any (v1 v2 : Value) (xs ys : List LockR) (w : World) (h1 : RdLk w w.heap.size v1 xs) (h2 : RdLk w w.heap.size v2 ys) :
    Calls Try.prog 38 #[v1, v2] w fun e w' => e = .returned (.bool (decide (xs.map LockR.d = ys.map LockR.d))) ∧ Below w.heap.size w w' := by
  obtain ⟨h1, hsl1⟩ := h1
  obtain ⟨h2, hsl2⟩ := h2
  obtain ⟨A1, c1, rfl, hc1, hm1, h1⟩ := h1
  obtain ⟨A2, c2, rfl, hc2, hm2, h2⟩ := h2
  unfold maxLen at hm1 hm2
  by_cases hl : xs.length = ys.length
  · have hlt : ((xs.length : Int) != (ys.length : Int)) = false := by simp [hl]
    have HL := hide hl
    clear hl
    go_enter Try.func38, Try.ntmps38
    go_wp2
    go_loopw [5] (fun i wr => ∃ k : Nat, k ≤ xs.length ∧ i = .int .i64 k ∧ Hid ((xs.map LockR.d).take k = (ys.map LockR.d).take k) ∧ Below w.heap.size w wr) (fun i _ => xs.length - (intOf i).toNat)
    case atStart => exact ⟨0, Nat.zero_le _, rfl, hide rfl, Below.refl _ _⟩
    case round =>
      obtain ⟨k, hk, rfl, HT, hb⟩ := hrel
      by_cases hlt : k < xs.length
      · obtain ⟨b1, o1, rfl, hb1, hcell1⟩ := h1 (by omega)
        obtain ⟨b2, o2, rfl, hb2, hcell2⟩ := h2 (by have := HL.out; omega)
        have hk2 : k < ys.length := by have := HL.out; omega
        have e0 : wr.cell? ⟨b1, o1 + k * 3, none⟩ = some (.int .i64 xs[k].start) := by
          rw [hb.cell (p := ⟨b1, _, none⟩) hb1]; have := hcell1 k xs[k] (List.getElem?_eq_getElem hlt) 0 _ rfl; simpa using this
        have e1 : wr.cell? ⟨b1, o1 + k * 3 + 1, none⟩ = some (.bool xs[k].up) := by
          rw [hb.cell (p := ⟨b1, _, none⟩) hb1]; have := hcell1 k xs[k] (List.getElem?_eq_getElem hlt) 1 _ rfl; simpa using this
        have e2 : wr.cell? ⟨b1, o1 + k * 3 + 2, none⟩ = some (xs[k].v) := by
          rw [hb.cell (p := ⟨b1, _, none⟩) hb1]; have := hcell1 k xs[k] (List.getElem?_eq_getElem hlt) 2 _ rfl; simpa using this
        have f0 : wr.cell? ⟨b2, o2 + k * 3, none⟩ = some (.int .i64 ys[k].start) := by
          rw [hb.cell (p := ⟨b2, _, none⟩) hb2]; have := hcell2 k ys[k] (List.getElem?_eq_getElem hk2) 0 _ rfl; simpa using this
        have f1 : wr.cell? ⟨b2, o2 + k * 3 + 1, none⟩ = some (.bool ys[k].up) := by
          rw [hb.cell (p := ⟨b2, _, none⟩) hb2]; have := hcell2 k ys[k] (List.getElem?_eq_getElem hk2) 1 _ rfl; simpa using this
        have f2 : wr.cell? ⟨b2, o2 + k * 3 + 2, none⟩ = some (ys[k].v) := by
          rw [hb.cell (p := ⟨b2, _, none⟩) hb2]; have := hcell2 k ys[k] (List.getElem?_eq_getElem hk2) 2 _ rfl; simpa using this
        have hz1 : b1 < wr.heap.size := Nat.lt_of_lt_of_le hb1 hb.size
        have hz2 : b2 < wr.heap.size := Nat.lt_of_lt_of_le hb2 hb.size
        have hk2' : (k : Int) < (ys.length : Int) := by omega
        have hbs := hb.size
        have HR1 := hide (((hsl1 xs[k] (List.getElem_mem hlt)).keep hb (Nat.le_refl _)).mono hbs)
        have HR2 := hide (((hsl2 ys[k] (List.getElem_mem hk2)).keep hb (Nat.le_refl _)).mono hbs)
        have HS1 := hide hsl1; have HS2 := hide hsl2
        clear hcell1 hcell2 h1 h2 hsl1 hsl2
        by_cases he : xs[k].eqB ys[k] = true
        · have HE := hide (show (xs.map LockR.d)[k]'(by simpa using hlt) = (ys.map LockR.d)[k]'(by simpa using hk2) by simpa [LockR.eqB] using he)
          go_wp2_with fail
          refine wp_region_below (Below.refl wr.heap.size _) (by kernel_rfl) (by kernel_rfl) ?_
          repeat (first
            | go_big_quiet_skip
            | (go_big_quiet_want
               first
                | (refine quiet_value ?_; apply Exists.intro
                   refine ⟨fun wq hq => ?_, ?_⟩
                   · (obtain ⟨hc, hf⟩ := bcell hq; go_simp; first | done | rfl)
                   go_big_quiet_on
                   simp only [Act.put, List.setIfInBounds_toArray, List.set_cons_zero, List.set_cons_succ])
                | (refine quiet_call ?_; apply Exists.intro; apply Exists.intro; apply Exists.intro
                   refine ⟨fun wq hq => ?_, fun wq hq => ?_, ?_⟩
                   · (obtain ⟨hc, hf⟩ := bcell hq; go_simp; exact ⟨rfl, rfl⟩)
                   · (first | with_reducible exact (eqLocking_any xs[k] ys[k] _ ((HR1.out.keep hq (Nat.le_refl _)).mono hq.size) ((HR2.out.keep hq (Nat.le_refl _)).mono hq.size)).mono fun e w'' ⟨he, hw⟩ => ⟨he, hw ▸ hq⟩ | with_reducible exact (eqLocking_any xs[k] ys[k] _ ((HR1.out.keep hq (Nat.le_refl _)).mono hq.size) ((HR2.out.keep hq (Nat.le_refl _)).mono hq.size)).mono fun e w'' ⟨he, hb'⟩ => ⟨he, bnext hq hb'⟩ |  exact (eqLocking_any xs[k] ys[k] _ ((HR1.out.keep hq (Nat.le_refl _)).mono hq.size) ((HR2.out.keep hq (Nat.le_refl _)).mono hq.size)).mono fun e w'' ⟨he, hb'⟩ => ⟨he, bnext hq hb'⟩ |  exact (eqLocking_any xs[k] ys[k] _ ((HR1.out.keep hq (Nat.le_refl _)).mono hq.size) ((HR2.out.keep hq (Nat.le_refl _)).mono hq.size)).mono fun e w'' ⟨he, hw⟩ => ⟨he, hw ▸ hq⟩)
                   go_big_quiet_on
                   simp only [Act.put, List.setIfInBounds_toArray, List.set_cons_zero, List.set_cons_succ])
                | (go_big_quiet_op; go_big_quiet_on)
               ))
          refine wpQuiet_nil (fun w1 hb' => ?_)
          obtain ⟨hc, hf⟩ := bcell hb'
          have hz := hb'.size; (try simp at hz)
          go_wp2
          go_roundw
          case rel => exact ⟨k + 1, by omega, by go_num, hide (take_succ_eq HT.out (by simpa using hlt) (by simpa using hk2) HE.out), bnext hb hb' (Nat.le_refl _)⟩
          case measure => simp [intOf]; omega
        · have he' : xs[k].eqB ys[k] = false := by simpa using he
          have HE := hide (show ¬ (xs.map LockR.d)[k]'(by simpa using hlt) = (ys.map LockR.d)[k]'(by simpa using hk2) by simpa [LockR.eqB] using he)
          clear he
          go_wp2_with fail
          refine wp_region_below (Below.refl wr.heap.size _) (by kernel_rfl) (by kernel_rfl) ?_
          repeat (first
            | go_big_quiet_skip
            | (go_big_quiet_want
               first
                | (refine quiet_value ?_; apply Exists.intro
                   refine ⟨fun wq hq => ?_, ?_⟩
                   · (obtain ⟨hc, hf⟩ := bcell hq; go_simp; first | done | rfl)
                   go_big_quiet_on
                   simp only [Act.put, List.setIfInBounds_toArray, List.set_cons_zero, List.set_cons_succ])
                | (refine quiet_call ?_; apply Exists.intro; apply Exists.intro; apply Exists.intro
                   refine ⟨fun wq hq => ?_, fun wq hq => ?_, ?_⟩
                   · (obtain ⟨hc, hf⟩ := bcell hq; go_simp; exact ⟨rfl, rfl⟩)
                   · (first | with_reducible exact (eqLocking_any xs[k] ys[k] _ ((HR1.out.keep hq (Nat.le_refl _)).mono hq.size) ((HR2.out.keep hq (Nat.le_refl _)).mono hq.size)).mono fun e w'' ⟨he, hw⟩ => ⟨he, hw ▸ hq⟩ | with_reducible exact (eqLocking_any xs[k] ys[k] _ ((HR1.out.keep hq (Nat.le_refl _)).mono hq.size) ((HR2.out.keep hq (Nat.le_refl _)).mono hq.size)).mono fun e w'' ⟨he, hb'⟩ => ⟨he, bnext hq hb'⟩ |  exact (eqLocking_any xs[k] ys[k] _ ((HR1.out.keep hq (Nat.le_refl _)).mono hq.size) ((HR2.out.keep hq (Nat.le_refl _)).mono hq.size)).mono fun e w'' ⟨he, hb'⟩ => ⟨he, bnext hq hb'⟩ |  exact (eqLocking_any xs[k] ys[k] _ ((HR1.out.keep hq (Nat.le_refl _)).mono hq.size) ((HR2.out.keep hq (Nat.le_refl _)).mono hq.size)).mono fun e w'' ⟨he, hw⟩ => ⟨he, hw ▸ hq⟩)
                   go_big_quiet_on
                   simp only [Act.put, List.setIfInBounds_toArray, List.set_cons_zero, List.set_cons_succ])
                | (go_big_quiet_op; go_big_quiet_on)
               ))
          refine wpQuiet_nil (fun w1 hb' => ?_)
          obtain ⟨hc, hf⟩ := bcell hb'
          have hz := hb'.size; (try simp at hz)
          go_wp2
          go_ret
          refine ⟨?_, bnext hb hb' (Nat.le_refl _)⟩
          have : xs.map LockR.d ≠ ys.map LockR.d := fun e => HE.out (by simp only [e])
          simp [this]
      · obtain rfl : k = xs.length := by omega
        go_wp2
        go_ret
        refine ⟨?_, hb⟩
        have h := HT.out
        rw [List.take_of_length_le (by simp), List.take_of_length_le (by simp [HL.out])] at h
        simp [h]
  · have hlt : ((xs.length : Int) != (ys.length : Int)) = true := by simp; omega
    have HL := hide hl
    clear hl
    go_enter Try.func38, Try.ntmps38
    go_wp2
    go_ret
    have : xs.map LockR.d ≠ ys.map LockR.d := fun e => HL.out (by have := congrArg List.length e; simpa using this)
    exact ⟨by simp [this], (by repeat (first | exact Below.refl _ _ | assumption | refine Below.setCell ?_ (by first | omega | (simp <;> omega)) _ | refine Below.alloc ?_ (by first | omega | (simp <;> omega)) _ | refine below_drewN ?_ _ | refine Below.drew ?_ | refine Below.trans ?_ (Below.mono (by assumption) (by first | omega | (simp <;> omega)))))⟩
set_option maxHeartbeats 2000000 in
theorem impl_EmptyLockings_any (v : Value) (rs : List LockR) (w : World) (h1 : RdLk w w.heap.size v rs) (hn : rs.length ≤ 1048576) :
    Calls Try.prog 49 #[v] w fun e w' => e = .returned (.int .i64 (emptyLockings (rs.map LockR.d))) ∧ Below w.heap.size w w' := by
  obtain ⟨h1, hsl⟩ := h1
  obtain ⟨A1, c1, rfl, hc1, hm1, h1⟩ := h1
  unfold maxLen at hm1
  go_enter Try.func49, Try.ntmps49
  go_wp2
  go_loopw [3, 8] (fun sv i wr => ∃ (k : Nat) (s : Int), k ≤ rs.length ∧ i = .int .i64 k ∧ sv = .int .i64 s ∧ Hid (s = emptyTo (rs.map LockR.d) k) ∧ 0 ≤ s ∧ s ≤ k ∧ Below w.heap.size w wr) (fun _ i _ => rs.length - (intOf i).toNat)
  case atStart => exact ⟨0, 0, Nat.zero_le _, rfl, rfl, hide rfl, by omega, by omega, Below.refl _ _⟩
  case round =>
    obtain ⟨k, s, hk, rfl, rfl, HS, s0, s1, hb⟩ := hrel
    have hbs := hb.size
    by_cases hlt : k < rs.length
    · obtain ⟨b1, o1, rfl, hb1, hcell1⟩ := h1 (by omega)
      have e0 : wr.cell? ⟨b1, o1 + k * 3, none⟩ = some (.int .i64 rs[k].start) := by
        rw [hb.cell (p := ⟨b1, _, none⟩) hb1]; have := hcell1 k rs[k] (List.getElem?_eq_getElem hlt) 0 _ rfl; simpa using this
      have e1 : wr.cell? ⟨b1, o1 + k * 3 + 1, none⟩ = some (.bool rs[k].up) := by
        rw [hb.cell (p := ⟨b1, _, none⟩) hb1]; have := hcell1 k rs[k] (List.getElem?_eq_getElem hlt) 1 _ rfl; simpa using this
      have e2 : wr.cell? ⟨b1, o1 + k * 3 + 2, none⟩ = some (rs[k].v) := by
        rw [hb.cell (p := ⟨b1, _, none⟩) hb1]; have := hcell1 k rs[k] (List.getElem?_eq_getElem hlt) 2 _ rfl; simpa using this
      obtain ⟨A2, c2, hv2, _, hm2, _⟩ := hsl rs[k] (List.getElem_mem hlt)
      unfold maxLen at hm2
      rw [hv2] at e2
      have HX := hide (lkd_at hlt)
      clear hcell1 h1 hsl hv2
      have HS2 := hide hm2
      by_cases he : rs[k].ships.length = 0
      · have he' : ((rs[k].ships.length : Int) == 0) = true := by simpa using he
        have he2 : rs[k].ships = [] := List.eq_nil_of_length_eq_zero he
        have HE := hide he
        have HE2 := hide he2
        clear he he2
        go_wp2
        go_roundw
        case rel => exact ⟨k + 1, s + 1, by omega, by go_num, rfl, hide (by rw [emptyTo, ← HS.out, HX.out, if_pos (show rs[k].d.ships.length = 0 from HE.out)]), by omega, by omega, (by repeat (first | exact Below.refl _ _ | assumption | refine Below.setCell ?_ (by first | omega | (simp <;> omega)) _ | refine Below.alloc ?_ (by first | omega | (simp <;> omega)) _ | refine below_drewN ?_ _ | refine Below.drew ?_ | refine Below.trans ?_ (Below.mono (by assumption) (by first | omega | (simp <;> omega)))))⟩
        case measure => simp [intOf]; omega
      · have he' : ((rs[k].ships.length : Int) == 0) = false := by simp; intro h; exact he (by simp [h])
        have he2 : rs[k].ships ≠ [] := fun h => he (by simp [h])
        have HE := hide he
        clear he
        go_wp2
        go_roundw
        case rel => exact ⟨k + 1, s, by omega, by go_num, rfl, hide (by rw [emptyTo, ← HS.out, HX.out, if_neg (show ¬ rs[k].d.ships.length = 0 from HE.out)]; simp), by omega, by omega, (by repeat (first | exact Below.refl _ _ | assumption | refine Below.setCell ?_ (by first | omega | (simp <;> omega)) _ | refine Below.alloc ?_ (by first | omega | (simp <;> omega)) _ | refine below_drewN ?_ _ | refine Below.drew ?_ | refine Below.trans ?_ (Below.mono (by assumption) (by first | omega | (simp <;> omega)))))⟩
        case measure => simp [intOf]; omega
    · obtain rfl : k = rs.length := by omega
      go_wp2
      go_ret
      exact ⟨ret_int (by rw [HS.out]; unfold emptyLockings; rw [List.length_map]), hb⟩
theorem hasI_hit {xs : List Int} {n : Int} {k : Nat} (hk : k < xs.length) (h : xs[k] = n) : hasI xs n = true := by
  unfold hasI; rw [allUpTo_bad hk (by unfold hasAt; rw [getD_at hk]; simp [h])]; rfl
theorem hasI_none {xs : List Int} {n : Int} (h : allUpTo (fun i => !hasAt xs n i) xs.length = true) : hasI xs n = false := by unfold hasI; rw [h]; rfl
set_option maxHeartbeats 2000000 in
theorem spec_l05Has_any (v : Value) (xs : List Int) (n : Int) (w : World) (h1 : RdI w v xs) :
    Calls Try.prog 91 #[v, .int .i64 n] w fun e w' => e = .returned (.bool (hasI xs n)) ∧ Below w.heap.size w w' := by
  obtain ⟨A1, c1, rfl, hc1, hm1, h1⟩ := h1
  unfold maxLen at hm1
  go_enter Try.func91, Try.ntmps91
  go_wp2
  go_loopw [9] (fun i wr => ∃ k : Nat, k ≤ xs.length ∧ i = .int .i64 k ∧ Hid (allUpTo (fun i => !hasAt xs n i) k = true) ∧ Below w.heap.size w wr) (fun i _ => xs.length - (intOf i).toNat)
  case atStart => exact ⟨0, Nat.zero_le _, rfl, hide rfl, Below.refl _ _⟩
  case round =>
    obtain ⟨k, hk, rfl, HN, hb⟩ := hrel
    by_cases hlt : k < xs.length
    · obtain ⟨b1, o1, rfl, hb1, hcell1⟩ := h1 (by omega)
      have e0 : wr.cell? ⟨b1, o1 + k, none⟩ = some (.int .i64 (xs[k])) := by
        rw [hb.cell (p := ⟨b1, _, none⟩) hb1]; have := hcell1 k xs[k] (List.getElem?_eq_getElem hlt) 0 _ rfl; simpa using this
      clear hcell1 h1
      by_cases he : xs[k] = n
      · have he' : (xs[k] == n) = true := by simpa using he
        have HE := hide (hasI_hit hlt he)
        clear he
        go_wp2
        go_ret
        exact ⟨by rw [HE.out]; rfl, hb⟩
      · have he' : (xs[k] == n) = false := by simpa using he
        have HE := hide (show (!hasAt xs n k) = true by unfold hasAt; rw [getD_at hlt]; simp [he])
        clear he
        go_wp2
        go_roundw
        case rel => exact ⟨k + 1, by omega, by go_num, hide (allUpTo_succ HN.out HE.out), hb⟩
        case measure => simp [intOf]; omega
    · obtain rfl : k = xs.length := by omega
      go_wp2
      go_ret
      exact ⟨by rw [hasI_none HN.out]; rfl, hb⟩
set_option maxHeartbeats 2000000 in
theorem impl_LockedAt_any (v : Value) (rs : List LockR) (ship : Int) (up : Bool) (w : World) (h1 : RdLk w w.heap.size v rs) :
    Calls Try.prog 48 #[v, .int .i64 ship, .bool up] w fun e w' => e = .returned (.int .i64 (lockedAt (rs.map LockR.d) ship up)) ∧ Below w.heap.size w w' := by
  obtain ⟨h1, hsl⟩ := h1
  obtain ⟨A1, c1, rfl, hc1, hm1, h1⟩ := h1
  unfold maxLen at hm1
  go_enter Try.func48, Try.ntmps48
  go_wp2
  go_loopw [13] (fun i wr => ∃ k : Nat, k ≤ rs.length ∧ i = .int .i64 k ∧ Hid (∀ j, j < k → lkRow (rs.map LockR.d) ship up j = false) ∧ Below w.heap.size w wr) (fun i _ => rs.length - (intOf i).toNat)
  case atStart => exact ⟨0, Nat.zero_le _, rfl, hide (fun j hj => by omega), Below.refl _ _⟩
  case round =>
    obtain ⟨k, hk, rfl, HN, hb⟩ := hrel
    obtain ⟨wo, rfl⟩ : ∃ wo : World, wo = wr := ⟨_, rfl⟩
    have hbs := hb.size
    by_cases hlt : k < rs.length
    · obtain ⟨b1, o1, rfl, hb1, hcell1⟩ := h1 (by omega)
      have e0 : wo.cell? ⟨b1, o1 + k * 3, none⟩ = some (.int .i64 rs[k].start) := by
        rw [hb.cell (p := ⟨b1, _, none⟩) hb1]; have := hcell1 k rs[k] (List.getElem?_eq_getElem hlt) 0 _ rfl; simpa using this
      have e1 : wo.cell? ⟨b1, o1 + k * 3 + 1, none⟩ = some (.bool rs[k].up) := by
        rw [hb.cell (p := ⟨b1, _, none⟩) hb1]; have := hcell1 k rs[k] (List.getElem?_eq_getElem hlt) 1 _ rfl; simpa using this
      have e2 : wo.cell? ⟨b1, o1 + k * 3 + 2, none⟩ = some (rs[k].v) := by
        rw [hb.cell (p := ⟨b1, _, none⟩) hb1]; have := hcell1 k rs[k] (List.getElem?_eq_getElem hlt) 2 _ rfl; simpa using this
      have HX := hide (lkd_at hlt)
      obtain ⟨A2, c2, hv2, _, hm2, hx2⟩ := (hsl rs[k] (List.getElem_mem hlt)).keep hb (Nat.le_refl _)
      unfold maxLen at hm2
      rw [hv2] at e2
      have HSL := hide hsl
      have HLT := hide (show k < (rs.map LockR.d).length by simpa using hlt)
      have HS2 := hide hm2
      clear hcell1 h1 hsl hv2
      generalize hxs : rs[k].ships = xs at *
      generalize hup : rs[k].up = xu at *
      generalize hst : rs[k].start = xt at *
      have HXS := hide hxs; have HXU := hide hup; have HXT := hide hst
      clear hxs hup hst
      go_wp2
      generalize hW : wo.alloc (.cells #[.int .i64 xt, .bool xu, .slice A2 xs.length c2] 68) = W2
      have hbW : Below wo.heap.size wo W2 := by rw [← hW]; exact Below.alloc (Below.refl _ _) (Nat.le_refl _) _
      have hx0 : W2.cell? ⟨wo.heap.size, 0, none⟩ = some (.int .i64 xt) := by rw [← hW]; simp
      have hx1 : W2.cell? ⟨wo.heap.size, 1, none⟩ = some (.bool xu) := by rw [← hW]; simp
      have hlW : wo.heap.size < W2.heap.size := by rw [← hW]; simp
      have hb2 := bnext hb hbW (Nat.le_refl _)
      have hb2s := hb2.size
      clear hW
      go_loopw [20] (fun i wr => ∃ j : Nat, j ≤ xs.length ∧ i = .int .i64 j ∧ Hid (allUpTo (fun i => !hasAt xs ship i) j = true ∨ xu ≠ up) ∧ wr = W2) (fun i _ => xs.length - (intOf i).toNat)
      case atStart => exact ⟨0, Nat.zero_le _, rfl, hide (.inl rfl), rfl⟩
      case round =>
        obtain ⟨j, hj, rfl, HJ, rfl⟩ := hrel
        by_cases hjl : j < xs.length
        · obtain ⟨b2, o2, rfl, hb2x, hcell2⟩ := hx2 (by omega)
          have hb2y : b2 < wo.heap.size := by omega
          have f0 : wr.cell? ⟨b2, o2 + j, none⟩ = some (.int .i64 (xs[j])) := by
            rw [hbW.cell (p := ⟨b2, _, none⟩) hb2y]; have := hcell2 j xs[j] (List.getElem?_eq_getElem hjl) 0 _ rfl; simpa using this
          clear hcell2
          by_cases he : xs[j] = ship
          · have he1 : (xs[j] == ship) = true := by simpa using he
            by_cases hu : xu = up
            · have hu1 : (xu == up) = true := by simpa using hu
              have HR := hide (show lkRow (rs.map LockR.d) ship up k = true by unfold lkRow; rw [HX.out]; simp [LockR.d, HXS.out, HXU.out, hasI_hit hjl he, hu])
              clear he hu
              go_wp2
              go_ret
              exact ⟨ret_int (by rw [lockedAt_hit HN.out HR.out HLT.out, HX.out, ← HXT.out]; rfl), hb2⟩
            · have hu1 : (xu == up) = false := by simpa using hu
              have HU := hide hu
              clear he hu
              go_wp2
              go_roundw
              case rel => exact ⟨j + 1, by omega, by go_num, hide (.inr HU.out), by trivial⟩
              case measure => simp [intOf]; omega
          · have he1 : (xs[j] == ship) = false := by simpa using he
            have HE := hide (show (!hasAt xs ship j) = true by unfold hasAt; rw [getD_at hjl]; simp [he])
            clear he
            go_wp2
            go_roundw
            case rel => exact ⟨j + 1, by omega, by go_num, hide (HJ.out.imp (fun h => allUpTo_succ h HE.out) id), by trivial⟩
            case measure => simp [intOf]; omega
        · obtain rfl : j = xs.length := by omega
          have HR := hide (show lkRow (rs.map LockR.d) ship up k = false by
            unfold lkRow; rw [HX.out]
            rcases HJ.out with h | h
            · simp [LockR.d, HXS.out, HXU.out, hasI_none h]
            · simp [LockR.d, HXS.out, HXU.out, h])
          go_wp2
          go_roundw
          case rel => exact ⟨k + 1, by omega, by go_num, hide (none_succ HN.out HR.out), hb2⟩
          case measure => simp [intOf]; omega
    · obtain rfl : k = rs.length := by omega
      go_wp2
      go_ret
      exact ⟨ret_int (by rw [lockedAt_none (by rw [List.length_map]; exact HN.out)]), hb⟩
def nextLast (x2 : Int) (l : LockD) (up : Bool) (ready : Int) : Int := if inB l.start 0 2880 = true then max ready (l.start + (if l.up = up then 2 * x2 else x2)) else -1
def nextTurn (x0 x1 x2 : Int) (ds : List LockD) (up : Bool) (ready : Int) : Int :=
  if chOk x0 x1 x2 = true ∧ inB ready 0 2880 = true then (if ds.length = 0 then ready else nextLast x2 (ds.getD (ds.length - 1) default) up ready) else -1
set_option maxHeartbeats 2000000 in
theorem spec_NextTurn_any (x0 x1 x2 : Int) (v : Value) (rs : List LockR) (up : Bool) (ready : Int) (w : World) (h1 : RdLk w w.heap.size v rs) :
    Calls Try.prog 78 #[.agg #[.int .i64 x0, .int .i64 x1, .int .i64 x2], v, .bool up, .int .i64 ready] w fun e w' => e = .returned (.int .i64 (nextTurn x0 x1 x2 (rs.map LockR.d) up ready)) ∧ Below w.heap.size w w' := by
  obtain ⟨h1, hsl⟩ := h1
  obtain ⟨A1, c1, rfl, hc1, hm1, h1⟩ := h1
  unfold maxLen at hm1
  by_cases hk : chOk x0 x1 x2 = true
  · obtain ⟨_, _, _, _, m0, m1⟩ := chOk_of hk
    by_cases hn : inB ready 0 2880 = true
    · have hn' : 0 ≤ ready ∧ ready ≤ 2880 := by simp [inB] at hn; omega
      obtain ⟨n0, n1⟩ := hn'
      by_cases hl : rs.length = 0
      · have Fin := hide (show nextTurn x0 x1 x2 (rs.map LockR.d) up ready = ready by unfold nextTurn; rw [if_pos ⟨hk, hn⟩, List.length_map, if_pos hl])
        have hl1 : ((rs.length : Int) == 0) = true := by rw [hl]; rfl
        have hl2 : rs = [] := List.eq_nil_of_length_eq_zero hl
        clear hl h1 hsl
        go_enter Try.func78, Try.ntmps78
        go_wp2_with (first | (go_at_call 50; refine (spec_ChamberOk_any _ _ _ _).mono ?_; rintro e w1 ⟨rfl, hb'⟩; (first | have hb := bnext hb hb' | have hb := bnextA hb hb' | have hb := hb'); clear hb'; obtain ⟨hc, hf⟩ := bcell hb; have hz := hb.size; (try simp at hz)) | (go_at_call 52; refine (l01In_any _ _ _ _).mono ?_; rintro e w' ⟨rfl, rfl⟩))
        go_ret
        exact ⟨ret_int (by rw [Fin.out]), (by repeat (first | exact Below.refl _ _ | assumption | refine Below.setCell ?_ (by first | omega | (simp <;> omega)) _ | refine Below.alloc ?_ (by first | omega | (simp <;> omega)) _ | refine below_drewN ?_ _ | refine Below.drew ?_ | refine Below.trans ?_ (Below.mono (by assumption) (by first | omega | (simp <;> omega)))))⟩
      · obtain ⟨k, hk1⟩ : ∃ k, rs.length = k + 1 := ⟨rs.length - 1, by omega⟩
        have hlt : k < rs.length := by omega
        obtain ⟨b1, o1, rfl, hb1, hcell1⟩ := h1 (by omega)
        have Fin := hide (show nextTurn x0 x1 x2 (rs.map LockR.d) up ready = nextLast x2 rs[k].d up ready by unfold nextTurn; rw [if_pos ⟨hk, hn⟩, List.length_map, if_neg hl, show rs.length - 1 = k by omega, lkd_at hlt])
        have hl1 : ((rs.length : Int) == 0) = false := by rw [beq_eq_false_iff_ne]; omega
        go_enter Try.func78, Try.ntmps78
        go_wp2_with fail
        generalize hW0 : (w.alloc (.cells #[.int .i64 x0, .int .i64 x1, .int .i64 x2] 26)) = W0
        have hB0 : Below w.heap.size w W0 := by rw [← hW0]; exact (by repeat (first | exact Below.refl _ _ | assumption | refine Below.setCell ?_ (by first | omega | (simp <;> omega)) _ | refine Below.alloc ?_ (by first | omega | (simp <;> omega)) _ | refine below_drewN ?_ _ | refine Below.drew ?_ | refine Below.trans ?_ (Below.mono (by assumption) (by first | omega | (simp <;> omega)))))
        have hl0 : w.heap.size < W0.heap.size := by rw [← hW0]; simp
        have hx2 : W0.cell? ⟨w.heap.size, 2, none⟩ = some (.int .i64 x2) := by rw [← hW0]; simp
        clear hW0
        refine (spec_ChamberOk_any _ _ _ _).mono ?_; rintro e w1 ⟨rfl, hb'⟩
        have hb := bnext hB0 hb' (Nat.le_refl _)
        have hs' := hb'.size
        have hl3 : w.heap.size < w1.heap.size := by omega
        replace hx2 : w1.cell? ⟨w.heap.size, 2, none⟩ = some (.int .i64 x2) := by rw [hb'.cell (p := ⟨w.heap.size, 2, none⟩) hl0]; exact hx2
        have e0 : w1.cell? ⟨b1, o1 + k * 3, none⟩ = some (.int .i64 rs[k].start) := by
          rw [hb.cell (p := ⟨b1, _, none⟩) hb1]; have := hcell1 k rs[k] (List.getElem?_eq_getElem hlt) 0 _ rfl; simpa using this
        have e1 : w1.cell? ⟨b1, o1 + k * 3 + 1, none⟩ = some (.bool rs[k].up) := by
          rw [hb.cell (p := ⟨b1, _, none⟩) hb1]; have := hcell1 k rs[k] (List.getElem?_eq_getElem hlt) 1 _ rfl; simpa using this
        have e2 : w1.cell? ⟨b1, o1 + k * 3 + 2, none⟩ = some (rs[k].v) := by
          rw [hb.cell (p := ⟨b1, _, none⟩) hb1]; have := hcell1 k rs[k] (List.getElem?_eq_getElem hlt) 2 _ rfl; simpa using this
        obtain ⟨A2, c2, hv2, _, hm2, _⟩ := hsl rs[k] (List.getElem_mem hlt)
        unfold maxLen at hm2
        rw [hv2] at e2
        have hzz : b1 < w1.heap.size := by omega
        clear hcell1 h1 hsl hv2 hb' hB0 hl
        generalize hxu : rs[k].up = xu at *
        generalize hxt : rs[k].start = xt at *
        generalize hxn : rs[k].ships.length = xn at *
        have HXU := hide hxu; have HXT := hide hxt
        clear hxu hxt hxn
        by_cases hq : inB xt 0 2880 = true
        · have hq' : 0 ≤ xt ∧ xt ≤ 2880 := by simp [inB] at hq; omega
          obtain ⟨q0, q1⟩ := hq'
          by_cases hu : xu = up
          · have hu1 : (xu == up) = true := by simpa using hu
            have Fin2 := hide (show nextLast x2 rs[k].d up ready = max ready (xt + 2 * x2) by simp [nextLast, LockR.d, HXT.out, HXU.out, hq, hu])
            clear hu
            go_wp2_with (go_at_call 52; refine (l01In_any _ _ _ _).mono ?_; rintro e w' ⟨rfl, rfl⟩)
            all_goals go_ret
            all_goals exact ⟨ret_int (by rw [Fin.out, Fin2.out]; omega), (by repeat (first | exact Below.refl _ _ | assumption | refine Below.setCell ?_ (by first | omega | (simp <;> omega)) _ | refine Below.alloc ?_ (by first | omega | (simp <;> omega)) _ | refine below_drewN ?_ _ | refine Below.drew ?_ | refine Below.trans ?_ (Below.mono (by assumption) (by first | omega | (simp <;> omega)))))⟩
          · have hu1 : (xu == up) = false := by simpa using hu
            have Fin2 := hide (show nextLast x2 rs[k].d up ready = max ready (xt + x2) by simp [nextLast, LockR.d, HXT.out, HXU.out, hq, hu])
            clear hu
            go_wp2_with (go_at_call 52; refine (l01In_any _ _ _ _).mono ?_; rintro e w' ⟨rfl, rfl⟩)
            all_goals go_ret
            all_goals exact ⟨ret_int (by rw [Fin.out, Fin2.out]; omega), (by repeat (first | exact Below.refl _ _ | assumption | refine Below.setCell ?_ (by first | omega | (simp <;> omega)) _ | refine Below.alloc ?_ (by first | omega | (simp <;> omega)) _ | refine below_drewN ?_ _ | refine Below.drew ?_ | refine Below.trans ?_ (Below.mono (by assumption) (by first | omega | (simp <;> omega)))))⟩
        · have hq1 : inB xt 0 2880 = false := by simpa using hq
          have Fin2 := hide (show nextLast x2 rs[k].d up ready = -1 by simp [nextLast, LockR.d, HXT.out, hq])
          clear hq
          go_wp2_with (go_at_call 52; refine (l01In_any _ _ _ _).mono ?_; rintro e w' ⟨rfl, rfl⟩)
          go_ret
          exact ⟨ret_int (by rw [Fin.out, Fin2.out]), (by repeat (first | exact Below.refl _ _ | assumption | refine Below.setCell ?_ (by first | omega | (simp <;> omega)) _ | refine Below.alloc ?_ (by first | omega | (simp <;> omega)) _ | refine below_drewN ?_ _ | refine Below.drew ?_ | refine Below.trans ?_ (Below.mono (by assumption) (by first | omega | (simp <;> omega)))))⟩
    · have Fin := hide (show nextTurn x0 x1 x2 (rs.map LockR.d) up ready = -1 by unfold nextTurn; rw [if_neg (fun h => hn h.2)])
      have hn1 : inB ready 0 2880 = false := by simpa using hn
      clear hn h1 hsl
      go_enter Try.func78, Try.ntmps78
      go_wp2_with (first | (go_at_call 50; refine (spec_ChamberOk_any _ _ _ _).mono ?_; rintro e w1 ⟨rfl, hb'⟩; (first | have hb := bnext hb hb' | have hb := bnextA hb hb' | have hb := hb'); clear hb'; obtain ⟨hc, hf⟩ := bcell hb; have hz := hb.size; (try simp at hz)) | (go_at_call 52; refine (l01In_any _ _ _ _).mono ?_; rintro e w' ⟨rfl, rfl⟩))
      go_ret
      exact ⟨ret_int (by rw [Fin.out]), (by repeat (first | exact Below.refl _ _ | assumption | refine Below.setCell ?_ (by first | omega | (simp <;> omega)) _ | refine Below.alloc ?_ (by first | omega | (simp <;> omega)) _ | refine below_drewN ?_ _ | refine Below.drew ?_ | refine Below.trans ?_ (Below.mono (by assumption) (by first | omega | (simp <;> omega)))))⟩
  · have Fin := hide (show nextTurn x0 x1 x2 (rs.map LockR.d) up ready = -1 by unfold nextTurn; rw [if_neg (fun h => hk h.1)])
    have hk1 : chOk x0 x1 x2 = false := by simpa using hk
    clear hk h1 hsl
    go_enter Try.func78, Try.ntmps78
    go_wp2_with (first | (go_at_call 50; refine (spec_ChamberOk_any _ _ _ _).mono ?_; rintro e w1 ⟨rfl, hb'⟩; (first | have hb := bnext hb hb' | have hb := bnextA hb hb' | have hb := hb'); clear hb'; obtain ⟨hc, hf⟩ := bcell hb; have hz := hb.size; (try simp at hz)) | (go_at_call 52; refine (l01In_any _ _ _ _).mono ?_; rintro e w' ⟨rfl, rfl⟩))
    go_ret
    exact ⟨ret_int (by rw [Fin.out]), (by repeat (first | exact Below.refl _ _ | assumption | refine Below.setCell ?_ (by first | omega | (simp <;> omega)) _ | refine Below.alloc ?_ (by first | omega | (simp <;> omega)) _ | refine below_drewN ?_ _ | refine Below.drew ?_ | refine Below.trans ?_ (Below.mono (by assumption) (by first | omega | (simp <;> omega)))))⟩
set_option maxHeartbeats 2000000 in
theorem impl_NextTurn_any (x0 x1 x2 : Int) (v : Value) (rs : List LockR) (up : Bool) (ready : Int) (w : World) (h1 : RdLk w w.heap.size v rs) :
    Calls Try.prog 46 #[.agg #[.int .i64 x0, .int .i64 x1, .int .i64 x2], v, .bool up, .int .i64 ready] w fun e w' => e = .returned (.int .i64 (nextTurn x0 x1 x2 (rs.map LockR.d) up ready)) ∧ Below w.heap.size w w' := by
  obtain ⟨h1, hsl⟩ := h1
  obtain ⟨A1, c1, rfl, hc1, hm1, h1⟩ := h1
  unfold maxLen at hm1
  by_cases hk : chOk x0 x1 x2 = true
  · obtain ⟨_, _, _, _, m0, m1⟩ := chOk_of hk
    by_cases hn : inB ready 0 2880 = true
    · have hn' : 0 ≤ ready ∧ ready ≤ 2880 := by simp [inB] at hn; omega
      obtain ⟨n0, n1⟩ := hn'
      by_cases hl : rs.length = 0
      · have Fin := hide (show nextTurn x0 x1 x2 (rs.map LockR.d) up ready = ready by unfold nextTurn; rw [if_pos ⟨hk, hn⟩, List.length_map, if_pos hl])
        have hl1 : ((rs.length : Int) == 0) = true := by rw [hl]; rfl
        have hl2 : rs = [] := List.eq_nil_of_length_eq_zero hl
        clear hl h1 hsl
        go_enter Try.func46, Try.ntmps46
        go_wp2_with (first | (go_at_call 28; refine (impl_ChamberOk_any _ _ _ _).mono ?_; rintro e w1 ⟨rfl, hb'⟩; (first | have hb := bnext hb hb' | have hb := bnextA hb hb' | have hb := hb'); clear hb'; obtain ⟨hc, hf⟩ := bcell hb; have hz := hb.size; (try simp at hz)) | (go_at_call 74; refine (isMinute_any _ _).mono ?_; rintro e w' ⟨rfl, rfl⟩))
        go_ret
        exact ⟨ret_int (by rw [Fin.out]), (by repeat (first | exact Below.refl _ _ | assumption | refine Below.setCell ?_ (by first | omega | (simp <;> omega)) _ | refine Below.alloc ?_ (by first | omega | (simp <;> omega)) _ | refine below_drewN ?_ _ | refine Below.drew ?_ | refine Below.trans ?_ (Below.mono (by assumption) (by first | omega | (simp <;> omega)))))⟩
      · obtain ⟨k, hk1⟩ : ∃ k, rs.length = k + 1 := ⟨rs.length - 1, by omega⟩
        have hlt : k < rs.length := by omega
        obtain ⟨b1, o1, rfl, hb1, hcell1⟩ := h1 (by omega)
        have Fin := hide (show nextTurn x0 x1 x2 (rs.map LockR.d) up ready = nextLast x2 rs[k].d up ready by unfold nextTurn; rw [if_pos ⟨hk, hn⟩, List.length_map, if_neg hl, show rs.length - 1 = k by omega, lkd_at hlt])
        have hl1 : ((rs.length : Int) == 0) = false := by rw [beq_eq_false_iff_ne]; omega
        go_enter Try.func46, Try.ntmps46
        go_wp2_with fail
        generalize hW0 : (w.alloc (.cells #[.int .i64 x0, .int .i64 x1, .int .i64 x2] 26)) = W0
        have hB0 : Below w.heap.size w W0 := by rw [← hW0]; exact (by repeat (first | exact Below.refl _ _ | assumption | refine Below.setCell ?_ (by first | omega | (simp <;> omega)) _ | refine Below.alloc ?_ (by first | omega | (simp <;> omega)) _ | refine below_drewN ?_ _ | refine Below.drew ?_ | refine Below.trans ?_ (Below.mono (by assumption) (by first | omega | (simp <;> omega)))))
        have hl0 : w.heap.size < W0.heap.size := by rw [← hW0]; simp
        have hx2 : W0.cell? ⟨w.heap.size, 2, none⟩ = some (.int .i64 x2) := by rw [← hW0]; simp
        clear hW0
        refine (impl_ChamberOk_any _ _ _ _).mono ?_; rintro e w1 ⟨rfl, hb'⟩
        have hb := bnext hB0 hb' (Nat.le_refl _)
        have hs' := hb'.size
        have hl3 : w.heap.size < w1.heap.size := by omega
        replace hx2 : w1.cell? ⟨w.heap.size, 2, none⟩ = some (.int .i64 x2) := by rw [hb'.cell (p := ⟨w.heap.size, 2, none⟩) hl0]; exact hx2
        have e0 : w1.cell? ⟨b1, o1 + k * 3, none⟩ = some (.int .i64 rs[k].start) := by
          rw [hb.cell (p := ⟨b1, _, none⟩) hb1]; have := hcell1 k rs[k] (List.getElem?_eq_getElem hlt) 0 _ rfl; simpa using this
        have e1 : w1.cell? ⟨b1, o1 + k * 3 + 1, none⟩ = some (.bool rs[k].up) := by
          rw [hb.cell (p := ⟨b1, _, none⟩) hb1]; have := hcell1 k rs[k] (List.getElem?_eq_getElem hlt) 1 _ rfl; simpa using this
        have e2 : w1.cell? ⟨b1, o1 + k * 3 + 2, none⟩ = some (rs[k].v) := by
          rw [hb.cell (p := ⟨b1, _, none⟩) hb1]; have := hcell1 k rs[k] (List.getElem?_eq_getElem hlt) 2 _ rfl; simpa using this
        obtain ⟨A2, c2, hv2, _, hm2, _⟩ := hsl rs[k] (List.getElem_mem hlt)
        unfold maxLen at hm2
        rw [hv2] at e2
        have hzz : b1 < w1.heap.size := by omega
        clear hcell1 h1 hsl hv2 hb' hB0 hl
        generalize hxu : rs[k].up = xu at *
        generalize hxt : rs[k].start = xt at *
        generalize hxn : rs[k].ships.length = xn at *
        have HXU := hide hxu; have HXT := hide hxt
        clear hxu hxt hxn
        by_cases hq : inB xt 0 2880 = true
        · have hq' : 0 ≤ xt ∧ xt ≤ 2880 := by simp [inB] at hq; omega
          obtain ⟨q0, q1⟩ := hq'
          by_cases hu : xu = up
          · have hu1 : (xu == up) = true := by simpa using hu
            have Fin2 := hide (show nextLast x2 rs[k].d up ready = max ready (xt + 2 * x2) by simp [nextLast, LockR.d, HXT.out, HXU.out, hq, hu])
            clear hu
            go_wp2_with (go_at_call 74; refine (isMinute_any _ _).mono ?_; rintro e w' ⟨rfl, rfl⟩)
            all_goals go_ret
            all_goals exact ⟨ret_int (by rw [Fin.out, Fin2.out]; omega), (by repeat (first | exact Below.refl _ _ | assumption | refine Below.setCell ?_ (by first | omega | (simp <;> omega)) _ | refine Below.alloc ?_ (by first | omega | (simp <;> omega)) _ | refine below_drewN ?_ _ | refine Below.drew ?_ | refine Below.trans ?_ (Below.mono (by assumption) (by first | omega | (simp <;> omega)))))⟩
          · have hu1 : (xu == up) = false := by simpa using hu
            have Fin2 := hide (show nextLast x2 rs[k].d up ready = max ready (xt + x2) by simp [nextLast, LockR.d, HXT.out, HXU.out, hq, hu])
            clear hu
            go_wp2_with (go_at_call 74; refine (isMinute_any _ _).mono ?_; rintro e w' ⟨rfl, rfl⟩)
            all_goals go_ret
            all_goals exact ⟨ret_int (by rw [Fin.out, Fin2.out]; omega), (by repeat (first | exact Below.refl _ _ | assumption | refine Below.setCell ?_ (by first | omega | (simp <;> omega)) _ | refine Below.alloc ?_ (by first | omega | (simp <;> omega)) _ | refine below_drewN ?_ _ | refine Below.drew ?_ | refine Below.trans ?_ (Below.mono (by assumption) (by first | omega | (simp <;> omega)))))⟩
        · have hq1 : inB xt 0 2880 = false := by simpa using hq
          have Fin2 := hide (show nextLast x2 rs[k].d up ready = -1 by simp [nextLast, LockR.d, HXT.out, hq])
          clear hq
          go_wp2_with (go_at_call 74; refine (isMinute_any _ _).mono ?_; rintro e w' ⟨rfl, rfl⟩)
          go_ret
          exact ⟨ret_int (by rw [Fin.out, Fin2.out]), (by repeat (first | exact Below.refl _ _ | assumption | refine Below.setCell ?_ (by first | omega | (simp <;> omega)) _ | refine Below.alloc ?_ (by first | omega | (simp <;> omega)) _ | refine below_drewN ?_ _ | refine Below.drew ?_ | refine Below.trans ?_ (Below.mono (by assumption) (by first | omega | (simp <;> omega)))))⟩
    · have Fin := hide (show nextTurn x0 x1 x2 (rs.map LockR.d) up ready = -1 by unfold nextTurn; rw [if_neg (fun h => hn h.2)])
      have hn1 : inB ready 0 2880 = false := by simpa using hn
      clear hn h1 hsl
      go_enter Try.func46, Try.ntmps46
      go_wp2_with (first | (go_at_call 28; refine (impl_ChamberOk_any _ _ _ _).mono ?_; rintro e w1 ⟨rfl, hb'⟩; (first | have hb := bnext hb hb' | have hb := bnextA hb hb' | have hb := hb'); clear hb'; obtain ⟨hc, hf⟩ := bcell hb; have hz := hb.size; (try simp at hz)) | (go_at_call 74; refine (isMinute_any _ _).mono ?_; rintro e w' ⟨rfl, rfl⟩))
      go_ret
      exact ⟨ret_int (by rw [Fin.out]), (by repeat (first | exact Below.refl _ _ | assumption | refine Below.setCell ?_ (by first | omega | (simp <;> omega)) _ | refine Below.alloc ?_ (by first | omega | (simp <;> omega)) _ | refine below_drewN ?_ _ | refine Below.drew ?_ | refine Below.trans ?_ (Below.mono (by assumption) (by first | omega | (simp <;> omega)))))⟩
  · have Fin := hide (show nextTurn x0 x1 x2 (rs.map LockR.d) up ready = -1 by unfold nextTurn; rw [if_neg (fun h => hk h.1)])
    have hk1 : chOk x0 x1 x2 = false := by simpa using hk
    clear hk h1 hsl
    go_enter Try.func46, Try.ntmps46
    go_wp2_with (first | (go_at_call 28; refine (impl_ChamberOk_any _ _ _ _).mono ?_; rintro e w1 ⟨rfl, hb'⟩; (first | have hb := bnext hb hb' | have hb := bnextA hb hb' | have hb := hb'); clear hb'; obtain ⟨hc, hf⟩ := bcell hb; have hz := hb.size; (try simp at hz)) | (go_at_call 74; refine (isMinute_any _ _).mono ?_; rintro e w' ⟨rfl, rfl⟩))
    go_ret
    exact ⟨ret_int (by rw [Fin.out]), (by repeat (first | exact Below.refl _ _ | assumption | refine Below.setCell ?_ (by first | omega | (simp <;> omega)) _ | refine Below.alloc ?_ (by first | omega | (simp <;> omega)) _ | refine below_drewN ?_ _ | refine Below.drew ?_ | refine Below.trans ?_ (Below.mono (by assumption) (by first | omega | (simp <;> omega)))))⟩
end Go.Proofs.Ytjmffhpfmfmnlaa
