/- Names: 1 to 8 bytes, the first from a to z, the others from a to z or 0 to 9; ships, fleets, berths that have them. No condition. -/
import Derived.Test.YtjfppjhlkeopnaaScal
namespace Go.Proofs.Ytjfppjhlkeopnaa
open Go.RowKit
set_option linter.unusedVariables false

/-- byte c may stand at place i of a name -/
def charOk (i : Nat) (c : Nat) : Bool := (decide (97 ≤ c) && decide (c ≤ 122)) || (decide (i ≠ 0) && decide (48 ≤ c) && decide (c ≤ 57))
def charsOk (s : ByteArray) (k : Nat) : Bool := (List.range k).all fun i => charOk i (s.data.toList.getD i 0).toNat
def isName (s : ByteArray) : Bool := inB s.size 1 8 && charsOk s s.size
theorem charsOk_succ {s : ByteArray} {k : Nat} (h : charsOk s k = true) (hk : k < s.size) (hc : charOk k s[k].toNat = true) : charsOk s (k + 1) = true := by
  unfold charsOk at *
  rw [List.range_succ, List.all_append, h]
  have e : s.data.toList.getD k 0 = s[k] := by
    rw [List.getD_eq_getElem?_getD, List.getElem?_eq_getElem (by rw [← ba_size]; exact hk)]; rfl
  simp only [List.all_cons, List.all_nil, Bool.and_true, e, hc]
theorem charsOk_bad {s : ByteArray} {k : Nat} (hk : k < s.size) (hc : charOk k s[k].toNat = false) : charsOk s s.size = false := by
  unfold charsOk
  rw [List.all_eq_false]
  refine ⟨k, by simpa using hk, ?_⟩
  have e : s.data.toList.getD k 0 = s[k] := by
    rw [List.getD_eq_getElem?_getD, List.getElem?_eq_getElem (by rw [← ba_size]; exact hk)]; rfl
  rw [e, hc]; simp

set_option maxHeartbeats 4000000 in
theorem spec_IsName_any (s : ByteArray) (w : World) (hs : s.size ≤ maxLen) :
    Calls Try.prog 62 #[.string s] w fun e w' => e = .returned (.bool (isName s)) ∧ Below w.heap.size w w' := by
  unfold maxLen at hs
  go_enter Try.func62, Try.ntmps62
  go_wp2
  go_loopw [3] (fun i wr => ∃ k : Nat, k ≤ s.size ∧ i = .int .i64 k ∧ Hid (charsOk s k = true) ∧ Below w.heap.size w wr) (fun i _ => s.size - (intOf i).toNat)
  case atStart => exact ⟨0, Nat.zero_le _, rfl, hide rfl, Below.refl _ _⟩
  case round =>
    obtain ⟨k, hk, rfl, HC, hb⟩ := hrel
    by_cases hlt : k < s.size
    · skip
      have hcs : (97 ≤ s[k].toNat ∧ s[k].toNat ≤ 122) ∨ (k = 0 ∧ s[k].toNat < 97) ∨ (k = 0 ∧ 122 < s[k].toNat) ∨ (k ≠ 0 ∧ 48 ≤ s[k].toNat ∧ s[k].toNat ≤ 57) ∨ (k ≠ 0 ∧ s[k].toNat < 48) ∨ (k ≠ 0 ∧ 57 < s[k].toNat ∧ s[k].toNat < 97) ∨ (k ≠ 0 ∧ 122 < s[k].toNat) := by omega
      rcases hcs with ⟨c1, c2⟩ | ⟨c0, c1⟩ | ⟨c0, c1⟩ | ⟨c0, c1, c2⟩ | ⟨c0, c1⟩ | ⟨c0, c1, c2⟩ | ⟨c0, c1⟩
      · have hc := hide (show charOk k s[k].toNat = true by simp [charOk, c1, c2])
        have d1 : (97 : Int) ≤ (s[k].toNat : Int) := by omega
        have d2 : (s[k].toNat : Int) ≤ 122 := by omega
        clear c1 c2
        go_wp2
        go_roundw
        case rel => exact ⟨k + 1, by omega, by go_num, hide (charsOk_succ HC.out hlt hc.out), hb⟩
        case measure => simp [intOf]; omega
      · subst c0
        have hc := hide (show charOk 0 s[0].toNat = false by simp [charOk]; omega)
        have d1 : (s[0].toNat : Int) < 97 := by omega
        clear c1
        go_wp2
        go_ret
        exact ⟨by simp [isName, charsOk_bad hlt hc.out], hb⟩
      · subst c0
        have hc := hide (show charOk 0 s[0].toNat = false by simp [charOk]; omega)
        have d0 : (97 : Int) ≤ (s[0].toNat : Int) := by omega
        have d1 : decide ((s[0].toNat : Int) ≤ 122) = false := by simp; omega
        clear c1
        go_wp2
        go_ret
        exact ⟨by simp [isName, charsOk_bad hlt hc.out], hb⟩
      · have hc := hide (show charOk k s[k].toNat = true by simp [charOk, c0, c1, c2])
        have d0 : ((k : Int) == 0) = false := by simpa using c0
        have d1 : (s[k].toNat : Int) < 97 := by omega
        have d2 : (48 : Int) ≤ (s[k].toNat : Int) := by omega
        have d3 : (s[k].toNat : Int) ≤ 57 := by omega
        clear c1 c2
        go_wp2
        go_roundw
        case rel => exact ⟨k + 1, by omega, by go_num, hide (charsOk_succ HC.out hlt hc.out), hb⟩
        case measure => simp [intOf]; omega
      · have hc := hide (show charOk k s[k].toNat = false by simp [charOk]; omega)
        have d0 : ((k : Int) == 0) = false := by simpa using c0
        have d1 : (s[k].toNat : Int) < 97 := by omega
        have d2 : (s[k].toNat : Int) < 48 := by omega
        clear c1
        go_wp2
        go_ret
        exact ⟨by simp [isName, charsOk_bad hlt hc.out], hb⟩
      · have hc := hide (show charOk k s[k].toNat = false by simp [charOk]; omega)
        have d0 : ((k : Int) == 0) = false := by simpa using c0
        have d1 : (s[k].toNat : Int) < 97 := by omega
        have d2 : (48 : Int) ≤ (s[k].toNat : Int) := by omega
        have d3 : (57 : Int) < (s[k].toNat : Int) := by omega
        clear c1 c2
        go_wp2
        go_ret
        exact ⟨by simp [isName, charsOk_bad hlt hc.out], hb⟩
      · have hc := hide (show charOk k s[k].toNat = false by simp [charOk]; omega)
        have d0 : ((k : Int) == 0) = false := by simpa using c0
        have d1 : (97 : Int) ≤ (s[k].toNat : Int) := by omega
        have d2 : (48 : Int) ≤ (s[k].toNat : Int) := by omega
        have d3 : (57 : Int) < (s[k].toNat : Int) := by omega
        have d4 : decide ((s[k].toNat : Int) ≤ 122) = false := by simp; omega
        clear c1
        go_wp2
        go_ret
        exact ⟨by simp [isName, charsOk_bad hlt hc.out], hb⟩
    · obtain rfl : k = s.size := by omega
      go_wp2_with fail
      refine (l01In_any _ _ _ _).mono ?_; rintro e w' ⟨rfl, rfl⟩
      go_wp2
      go_ret
      exact ⟨by simp [isName, HC.out], hb⟩
set_option maxHeartbeats 4000000 in
theorem impl_IsName_any (s : ByteArray) (w : World) (hs : s.size ≤ maxLen) :
    Calls Try.prog 64 #[.string s] w fun e w' => e = .returned (.bool (isName s)) ∧ Below w.heap.size w w' := by
  unfold maxLen at hs
  by_cases hin : inB s.size 1 8 = true
  · go_enter Try.func64, Try.ntmps64
    go_wp2_with (go_at_call 65; refine (within_any _ _ _ _).mono ?_; rintro e w' ⟨rfl, hw⟩; obtain rfl := hw.symm)
    have HI := hide hin
    clear hin
    go_loopw [3] (fun i wr => ∃ k : Nat, k ≤ s.size ∧ i = .int .i64 k ∧ Hid (charsOk s k = true) ∧ Below w.heap.size w wr) (fun i _ => s.size - (intOf i).toNat)
    case atStart => exact ⟨0, Nat.zero_le _, rfl, hide rfl, Below.refl _ _⟩
    case round =>
      obtain ⟨k, hk, rfl, HC, hb⟩ := hrel
      by_cases hlt : k < s.size
      · skip
        have hcs : (97 ≤ s[k].toNat ∧ s[k].toNat ≤ 122) ∨ (k = 0 ∧ s[k].toNat < 97) ∨ (k = 0 ∧ 122 < s[k].toNat) ∨ (k ≠ 0 ∧ 48 ≤ s[k].toNat ∧ s[k].toNat ≤ 57) ∨ (k ≠ 0 ∧ s[k].toNat < 48) ∨ (k ≠ 0 ∧ 57 < s[k].toNat ∧ s[k].toNat < 97) ∨ (k ≠ 0 ∧ 122 < s[k].toNat) := by omega
        rcases hcs with ⟨c1, c2⟩ | ⟨c0, c1⟩ | ⟨c0, c1⟩ | ⟨c0, c1, c2⟩ | ⟨c0, c1⟩ | ⟨c0, c1, c2⟩ | ⟨c0, c1⟩
        · have hc := hide (show charOk k s[k].toNat = true by simp [charOk, c1, c2])
          have d1 : (97 : Int) ≤ (s[k].toNat : Int) := by omega
          have d2 : (s[k].toNat : Int) ≤ 122 := by omega
          clear c1 c2
          go_wp2
          go_roundw
          case rel => exact ⟨k + 1, by omega, by go_num, hide (charsOk_succ HC.out hlt hc.out), hb⟩
          case measure => simp [intOf]; omega
        · subst c0
          have hc := hide (show charOk 0 s[0].toNat = false by simp [charOk]; omega)
          have d1 : (s[0].toNat : Int) < 97 := by omega
          clear c1
          go_wp2
          go_ret
          exact ⟨by simp [isName, charsOk_bad hlt hc.out], hb⟩
        · subst c0
          have hc := hide (show charOk 0 s[0].toNat = false by simp [charOk]; omega)
          have d0 : (97 : Int) ≤ (s[0].toNat : Int) := by omega
          have d1 : decide ((s[0].toNat : Int) ≤ 122) = false := by simp; omega
          clear c1
          go_wp2
          go_ret
          exact ⟨by simp [isName, charsOk_bad hlt hc.out], hb⟩
        · have hc := hide (show charOk k s[k].toNat = true by simp [charOk, c0, c1, c2])
          have d0 : ((k : Int) == 0) = false := by simpa using c0
          have d1 : (s[k].toNat : Int) < 97 := by omega
          have d2 : (48 : Int) ≤ (s[k].toNat : Int) := by omega
          have d3 : (s[k].toNat : Int) ≤ 57 := by omega
          clear c1 c2
          go_wp2
          go_roundw
          case rel => exact ⟨k + 1, by omega, by go_num, hide (charsOk_succ HC.out hlt hc.out), hb⟩
          case measure => simp [intOf]; omega
        · have hc := hide (show charOk k s[k].toNat = false by simp [charOk]; omega)
          have d0 : ((k : Int) == 0) = false := by simpa using c0
          have d1 : (s[k].toNat : Int) < 97 := by omega
          have d2 : (s[k].toNat : Int) < 48 := by omega
          clear c1
          go_wp2
          go_ret
          exact ⟨by simp [isName, charsOk_bad hlt hc.out], hb⟩
        · have hc := hide (show charOk k s[k].toNat = false by simp [charOk]; omega)
          have d0 : ((k : Int) == 0) = false := by simpa using c0
          have d1 : (s[k].toNat : Int) < 97 := by omega
          have d2 : (48 : Int) ≤ (s[k].toNat : Int) := by omega
          have d3 : (57 : Int) < (s[k].toNat : Int) := by omega
          clear c1 c2
          go_wp2
          go_ret
          exact ⟨by simp [isName, charsOk_bad hlt hc.out], hb⟩
        · have hc := hide (show charOk k s[k].toNat = false by simp [charOk]; omega)
          have d0 : ((k : Int) == 0) = false := by simpa using c0
          have d1 : (97 : Int) ≤ (s[k].toNat : Int) := by omega
          have d2 : (48 : Int) ≤ (s[k].toNat : Int) := by omega
          have d3 : (57 : Int) < (s[k].toNat : Int) := by omega
          have d4 : decide ((s[k].toNat : Int) ≤ 122) = false := by simp; omega
          clear c1
          go_wp2
          go_ret
          exact ⟨by simp [isName, charsOk_bad hlt hc.out], hb⟩
      · obtain rfl : k = s.size := by omega
        go_wp2
        go_ret
        exact ⟨by simp [isName, HC.out, HI.out], hb⟩
  · have hin' : inB s.size 1 8 = false := by simpa using hin
    clear hin
    have HI := hide hin'
    go_enter Try.func64, Try.ntmps64
    go_wp2_with (go_at_call 65; refine (within_any _ _ _ _).mono ?_; rintro e w' ⟨rfl, hw⟩; obtain rfl := hw.symm)
    go_ret
    exact ⟨by simp [isName, HI.out], Below.refl _ _⟩
end Go.Proofs.Ytjfppjhlkeopnaa
