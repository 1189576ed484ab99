/- A least cover, as the program makes it. No condition. -/
import Derived.Test.YtdbpgfbbkejljaaCovX
import Derived.Test.YtdbpgfbbkejljaaPersX
namespace Go.Proofs.Ytdbpgfbbkejljaa
open Go.RowKit
set_option linter.unusedVariables false
def LcRes (B : Nat → Nat → Bool) (n : Nat) (w : World) (e : Ending) (w' : World) : Prop :=
  ∃ (vw : Value) (m : Nat) (fs : List Nat), e = .returned (.tuple #[vw, .int .i64 m, .bool true]) ∧ LeastP B (fun i => i < n) m ∧ CovL B n m fs ∧ Own w' w.heap.size 3 1 encI vw (ints fs) ∧ Below w.heap.size w w'
set_option maxRecDepth 100000 in
set_option maxHeartbeats 16000000 in
theorem LeastCover_any (p : Int) (v1 v2 : Value) (ms : List Int) (xs : List DutyD) (w : World) (hd : dutiesOk xs = true) (ht : tableOk p ms = true) (h1 : RdI w v1 ms) (h2 : RdDuty w v2 xs) :
    Calls Try.prog 30 #[.int .i64 p, v1, v2] w (LcRes (bothD p ms xs) xs.length w) := by
  have h12 := dutiesOk_len hd
  have HR1 := hide h1; have HR2 := hide h2
  obtain ⟨A1, c1, rfl, hc1, hm1, h1⟩ := h1
  obtain ⟨A2, c2, rfl, hc2, hm2, h2⟩ := h2
  unfold maxLen at hm1 hm2
  clear h1 h2
  have HD := hide hd; have HT := hide ht
  have HDT := hide (show (dutiesOk xs && tableOk p ms) = true by rw [hd, ht]; rfl)
  clear hd ht
  go_enter Try.func30, Try.ntmps30
  go_wp2_with (go_at_call 44; with_reducible refine (coverable_any p _ _ ms xs _ HR1.out HR2.out).mono ?_; rintro e w1 ⟨rfl, hb1⟩; rw [HDT.out])
  have s1 := hb1.size
  refine (partners_any p _ _ ms xs _ ((HR1.out.keep hb1 (Nat.le_refl _)).mono s1) ((HR2.out.keep hb1 (Nat.le_refl _)).mono s1) h12).mono ?_
  rintro e w2 ⟨vs, rfl, hos, hb2⟩
  have HRS := hide (Own.rd encU_len hos)
  have s2 := hb2.size
  have hbw2 := bnext hb1 hb2 (Nat.le_refl _)
  clear hos
  obtain ⟨A3, c3, rfl, -, -, -⟩ := rdU_slice HRS.out
  go_wp2_with fail
  refine (leastPersons_any p ms xs _ _ h12 HRS.out).mono ?_
  rintro e w3 ⟨m, rfl, hlp, hb3⟩
  have hmn := least_le hlp
  have HLP := hide hlp
  have s3 := hb3.size
  have hbw3 := bnext hbw2 hb3 (Nat.le_refl _)
  have HRS3 := hide ((HRS.out.keep hb3 (Nat.le_refl _)).mono s3)
  clear hlp
  go_wp2_with fail
  obtain ⟨W4, hW4⟩ : ∃ W, w3.alloc (.cells #[.slice A3 xs.length c3, .int .i64 m, .slice none 0 0, .slice none 0 0] 77) = W := ⟨_, rfl⟩
  have hb4 : Below w3.heap.size w3 W4 := by rw [← hW4]; exact (Below.refl _ _).alloc (Nat.le_refl _) _
  have hst : CvSt W4 w3.heap.size (.slice A3 xs.length c3) (.slice none 0 0) (.slice none 0 0) m [] [] := by
    rw [← hW4]
    exact ⟨by simp [go_sem], by simp [go_sem], by simp [go_sem], by simp [go_sem], by simp [go_sem], by simp [go_sem], by simp, Own.nil_, Own.nil_, fun b hb => by simp [Value.ownBlock] at hb⟩
  rw [hW4]
  clear hW4
  have HST := hide hst; clear hst
  obtain ⟨X, hX⟩ : ∃ X, w3.heap.size = X := ⟨_, rfl⟩
  rw [hX] at hb4 s3 HRS3 HST ⊢
  refine (cover_any p ms xs X m _ h12 (by omega) xs.length [] [] _ _ W4 (by simp) (GInv.nil _ _) HST.out (HRS3.out.below hb4)).mono ?_
  rintro e w5 ⟨b, vg, vw, gs', ws', rfl, hst5, hb5, hyes, hno⟩
  cases b with
  | false => exact absurd (ExtP.start HLP.out.1) (hno rfl).2.2
  | true =>
    have hcl := hyes rfl
    have HCL := hide hcl
    have HS5 := hide hst5
    obtain ⟨A5, c5, rfl, -, -⟩ := own_slice encI_len hst5.ow (N := ws'.length) (ints_len _)
    have y1 := hst5.c1; have y3 := hst5.c3; have hXw := hst5.hl
    have hbw5 : Below w.heap.size w w5 := hbw3.trans ((hb4.trans hb5).mono (by omega))
    clear hyes hno hst5 hcl
    go_wp2
    go_quiet (fail)
    go_wp2
    go_ret3
    exact ⟨_, m, ws', rfl, HLP.out, HCL.out, (HS5.out.ow.mono (by omega)).below (below_drewN (Below.refl _ _) _), below_drewN hbw5 _⟩
end Go.Proofs.Ytdbpgfbbkejljaa
