/- The program counts the minutes of windows. No condition. -/
import Derived.Test.YtjfppjhlkeopnaaCntL
namespace Go.Proofs.Ytjfppjhlkeopnaa
open Go.RowKit
set_option linter.unusedVariables false
theorem cntW_take {xs : List WindowD} {k : Nat} (h : k < xs.length) : cntW (xs.take (k + 1)) = cntW (xs.take k) + (xs[k].fin - xs[k].start + 1) := by
  rw [List.take_succ_eq_append_getElem h]
  unfold cntW
  rw [List.map_append, List.sum_append]
  simp
theorem cntW_part {xs : List WindowD} {k : Nat} (h : WinOk xs 2881) (hk : k ≤ xs.length) : 0 ≤ cntW (xs.take k) ∧ cntW (xs.take k) ≤ 2881 := by
  refine cntW_range ⟨fun i hi => ?_, fun i hi => ?_⟩
  · rw [List.length_take] at hi
    rw [List.getElem_take]
    exact h.1 i (by omega)
  · rw [List.length_take] at hi
    rw [List.getElem_take, List.getElem_take]
    exact h.2 i (by omega)
set_option maxRecDepth 100000 in
set_option maxHeartbeats 8000000 in
theorem impl_CountMinutes_any (v : Value) (xs : List WindowD) (w : World) (h1 : RdWindow w v xs) (hok : WinOk xs 2881) :
    Calls Try.prog 55 #[v] w fun e w' => e = .returned (.int .i64 (cntW xs)) ∧ Below w.heap.size w w' := by
  have HR1 := hide h1
  obtain ⟨A1, c1, rfl, hc1, hm1, h1⟩ := h1
  unfold maxLen at hm1
  have H1 := hide h1; clear h1
  have HW := hide hok; clear hok
  go_enter Try.func55, Try.ntmps55
  go_wp2_with (go_at_call 87; with_reducible refine (impl_WindowsOk_any _ xs _ ((RdB.keep HR1.out (B' := w.heap.size) (by repeat (first | exact Below.refl _ _ | assumption | refine Below.setCell ?_ (by first | omega | (simp <;> omega)) _ | refine Below.alloc ?_ (by first | omega | (simp <;> omega)) _ | refine below_drewN ?_ _ | refine Below.drew ?_ | refine Below.trans ?_ (Below.mono (by assumption) (by first | omega | (simp <;> omega))))) (Nat.le_refl _)).mono (by first | omega | (simp <;> omega))) HW.out).mono ?_; rintro e w1 ⟨rfl, hb'⟩; (first | have hb := bnext hb hb' | have hb := bnextA hb hb' | have hb := hb'); clear hb'; obtain ⟨hc, hf⟩ := bcell hb; have hz := hb.size; (try simp at hz))
  clear hc hf hz
  go_loopw [3, 11] (fun o s wr => ∃ k : Nat, k ≤ xs.length ∧ s = .int .i64 k ∧ o = .int .i64 (cntW (xs.take k)) ∧ Below w.heap.size w wr) (fun _ s _ => xs.length - (intOf s).toNat)
  case atStart => exact ⟨0, Nat.zero_le _, rfl, rfl, hb⟩
  case round =>
    obtain ⟨k, hk, rfl, rfl, hbk⟩ := hrel
    obtain ⟨wo, rfl⟩ : ∃ wo : World, wo = wr := ⟨_, rfl⟩
    have hbs := hbk.size
    by_cases hlt : k < xs.length
    · obtain ⟨b1, o1, rfl, hb1, hcell1⟩ := H1.out (by omega)
      have e0 : wo.cell? ⟨b1, o1 + k * 2, none⟩ = some (.int .i64 xs[k].start) := by
        rw [hbk.cell (p := ⟨b1, _, none⟩) hb1]; have := hcell1 k xs[k] (List.getElem?_eq_getElem hlt) 0 _ rfl; simpa using this
      have e1 : wo.cell? ⟨b1, o1 + k * 2 + 1, none⟩ = some (.int .i64 xs[k].fin) := by
        rw [hbk.cell (p := ⟨b1, _, none⟩) hb1]; have := hcell1 k xs[k] (List.getElem?_eq_getElem hlt) 1 _ rfl; simpa using this
      have HT := hide (cntW_take hlt)
      have hr0 := cntW_part HW.out hk
      have hr1 := cntW_part HW.out (show k + 1 ≤ xs.length from hlt)
      have hx := HW.out.1 k hlt
      rw [HT.out] at hr1
      obtain ⟨x, hxe⟩ : ∃ x, xs[k] = x := ⟨_, rfl⟩
      obtain ⟨S, hS⟩ : ∃ S, cntW (xs.take k) = S := ⟨_, rfl⟩
      simp only [hxe, hS] at e0 e1 HT hx hr0 hr1 ⊢
      clear hcell1 hxe hS
      obtain ⟨hx0, hx1, hx2⟩ := hx
      have hB0 : Below wo.heap.size wo (wo.alloc (.cells #[.int .i64 x.start, .int .i64 x.fin] 117)) := (Below.refl _ _).alloc (Nat.le_refl _) _
      have q1 : IntKind.i64.wrap (x.fin - x.start) = x.fin - x.start := IntWalk.i64_in _ (by omega)
      have q2 : IntKind.i64.wrap (x.fin - x.start + 1) = x.fin - x.start + 1 := IntWalk.i64_in _ (by omega)
      have q3 : IntKind.i64.wrap (S + (x.fin - x.start + 1)) = S + (x.fin - x.start + 1) := IntWalk.i64_in _ (by omega)
      go_wp2_with fail
      go_roundw
      case rel => exact ⟨k + 1, by omega, by go_num, by rw [HT.out], bnext hbk hB0 (Nat.le_refl _)⟩
      case measure => simp [intOf]; omega
    · obtain rfl : k = xs.length := by omega
      have HT := hide (List.take_length (l := xs))
      go_wp2
      go_ret
      exact ⟨by rw [HT.out]; rfl, hbk⟩
end Go.Proofs.Ytjfppjhlkeopnaa
