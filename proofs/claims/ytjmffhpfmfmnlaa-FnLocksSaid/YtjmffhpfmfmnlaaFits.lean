/- Whether each ship fits alone: both texts. No condition. -/
import Derived.Test.YtjmffhpfmfmnlaaSome
import Derived.Test.YtjmffhpfmfmnlaaSeq
namespace Go.Proofs.Ytjmffhpfmfmnlaa
open Go.RowKit
set_option linter.unusedVariables false
def fitL (L n : Int) : Bool := decide (n ≤ L)
def lockFits (x0 x1 x2 : Int) (ns : List Int) : Bool := chOk x0 x1 x2 && lengthsOk ns && ns.all (fitL x0)
def overAt (L : Int) (ns : List Int) (k : Nat) : Bool := !fitL L (ns.getD k default)
theorem over_all (L : Int) (ns : List Int) : decide (0 ≤ firstUpTo (overAt L ns) ns.length) = !ns.all (fitL L) := by
  cases h : ns.all (fitL L)
  · have : ∃ k, k < ns.length ∧ overAt L ns k = true := by
      simp only [List.all_eq_false] at h
      obtain ⟨x, hx, hf⟩ := h
      obtain ⟨k, hk, rfl⟩ := List.getElem_of_mem hx
      refine ⟨k, hk, ?_⟩
      unfold overAt
      rw [getD_at hk]
      simpa using hf
    have hne : firstUpTo (overAt L ns) ns.length ≠ -1 := by
      intro e
      obtain ⟨k, hk, hf⟩ := this
      have hg : ∀ j, j < ns.length → overAt L ns j = false := by
        intro j hj
        cases hj2 : overAt L ns j
        · rfl
        · exfalso
          have : ∀ n, j < n → 0 ≤ firstUpTo (overAt L ns) n := by
            intro n
            induction n with
            | zero => intro h; omega
            | succ n ih =>
              intro h
              unfold firstUpTo
              by_cases e2 : j = n
              · subst e2; first | (split <;> omega) | (simp [hj2]; split <;> omega)
              · have := ih (by omega)
                split <;> omega
          have := this ns.length hj
          omega
      rw [hg k hk] at hf
      cases hf
    have := firstUpTo_range (overAt L ns) ns.length
    simp; omega
  · have : ∀ k, k < ns.length → overAt L ns k = false := by
      intro k hk
      unfold overAt
      rw [getD_at hk, List.all_eq_true.1 h _ (List.getElem_mem hk)]
      rfl
    rw [firstUpTo_none this]
    rfl
theorem RdB.part {α : Type} {w : World} {B sz b o c : Nat} {enc : α → List Value} {xs : List α} (h : RdB w B sz enc (.slice (some ⟨b, o, none⟩) xs.length c) xs) (i n : Nat) (hn : i + n ≤ xs.length) (hc : xs.length ≤ c) : RdB w B sz enc (.slice (some ⟨b, o + i * sz, none⟩) n (c - i)) ((xs.drop i).take n) := by
  obtain ⟨A, c', hv, h1, h2, h3⟩ := h
  injection hv with hA _ hc'
  subst hA hc'
  have hl : ((xs.drop i).take n).length = n := by simp; omega
  refine ⟨_, c - i, by rw [hl], by rw [hl]; omega, by omega, fun h0 => ?_⟩
  rw [hl] at h0
  obtain ⟨b', o', hbo, hlt, hcell⟩ := h3 (by omega)
  injection hbo with hbo
  injection hbo with hb ho
  subst hb ho
  refine ⟨b, o + i * sz, rfl, hlt, fun j x hj u v hu => ?_⟩
  have hjn : j < n := by
    have := (List.getElem?_eq_some_iff.1 hj).1
    omega
  rw [List.getElem?_take, if_pos hjn, List.getElem?_drop] at hj
  have := hcell (i + j) x hj u v hu
  rw [show o + i * sz + j * sz + u = o + (i + j) * sz + u by rw [Nat.add_mul]; omega]
  exact this
set_option maxRecDepth 100000 in
set_option maxHeartbeats 8000000 in
theorem l10Fits_any (x0 x1 x2 : Int) (v1 : Value) (ns : List Int) (w : World) (h1 : RdI w v1 ns) :
    Calls Try.prog 56 #[.agg #[.int .i64 x0, .int .i64 x1, .int .i64 x2], v1] w fun e w' => e = .returned (.bool (lockFits x0 x1 x2 ns)) ∧ Below w.heap.size w w' := by
  have HR1 := hide h1
  obtain ⟨A1, c1, rfl, hc1, hm1, h1⟩ := h1
  unfold maxLen at hm1
  have H1 := hide h1; clear h1
  rcases ch2 (chOk x0 x1 x2) (lengthsOk ns) with ⟨g1, g2⟩ | g1 | ⟨g1, g2⟩
  · have HP := hide (show lockFits x0 x1 x2 ns = ns.all (fitL x0) by unfold lockFits; rw [g1, g2]; rfl)
    go_enter Try.func56, Try.ntmps56
    go_wp2_with (first
      | (go_at_call 50; with_reducible refine (spec_ChamberOk_any _ _ _ _).mono ?_; rintro e w1 ⟨rfl, hb'⟩; (first | have hb := bnext hb hb' | have hb := bnextA hb hb' | have hb := hb'); clear hb'; obtain ⟨hc, hf⟩ := bcell hb; have hz := hb.size; (try simp at hz))
      | (go_at_call 51; with_reducible refine (spec_LengthsOk_any _ ns _ ((RdB.keep HR1.out (B' := w.heap.size) (by repeat (first | exact Below.refl _ _ | assumption | refine Below.setCell ?_ (by first | omega | (simp <;> omega)) _ | refine Below.alloc ?_ (by first | omega | (simp <;> omega)) _ | refine below_drewN ?_ _ | refine Below.drew ?_ | refine Below.trans ?_ (Below.mono (by assumption) (by first | omega | (simp <;> omega))))) (Nat.le_refl _)).mono (by first | omega | (simp <;> omega)))).mono ?_; rintro e w1 ⟨rfl, hb'⟩; (first | have hb := bnext hb hb' | have hb := bnextA hb hb' | have hb := hb'); clear hb'; obtain ⟨hc, hf⟩ := bcell hb; have hz := hb.size; (try simp at hz)))
    clear g1 g2
    have z0 : w1.cell? ⟨w.heap.size, 0, none⟩ = some (.int .i64 x0) := by rw [hc _ _ (by simp)]; simp [go_sem]
    have hbw : Below w.heap.size w w1 := (by repeat (first | exact Below.refl _ _ | assumption | refine Below.setCell ?_ (by first | omega | (simp <;> omega)) _ | refine Below.alloc ?_ (by first | omega | (simp <;> omega)) _ | refine below_drewN ?_ _ | refine Below.drew ?_ | refine Below.trans ?_ (Below.mono (by assumption) (by first | omega | (simp <;> omega)))))
    have hs1 := hb.size
    simp only [World.size_alloc] at hs1
    clear hc hf hz hb
    go_loopw [17] (fun i wr => ∃ k : Nat, k ≤ ns.length ∧ i = .int .i64 k ∧ Hid ((ns.drop k).all (fitL x0) = ns.all (fitL x0)) ∧ wr = w1) (fun i _ => ns.length - (intOf i).toNat)
    case atStart => exact ⟨0, Nat.zero_le _, rfl, hide rfl, rfl⟩
    case round =>
      obtain ⟨k, hk, rfl, HN, rfl⟩ := hrel
      by_cases hlt : k < ns.length
      · obtain ⟨b1, o1, rfl, hb1, hcell1⟩ := H1.out (by omega)
        have e0 : wr.cell? ⟨b1, o1 + k, none⟩ = some (.int .i64 (ns[k])) := by
          rw [hbw.cell (p := ⟨b1, _, none⟩) hb1]; have := hcell1 k ns[k] (List.getElem?_eq_getElem hlt) 0 _ rfl; simpa using this
        clear hcell1
        have HA := hide (fun h : fitL x0 ns[k] = true => all_step HN.out hlt h)
        have HB := hide (fun h : fitL x0 ns[k] = false => all_bad (f := fitL x0) hlt h)
        obtain ⟨x, hx⟩ : ∃ x, ns[k] = x := ⟨_, rfl⟩
        rw [hx] at e0
        simp only [hx] at HA HB
        clear hx
        by_cases hgt : x0 < x
        · have HF := hide (show lockFits x0 x1 x2 ns = false by rw [HP.out]; exact HB.out (by simp [fitL]; omega))
          go_wp2
          go_ret
          exact ⟨by rw [HF.out]; first | done | rfl, hbw⟩
        · have HG := hide (HA.out (by simp [fitL]; omega))
          go_wp2
          go_roundw
          case rel => exact ⟨k + 1, by omega, by go_num, HG, by first | rfl | trivial⟩
          case measure => simp [intOf]; omega
      · obtain rfl : k = ns.length := by omega
        have HE := hide (show lockFits x0 x1 x2 ns = true by rw [HP.out]; exact all_end HN.out)
        go_wp2
        go_ret
        exact ⟨by rw [HE.out]; first | done | rfl, hbw⟩
  all_goals
    have HP := hide (show lockFits x0 x1 x2 ns = false by unfold lockFits; simp [*])
    go_enter Try.func56, Try.ntmps56
    go_wp2_with (first
      | (go_at_call 50; with_reducible refine (spec_ChamberOk_any _ _ _ _).mono ?_; rintro e w1 ⟨rfl, hb'⟩; (first | have hb := bnext hb hb' | have hb := bnextA hb hb' | have hb := hb'); clear hb'; obtain ⟨hc, hf⟩ := bcell hb; have hz := hb.size; (try simp at hz))
      | (go_at_call 51; with_reducible refine (spec_LengthsOk_any _ ns _ ((RdB.keep HR1.out (B' := w.heap.size) (by repeat (first | exact Below.refl _ _ | assumption | refine Below.setCell ?_ (by first | omega | (simp <;> omega)) _ | refine Below.alloc ?_ (by first | omega | (simp <;> omega)) _ | refine below_drewN ?_ _ | refine Below.drew ?_ | refine Below.trans ?_ (Below.mono (by assumption) (by first | omega | (simp <;> omega))))) (Nat.le_refl _)).mono (by first | omega | (simp <;> omega)))).mono ?_; rintro e w1 ⟨rfl, hb'⟩; (first | have hb := bnext hb hb' | have hb := bnextA hb hb' | have hb := hb'); clear hb'; obtain ⟨hc, hf⟩ := bcell hb; have hz := hb.size; (try simp at hz)))
    go_ret
    exact ⟨by rw [HP.out]; first | done | rfl, (by repeat (first | exact Below.refl _ _ | assumption | refine Below.setCell ?_ (by first | omega | (simp <;> omega)) _ | refine Below.alloc ?_ (by first | omega | (simp <;> omega)) _ | refine below_drewN ?_ _ | refine Below.drew ?_ | refine Below.trans ?_ (Below.mono (by assumption) (by first | omega | (simp <;> omega)))))⟩
set_option maxHeartbeats 1000000 in
theorem lockClo_any (n x0 : Int) (B : Nat) (w : World) (h : w.cell? ⟨B, 0, none⟩ = some (.int .i64 x0)) :
    Calls Try.prog 85 #[.int .i64 n, .pointer (some ⟨B, 0, none⟩)] w fun e w' => e = .returned (.bool (decide (x0 < n))) ∧ w' = w := by
  go_enter Try.func85, Try.ntmps85
  go_wp2
  go_ret
  exact ⟨rfl, rfl⟩
set_option maxRecDepth 100000 in
set_option maxHeartbeats 8000000 in
theorem lockIdx_any (x0 : Int) (B : Nat) (v1 : Value) (ns : List Int) (w : World) (h1 : RdI w v1 ns) (h : w.cell? ⟨B, 0, none⟩ = some (.int .i64 x0)) :
    Calls Try.prog 96 #[v1, .func (.func 85) #[] #[.pointer (some ⟨B, 0, none⟩)]] w fun e w' => e = .returned (.int .i64 (firstUpTo (overAt x0 ns) ns.length)) ∧ w' = w := by
  obtain ⟨A1, c1, rfl, hc1, hm1, h1⟩ := h1
  unfold maxLen at hm1
  have H1 := hide h1; clear h1
  go_enter Try.func96, Try.ntmps96
  go_wp2
  go_loopw [8] (fun i wr => ∃ k : Nat, k ≤ ns.length ∧ i = .int .i64 k ∧ Hid (∀ j, j < k → overAt x0 ns j = false) ∧ wr = w) (fun i _ => ns.length - (intOf i).toNat)
  case atStart => exact ⟨0, Nat.zero_le _, rfl, hide (fun j hj => by omega), rfl⟩
  case round =>
    obtain ⟨k, hk, rfl, HN, rfl⟩ := hrel
    by_cases hlt : k < ns.length
    · obtain ⟨b1, o1, rfl, hb1, hcell1⟩ := H1.out (by omega)
      have e0 : wr.cell? ⟨b1, o1 + k, none⟩ = some (.int .i64 ns[k]) := by have := hcell1 k ns[k] (List.getElem?_eq_getElem hlt) 0 _ rfl; simpa using this
      have HX := hide (show overAt x0 ns k = !decide (ns[k] ≤ x0) by unfold overAt fitL; rw [getD_at hlt])
      clear hcell1
      obtain ⟨x, hx⟩ : ∃ x, ns[k] = x := ⟨_, rfl⟩
      rw [hx] at e0 HX
      clear hx
      by_cases hgt : x0 < x
      · have HF := hide (show firstUpTo (overAt x0 ns) ns.length = (k : Int) from firstUpTo_hit HN.out (by rw [HX.out]; simp; omega) hlt)
        have hd : decide (x0 < x) = true := by simpa using hgt
        go_wp2_with (go_at_call 85; with_reducible refine (lockClo_any _ x0 B _ h).mono ?_; rintro e w' ⟨rfl, hw⟩; obtain rfl := hw.symm)
        go_ret
        exact ⟨ret_int (by rw [HF.out]), by first | rfl | trivial⟩
      · have HG := hide (none_succ HN.out (show overAt x0 ns k = false by rw [HX.out]; simp; omega))
        have hd : decide (x0 < x) = false := by simpa using hgt
        go_wp2_with (go_at_call 85; with_reducible refine (lockClo_any _ x0 B _ h).mono ?_; rintro e w' ⟨rfl, hw⟩; obtain rfl := hw.symm)
        go_roundw
        case rel => exact ⟨k + 1, by omega, by go_num, HG, by first | rfl | trivial⟩
        case measure => simp [intOf]; omega
    · obtain rfl : k = ns.length := by omega
      have HF := hide (firstUpTo_none HN.out)
      go_wp2
      go_ret
      exact ⟨ret_int (by rw [HF.out]), by first | rfl | trivial⟩
set_option maxHeartbeats 1000000 in
theorem lockCont_any (x0 : Int) (B : Nat) (v1 : Value) (ns : List Int) (w : World) (h1 : RdI w v1 ns) (h : w.cell? ⟨B, 0, none⟩ = some (.int .i64 x0)) :
    Calls Try.prog 84 #[v1, .func (.func 85) #[] #[.pointer (some ⟨B, 0, none⟩)]] w fun e w' => e = .returned (.bool (!ns.all (fitL x0))) ∧ w' = w := by
  have HR1 := hide h1
  obtain ⟨A1, c1, rfl, hc1, hm1, h1⟩ := h1
  clear h1
  have HO := hide (over_all x0 ns)
  go_enter Try.func84, Try.ntmps84
  go_wp2_with (go_at_call 96; with_reducible refine (lockIdx_any x0 B _ ns _ HR1.out h).mono ?_; rintro e w' ⟨rfl, hw⟩; obtain rfl := hw.symm)
  go_ret
  exact ⟨by rw [← HO.out]; first | done | rfl, rfl⟩
set_option maxRecDepth 100000 in
set_option maxHeartbeats 8000000 in
theorem lockable_any (x0 x1 x2 : Int) (v1 : Value) (ns : List Int) (w : World) (h1 : RdI w v1 ns) :
    Calls Try.prog 57 #[.agg #[.int .i64 x0, .int .i64 x1, .int .i64 x2], v1] w fun e w' => e = .returned (.bool (lockFits x0 x1 x2 ns)) ∧ Below w.heap.size w w' := by
  have HR1 := hide h1
  obtain ⟨A1, c1, rfl, hc1, hm1, h1⟩ := h1
  unfold maxLen at hm1
  clear h1
  have HP := hide (show lockFits x0 x1 x2 ns = (chOk x0 x1 x2 && lengthsOk ns && ns.all (fitL x0)) from rfl)
  rcases ch3 (chOk x0 x1 x2) (lengthsOk ns) (ns.all (fitL x0)) with ⟨g1, g2, g3⟩ | g1 | ⟨g1, g2⟩ | ⟨g1, g2, g3⟩
  all_goals
    go_enter Try.func57, Try.ntmps57
    go_wp2_with (first
      | (go_at_call 28; with_reducible refine (impl_ChamberOk_any _ _ _ _).mono ?_; rintro e w1 ⟨rfl, hb'⟩; (first | have hb := bnext hb hb' | have hb := bnextA hb hb' | have hb := hb'); clear hb'; obtain ⟨hc, hf⟩ := bcell hb; have hz := hb.size; (try simp at hz))
      | (go_at_call 29; with_reducible refine (impl_LengthsOk_any _ ns _ ((RdB.keep HR1.out (B' := w.heap.size) (by repeat (first | exact Below.refl _ _ | assumption | refine Below.setCell ?_ (by first | omega | (simp <;> omega)) _ | refine Below.alloc ?_ (by first | omega | (simp <;> omega)) _ | refine below_drewN ?_ _ | refine Below.drew ?_ | refine Below.trans ?_ (Below.mono (by assumption) (by first | omega | (simp <;> omega))))) (Nat.le_refl _)).mono (by first | omega | (simp <;> omega)))).mono ?_; rintro e w1 ⟨rfl, hb'⟩; (first | have hb := bnext hb hb' | have hb := bnextA hb hb' | have hb := hb'); clear hb'; obtain ⟨hc, hf⟩ := bcell hb; have hz := hb.size; (try simp at hz))
      | (go_at_call 84; with_reducible refine (lockCont_any x0 w.heap.size _ ns _ ((RdB.keep HR1.out (B' := w.heap.size) (by repeat (first | exact Below.refl _ _ | assumption | refine Below.setCell ?_ (by first | omega | (simp <;> omega)) _ | refine Below.alloc ?_ (by first | omega | (simp <;> omega)) _ | refine below_drewN ?_ _ | refine Below.drew ?_ | refine Below.trans ?_ (Below.mono (by assumption) (by first | omega | (simp <;> omega))))) (Nat.le_refl _)).mono (by first | omega | (simp <;> omega))) (by rw [hc _ _ (by simp)]; simp [go_sem])).mono ?_; rintro e w' ⟨rfl, hw⟩; obtain rfl := hw.symm))
    go_ret
    exact ⟨by rw [HP.out]; simp [*], (by repeat (first | exact Below.refl _ _ | assumption | refine Below.setCell ?_ (by first | omega | (simp <;> omega)) _ | refine Below.alloc ?_ (by first | omega | (simp <;> omega)) _ | refine below_drewN ?_ _ | refine Below.drew ?_ | refine Below.trans ?_ (Below.mono (by assumption) (by first | omega | (simp <;> omega)))))⟩
end Go.Proofs.Ytjmffhpfmfmnlaa
