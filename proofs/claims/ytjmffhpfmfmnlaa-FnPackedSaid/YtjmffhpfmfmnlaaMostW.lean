/- How many ships can be packed together: both texts. No condition. -/
import Derived.Test.YtjmffhpfmfmnlaaShelfSb
import Derived.Test.YtjmffhpfmfmnlaaLeastW
import Derived.Test.YtjmffhpfmfmnlaaMostL
import Derived.Test.YtjmffhpfmfmnlaaAppI
import Derived.Test.YtjmffhpfmfmnlaaIsPack
import Derived.Sort.OwnSortedInts
namespace Go.Proofs.Ytjmffhpfmfmnlaa
open Go.RowKit
set_option linter.unusedVariables false
def sortL (xs : List Int) : List Int := xs.mergeSort fun x y => decide (x ≤ y)
theorem sortL_len (xs : List Int) : (sortL xs).length = xs.length := List.length_mergeSort xs
theorem sortL_perm (xs : List Int) : (sortL xs).Perm xs := List.mergeSort_perm xs _
theorem sortL_sorted (xs : List Int) : (sortL xs).Pairwise (· ≤ ·) := by
  have h := List.pairwise_mergeSort (le := fun x y : Int => decide (x ≤ y)) (fun a b c h1 h2 => by simp at *; omega) (fun a b => by simp; omega) xs
  exact h.imp (fun h => by simpa using h)
theorem flatI : ∀ xs : List Int, xs.flatMap encI = xs.map (Value.int .i64)
  | [] => rfl
  | x :: xs => by rw [List.flatMap_cons, flatI xs]; rfl
theorem sortI_any (v : Value) (xs : List Int) (base : Nat) (w : World) (h : Own w base 3 1 encI v xs) (hn : xs.length ≤ 1048576) :
    Calls Try.prog 62 #[v] w fun e w' => e = .returned (.tuple #[]) ∧ Own w' base 3 1 encI v (sortL xs) ∧ w.grownBy w' v.ownBlock := by
  obtain ⟨hl, h1⟩ := h
  rcases h1 with ⟨rfl, h0⟩ | ⟨g, cap, cur, rfl, hg, hb, h1, h2, h3, h4⟩
  · obtain rfl : xs = [] := List.eq_nil_of_length_eq_zero h0
    refine (shSort_int_none none 0 w).mono ?_
    rintro e w' ⟨rfl, rfl⟩
    exact ⟨rfl, by simpa [sortL] using Own.nil_, World.grownBy.refl _ _⟩
  · rw [flatI] at h4
    have hH := Go.holds_of_blockI (ss := xs) hb (by simpa using h4)
    have hgl : g < w.heap.size := (Array.getElem?_eq_some_iff.1 hb).1
    refine (shSort_int g 0 cap xs w hH hgl (by omega)).mono ?_
    rintro e w' ⟨rfl, nn, os, rfl⟩
    refine ⟨rfl, ?_, Go.grownBy_sortedI _⟩
    have hl2 := sortL_len xs
    have hro := Go.ownsRow_sortedI (n := nn) (os := os) (ts := sortL xs) hl2 hg hb h1 h2 h3
    unfold Own
    rw [flatI, hl2]
    exact hro
def BoxM (w : World) (g : Nat) (x0 x1 x2 : Int) : Prop := w.cell? ⟨g, 0, none⟩ = some (.int .i64 x0) ∧ w.cell? ⟨g, 1, none⟩ = some (.int .i64 x1) ∧ w.cell? ⟨g, 2, none⟩ = some (.int .i64 x2)
theorem BoxM.keep {B g : Nat} {w w' : World} {x0 x1 x2 : Int} (h : BoxM w g x0 x1 x2) (hb : Below B w w') (hg : g < B) : BoxM w' g x0 x1 x2 := ⟨cellKeep hb h.1 hg, cellKeep hb h.2.1 hg, cellKeep hb h.2.2 hg⟩
def mostShips (x0 x1 x2 : Int) (ns : List Int) : Int := if (chOk x0 x1 x2 && lengthsOk ns) = true then (bestUp x0 x1.toNat ns (2 ^ ns.length) : Int) else -1
theorem bestUp_le (L : Int) (m : Nat) (l : List Int) (n : Nat) : bestUp L m l n ≤ l.length := by
  rcases bestUp_is (L := L) (m := m) (l := l) (n := n) with h | ⟨b, _, _, h⟩
  · omega
  · have := subL_len l b; omega
set_option maxRecDepth 100000 in
set_option maxHeartbeats 8000000 in
theorem impl_MostShips_any (x0 x1 x2 : Int) (v1 : Value) (ns : List Int) (w : World) (h1 : RdI w v1 ns) :
    Calls Try.prog 26 #[.agg #[.int .i64 x0, .int .i64 x1, .int .i64 x2], v1] w fun e w' => e = .returned (.int .i64 (mostShips x0 x1 x2 ns)) ∧ Below w.heap.size w w' := by
  have HR1 := hide h1
  obtain ⟨A1, c1, rfl, hc1, hm1, h1⟩ := h1
  unfold maxLen at hm1
  clear h1
  rcases ch2 (chOk x0 x1 x2) (lengthsOk ns) with ⟨g1, g2⟩ | g1 | ⟨g1, g2⟩
  · obtain ⟨a0, a1, a2, a3, a4, a5⟩ := chOk_of g1
    obtain ⟨l8, hns⟩ := lengthsOk_of g2
    have HNS := hide hns; clear hns
    obtain ⟨m, rfl⟩ : ∃ m : Nat, x1 = m := ⟨x1.toNat, by omega⟩
    have hm0 : 1 ≤ m := by omega
    have hm3 : m ≤ 3 := by omega
    have HV := hide (show mostShips x0 m x2 ns = (bestDown x0 m (sortL ns) (sortL ns).length : Nat) by unfold mostShips; rw [g1, g2, Int.toNat_natCast, best_eq (by omega) (fun n hn => by have := HNS.out n hn; omega) (sortL_perm ns) (sortL_sorted ns)]; rfl)
    have HSL := hide (sortL_len ns)
    have HSN := hide (show ∀ x ∈ sortL ns, 1 ≤ x ∧ x ≤ 400 from fun x hx => HNS.out x ((sortL_perm ns).mem_iff.1 hx))
    obtain ⟨s, hs⟩ : ∃ s, sortL ns = s := ⟨_, rfl⟩
    have HS := hide hs
    rw [hs] at HV HSL HSN
    clear hs
    go_enter Try.func26, Try.ntmps26
    go_wp2_with (first
      | (go_at_call 28; with_reducible refine (impl_ChamberOk_any _ _ _ _).mono ?_; rintro e w1 ⟨rfl, hb'⟩; (first | have hb := bnext hb hb' | have hb := bnextA hb hb' | have hb := hb'); clear hb'; obtain ⟨hc, hf⟩ := bcell hb; have hz := hb.size; (try simp at hz))
      | (go_at_call 29; with_reducible refine (impl_LengthsOk_any _ ns _ ((RdB.keep HR1.out (B' := w.heap.size) (by repeat (first | exact Below.refl _ _ | assumption | refine Below.setCell ?_ (by first | omega | (simp <;> omega)) _ | refine Below.alloc ?_ (by first | omega | (simp <;> omega)) _ | refine below_drewN ?_ _ | refine Below.drew ?_ | refine Below.trans ?_ (Below.mono (by assumption) (by first | omega | (simp <;> omega))))) (Nat.le_refl _)).mono (by first | omega | (simp <;> omega)))).mono ?_; rintro e w1 ⟨rfl, hb'⟩; (first | have hb := bnext hb hb' | have hb := bnextA hb hb' | have hb := hb'); clear hb'; obtain ⟨hc, hf⟩ := bcell hb; have hz := hb.size; (try simp at hz))
      | (go_at_call 61; with_reducible refine (cloneInt_any _ ns _ ((RdB.keep HR1.out (B' := w.heap.size) (by repeat (first | exact Below.refl _ _ | assumption | refine Below.setCell ?_ (by first | omega | (simp <;> omega)) _ | refine Below.alloc ?_ (by first | omega | (simp <;> omega)) _ | refine below_drewN ?_ _ | refine Below.drew ?_ | refine Below.trans ?_ (Below.mono (by assumption) (by first | omega | (simp <;> omega))))) (Nat.le_refl _)).mono (by first | omega | (simp <;> omega))) (by omega)).mono ?_; rintro e w2 ⟨v2, rfl, ho2, hb2⟩; have HO2 := hide ho2; clear ho2; have hs2 := hb2.size)
      | (go_at_call 62; refine (sortI_any _ ns w1.heap.size _ HO2.out (by omega)).mono ?_; rintro e w3 ⟨rfl, ho3, hg3⟩; rw [HS.out] at ho3; have HO3 := hide ho3; clear ho3; have hb3 : Below w1.heap.size w2 w3 := Own.belowGrown HO2.out hg3 (Nat.le_refl _) hs2; obtain ⟨A3, c3, rfl, hc3, hm3', -⟩ := Own.rd encI_len HO3.out; unfold maxLen at hm3'))
    have z0 : w1.cell? ⟨w.heap.size, 0, none⟩ = some (.int .i64 x0) := by rw [hc _ _ (by simp)]; simp [go_sem]
    have z1 : w1.cell? ⟨w.heap.size, 1, none⟩ = some (.int .i64 m) := by rw [hc _ _ (by simp)]; simp [go_sem]
    have z2 : w1.cell? ⟨w.heap.size, 2, none⟩ = some (.int .i64 x2) := by rw [hc _ _ (by simp)]; simp [go_sem]
    have hbw1 : Below w.heap.size w w1 := (by repeat (first | exact Below.refl _ _ | assumption | refine Below.setCell ?_ (by first | omega | (simp <;> omega)) _ | refine Below.alloc ?_ (by first | omega | (simp <;> omega)) _ | refine below_drewN ?_ _ | refine Below.drew ?_ | refine Below.trans ?_ (Below.mono (by assumption) (by first | omega | (simp <;> omega)))))
    have hs1 : w.heap.size < w1.heap.size := by have := hb.size; simp at this; omega
    have hb13 : Below w1.heap.size w1 w3 := hb2.trans hb3
    have hbw3 : Below w.heap.size w w3 := hbw1.trans (hb13.mono (by omega))
    have Z := hide (BoxM.keep (show BoxM w1 w.heap.size x0 m x2 from ⟨z0, z1, z2⟩) hb13 hs1)
    have hs3 : w.heap.size < w3.heap.size := Nat.lt_of_lt_of_le hs1 hb13.size
    have HR3 := hide (Own.rd encI_len HO3.out)
    have HSL8 := hide (show s.length ≤ 8 by rw [HSL.out]; omega)
    have hsl8 := HSL8.out
    clear hc hf hz hb z0 z1 z2 g1 g2 hbw1 hs1 hb13 hb2 hb3 hg3
    go_loopw [6] (fun v wr => ∃ n : Nat, n ≤ s.length ∧ v = .int .i64 n ∧ Hid (bestDown x0 m s n = bestDown x0 m s s.length) ∧ Below w3.heap.size w3 wr) (fun v _ => (intOf v).toNat)
    case atStart => exact ⟨s.length, Nat.le_refl _, rfl, hide rfl, Below.refl _ _⟩
    case round =>
      obtain ⟨n, hn, rfl, HN, hbk⟩ := hrel
      obtain ⟨wo, rfl⟩ : ∃ wo : World, wo = wr := ⟨_, rfl⟩
      have hbs := hbk.size
      obtain ⟨y0, y1, y2⟩ := Z.out.keep hbk hs3
      have hlo : w.heap.size < wo.heap.size := by omega
      rcases Nat.eq_zero_or_pos n with h0 | h0
      · subst h0
        go_wp2_with fail
        refine wp_region_below (Below.refl wo.heap.size _) (by kernel_rfl) (by kernel_rfl) ?_
        repeat (first
          | go_big_quiet_skip
          | (go_big_quiet_want
             first
              | (refine quiet_value ?_; apply Exists.intro
                 refine ⟨fun wq hq => ?_, ?_⟩
                 · (obtain ⟨hc, hf⟩ := bcell hq; go_simp; first | done | rfl)
                 go_big_quiet_on
                 simp only [Act.put, List.setIfInBounds_toArray, List.set_cons_zero, List.set_cons_succ])
              | (go_big_quiet_op; go_big_quiet_on)
             ))
        refine wpQuiet_nil (fun wq hbq => ?_)
        go_wp2
        go_ret
        exact ⟨by rw [HV.out, ← HN.out]; first | done | rfl, bnext (bnext hbw3 hbk (Nat.le_refl _)) hbq (Nat.le_refl _)⟩
      · obtain ⟨j, hj⟩ : ∃ j, n = j + 1 := ⟨n - 1, by omega⟩
        have HST := hide (show bestDown x0 m s n = if canPack x0 m (s.take n) = true then n else bestDown x0 m s j by rw [hj]; rfl)
        have HTK0 := HR3.out
        obtain ⟨A9, c9, he9, hc9, hm9, hce9⟩ := HTK0
        obtain ⟨b3, o3, hA3, hb3, -⟩ := hce9 (by omega)
        have he9' := he9
        simp only [Value.slice.injEq] at he9'
        obtain ⟨e1, -, e3⟩ := he9'
        rw [hA3] at e1
        clear hce9
        subst e1
        subst e3
        clear he9 hA3
        have HTK := hide (RdB.take_ HR3.out n hn (by omega))
        have hnp : (0 : Int) < n := by omega
        have hn0 : (0 : Int) ≤ n := by omega
        have hn' : (n : Int) ≤ s.length := by omega
        have hnc : (n : Int) ≤ c3 := by omega
        have hnc' : n ≤ c3 := by omega
        have hnw : IntKind.i64.wrap ((n : Int) - 1) = (j : Int) := by rw [IntWalk.i64_in _ (by omega)]; omega
        have HNS2 := hide (show ∀ x ∈ s.take n, 1 ≤ x ∧ x ≤ 400 from fun x hx => HSN.out x (List.mem_of_mem_take hx))
        have HN8 := hide (show (s.take n).length ≤ 8 by rw [List.length_take]; omega)
        have HJ := hide hj; clear hj
        rcases ch1 (canPack x0 m (s.take n)) with gc | gc
        · have HC := hide gc
          have HQ := hide (show bestDown x0 m s n = n by rw [HST.out, if_pos gc])
          clear gc hnw
          go_wp2_with fail
          refine wp_region_below (Below.refl wo.heap.size _) (by kernel_rfl) (by kernel_rfl) ?_
          repeat (first
            | go_big_quiet_skip
            | (go_big_quiet_want
               first
                | (refine quiet_value ?_; apply Exists.intro
                   refine ⟨fun wq hq => ?_, ?_⟩
                   · (obtain ⟨hc, hf⟩ := bcell hq; go_simp; first | done | rfl)
                   go_big_quiet_on
                   simp only [Act.put, List.setIfInBounds_toArray, List.set_cons_zero, List.set_cons_succ])
                | (refine quiet_call ?_; apply Exists.intro; apply Exists.intro; apply Exists.intro
                   refine ⟨fun wq hq => ?_, fun wq hq => ?_, ?_⟩
                   · (obtain ⟨hc, hf⟩ := bcell hq; go_simp; exact ⟨rfl, rfl⟩)
                   · (first | with_reducible exact (calls_bool (packed_any x0 x2 m a0 a1 hm0 hm3 _ (s.take n) HNS2.out HN8.out _ ((RdB.keep HTK.out (bnext hbk hq (Nat.le_refl _)) (Nat.le_refl _)).mono (by have := hbk.size; have := hq.size; omega))) HC.out).mono fun e w'' ⟨he, hw⟩ => ⟨he, hw ▸ hq⟩ | with_reducible exact (calls_bool (packed_any x0 x2 m a0 a1 hm0 hm3 _ (s.take n) HNS2.out HN8.out _ ((RdB.keep HTK.out (bnext hbk hq (Nat.le_refl _)) (Nat.le_refl _)).mono (by have := hbk.size; have := hq.size; omega))) HC.out).mono fun e w'' ⟨he, hb'⟩ => ⟨he, bnext hq hb'⟩ |  exact (calls_bool (packed_any x0 x2 m a0 a1 hm0 hm3 _ (s.take n) HNS2.out HN8.out _ ((RdB.keep HTK.out (bnext hbk hq (Nat.le_refl _)) (Nat.le_refl _)).mono (by have := hbk.size; have := hq.size; omega))) HC.out).mono fun e w'' ⟨he, hb'⟩ => ⟨he, bnext hq hb'⟩ |  exact (calls_bool (packed_any x0 x2 m a0 a1 hm0 hm3 _ (s.take n) HNS2.out HN8.out _ ((RdB.keep HTK.out (bnext hbk hq (Nat.le_refl _)) (Nat.le_refl _)).mono (by have := hbk.size; have := hq.size; omega))) HC.out).mono fun e w'' ⟨he, hw⟩ => ⟨he, hw ▸ hq⟩)
                   go_big_quiet_on
                   simp only [Act.put, List.setIfInBounds_toArray, List.set_cons_zero, List.set_cons_succ])
                | (go_big_quiet_op; go_big_quiet_on)
               ))
          refine wpQuiet_nil (fun wq hbq => ?_)
          go_wp2
          go_ret
          exact ⟨by rw [HV.out, ← HN.out, HQ.out]; first | done | rfl, bnext (bnext hbw3 hbk (Nat.le_refl _)) hbq (Nat.le_refl _)⟩
        · have HC := hide gc
          have HQ := hide (show bestDown x0 m s n = bestDown x0 m s j by rw [HST.out, if_neg (by rw [gc]; simp)])
          clear gc
          go_wp2_with fail
          refine wp_region_below (Below.refl wo.heap.size _) (by kernel_rfl) (by kernel_rfl) ?_
          repeat (first
            | go_big_quiet_skip
            | (go_big_quiet_want
               first
                | (refine quiet_value ?_; apply Exists.intro
                   refine ⟨fun wq hq => ?_, ?_⟩
                   · (obtain ⟨hc, hf⟩ := bcell hq; go_simp; first | done | rfl)
                   go_big_quiet_on
                   simp only [Act.put, List.setIfInBounds_toArray, List.set_cons_zero, List.set_cons_succ])
                | (refine quiet_call ?_; apply Exists.intro; apply Exists.intro; apply Exists.intro
                   refine ⟨fun wq hq => ?_, fun wq hq => ?_, ?_⟩
                   · (obtain ⟨hc, hf⟩ := bcell hq; go_simp; exact ⟨rfl, rfl⟩)
                   · (first | with_reducible exact (calls_bool (packed_any x0 x2 m a0 a1 hm0 hm3 _ (s.take n) HNS2.out HN8.out _ ((RdB.keep HTK.out (bnext hbk hq (Nat.le_refl _)) (Nat.le_refl _)).mono (by have := hbk.size; have := hq.size; omega))) HC.out).mono fun e w'' ⟨he, hw⟩ => ⟨he, hw ▸ hq⟩ | with_reducible exact (calls_bool (packed_any x0 x2 m a0 a1 hm0 hm3 _ (s.take n) HNS2.out HN8.out _ ((RdB.keep HTK.out (bnext hbk hq (Nat.le_refl _)) (Nat.le_refl _)).mono (by have := hbk.size; have := hq.size; omega))) HC.out).mono fun e w'' ⟨he, hb'⟩ => ⟨he, bnext hq hb'⟩ |  exact (calls_bool (packed_any x0 x2 m a0 a1 hm0 hm3 _ (s.take n) HNS2.out HN8.out _ ((RdB.keep HTK.out (bnext hbk hq (Nat.le_refl _)) (Nat.le_refl _)).mono (by have := hbk.size; have := hq.size; omega))) HC.out).mono fun e w'' ⟨he, hb'⟩ => ⟨he, bnext hq hb'⟩ |  exact (calls_bool (packed_any x0 x2 m a0 a1 hm0 hm3 _ (s.take n) HNS2.out HN8.out _ ((RdB.keep HTK.out (bnext hbk hq (Nat.le_refl _)) (Nat.le_refl _)).mono (by have := hbk.size; have := hq.size; omega))) HC.out).mono fun e w'' ⟨he, hw⟩ => ⟨he, hw ▸ hq⟩)
                   go_big_quiet_on
                   simp only [Act.put, List.setIfInBounds_toArray, List.set_cons_zero, List.set_cons_succ])
                | (go_big_quiet_op; go_big_quiet_on)
               ))
          refine wpQuiet_nil (fun wq hbq => ?_)
          have hnj : (n : Int) - 1 = j := by have := HJ.out; omega
          have hjw2 : IntKind.i64.wrap (j : Int) = (j : Int) := IntWalk.i64_in _ (by omega)
          go_wp2
          go_roundw
          case rel => exact ⟨j, by have := HJ.out; omega, by first | rfl | go_num, hide (by rw [← HQ.out]; exact HN.out), bnext hbk hbq (Nat.le_refl _)⟩
          case measure => have := HJ.out; simp [intOf]; omega
  all_goals
    have HF := hide (show mostShips x0 x1 x2 ns = -1 by unfold mostShips; simp [*])
    go_enter Try.func26, Try.ntmps26
    go_wp2_with (first
      | (go_at_call 28; with_reducible refine (impl_ChamberOk_any _ _ _ _).mono ?_; rintro e w1 ⟨rfl, hb'⟩; (first | have hb := bnext hb hb' | have hb := bnextA hb hb' | have hb := hb'); clear hb'; obtain ⟨hc, hf⟩ := bcell hb; have hz := hb.size; (try simp at hz))
      | (go_at_call 29; with_reducible refine (impl_LengthsOk_any _ ns _ ((RdB.keep HR1.out (B' := w.heap.size) (by repeat (first | exact Below.refl _ _ | assumption | refine Below.setCell ?_ (by first | omega | (simp <;> omega)) _ | refine Below.alloc ?_ (by first | omega | (simp <;> omega)) _ | refine below_drewN ?_ _ | refine Below.drew ?_ | refine Below.trans ?_ (Below.mono (by assumption) (by first | omega | (simp <;> omega))))) (Nat.le_refl _)).mono (by first | omega | (simp <;> omega)))).mono ?_; rintro e w1 ⟨rfl, hb'⟩; (first | have hb := bnext hb hb' | have hb := bnextA hb hb' | have hb := hb'); clear hb'; obtain ⟨hc, hf⟩ := bcell hb; have hz := hb.size; (try simp at hz)))
    go_ret
    exact ⟨by rw [HF.out]; first | done | rfl, (by repeat (first | exact Below.refl _ _ | assumption | refine Below.setCell ?_ (by first | omega | (simp <;> omega)) _ | refine Below.alloc ?_ (by first | omega | (simp <;> omega)) _ | refine below_drewN ?_ _ | refine Below.drew ?_ | refine Below.trans ?_ (Below.mono (by assumption) (by first | omega | (simp <;> omega)))))⟩
set_option maxRecDepth 100000 in
set_option maxHeartbeats 8000000 in
theorem spec_MostShips_any (x0 x1 x2 : Int) (v1 : Value) (ns : List Int) (w : World) (h1 : RdI w v1 ns) :
    Calls Try.prog 25 #[.agg #[.int .i64 x0, .int .i64 x1, .int .i64 x2], v1] w fun e w' => e = .returned (.int .i64 (mostShips x0 x1 x2 ns)) ∧ Below w.heap.size w w' := by
  have HR1 := hide h1
  obtain ⟨A1, c1, rfl, hc1, hm1, h1⟩ := h1
  unfold maxLen at hm1
  clear h1
  rcases ch2 (chOk x0 x1 x2) (lengthsOk ns) with ⟨g1, g2⟩ | g1 | ⟨g1, g2⟩
  · obtain ⟨a0, a1, a2, a3, a4, a5⟩ := chOk_of g1
    obtain ⟨l8, hns⟩ := lengthsOk_of g2
    have HNS := hide hns; clear hns
    obtain ⟨m, rfl⟩ : ∃ m : Nat, x1 = m := ⟨x1.toNat, by omega⟩
    have G1 := hide g1; have G2 := hide g2
    have hNlt : 2 ^ ns.length ≤ 256 := Nat.pow_le_pow_right (n := 2) (by omega) l8
    have hNw := wrap_i64 (2 ^ ns.length) (by omega)
    rw [← two_pow_cast] at hNw
    have HV := hide (show mostShips x0 m x2 ns = (bestUp x0 m ns (2 ^ ns.length) : Nat) by unfold mostShips; rw [g1, g2, Int.toNat_natCast]; rfl)
    obtain ⟨N, hN⟩ : ∃ N, 2 ^ ns.length = N := ⟨_, rfl⟩
    have f1 : IntKind.i64.wrap ((2 : Int) ^ ns.length) = (N : Int) := by rw [hNw, two_pow_cast, hN]
    rw [hN] at hNlt HV
    clear hNw hN
    have HBL := hide (fun b => bestUp_le x0 m ns b)
    have HPS := hide (show ∀ b, (packShips x0 m x2 (subL ns b)).isSome = canPack x0 m (subL ns b) from fun b => packShips_some G1.out (lengthsOk_sub G2.out (subL_len ns b) (fun x hx => (subL_sub ns b).subset hx)))
    go_enter Try.func25, Try.ntmps25
    go_wp2_with (first
      | (go_at_call 50; with_reducible refine (spec_ChamberOk_any _ _ _ _).mono ?_; rintro e w1 ⟨rfl, hb'⟩; (first | have hb := bnext hb hb' | have hb := bnextA hb hb' | have hb := hb'); clear hb'; obtain ⟨hc, hf⟩ := bcell hb; have hz := hb.size; (try simp at hz))
      | (go_at_call 51; with_reducible refine (spec_LengthsOk_any _ ns _ ((RdB.keep HR1.out (B' := w.heap.size) (by repeat (first | exact Below.refl _ _ | assumption | refine Below.setCell ?_ (by first | omega | (simp <;> omega)) _ | refine Below.alloc ?_ (by first | omega | (simp <;> omega)) _ | refine below_drewN ?_ _ | refine Below.drew ?_ | refine Below.trans ?_ (Below.mono (by assumption) (by first | omega | (simp <;> omega))))) (Nat.le_refl _)).mono (by first | omega | (simp <;> omega)))).mono ?_; rintro e w1 ⟨rfl, hb'⟩; (first | have hb := bnext hb hb' | have hb := bnextA hb hb' | have hb := hb'); clear hb'; obtain ⟨hc, hf⟩ := bcell hb; have hz := hb.size; (try simp at hz)))
    have z0 : w1.cell? ⟨w.heap.size, 0, none⟩ = some (.int .i64 x0) := by rw [hc _ _ (by simp)]; simp [go_sem]
    have z1 : w1.cell? ⟨w.heap.size, 1, none⟩ = some (.int .i64 m) := by rw [hc _ _ (by simp)]; simp [go_sem]
    have z2 : w1.cell? ⟨w.heap.size, 2, none⟩ = some (.int .i64 x2) := by rw [hc _ _ (by simp)]; simp [go_sem]
    have hbw1 : Below w.heap.size w w1 := (by repeat (first | exact Below.refl _ _ | assumption | refine Below.setCell ?_ (by first | omega | (simp <;> omega)) _ | refine Below.alloc ?_ (by first | omega | (simp <;> omega)) _ | refine below_drewN ?_ _ | refine Below.drew ?_ | refine Below.trans ?_ (Below.mono (by assumption) (by first | omega | (simp <;> omega)))))
    have hs1 : w.heap.size < w1.heap.size := by have := hb.size; simp at this; omega
    have Z := hide (show BoxM w1 w.heap.size x0 m x2 from ⟨z0, z1, z2⟩)
    clear hc hf hz hb z0 z1 z2 g1 g2
    go_loopw [5, 6] (fun s v wr => ∃ b q : Nat, b ≤ N ∧ v = .int .i64 b ∧ s = .int .i64 q ∧ Hid (bestUp x0 m ns b = q) ∧ q ≤ 8 ∧ Below w1.heap.size w1 wr) (fun _ v _ => N - (intOf v).toNat)
    case atStart => exact ⟨0, 0, Nat.zero_le _, rfl, rfl, hide rfl, by omega, Below.refl _ _⟩
    case round =>
      obtain ⟨b, q, hb0, rfl, rfl, HQ, hq8, hbk⟩ := hrel
      obtain ⟨wo, rfl⟩ : ∃ wo : World, wo = wr := ⟨_, rfl⟩
      have hbs := hbk.size
      have hbw := bnext hbw1 hbk (Nat.le_refl _)
      obtain ⟨y0, y1, y2⟩ := Z.out.keep hbk hs1
      have hlo : w.heap.size < wo.heap.size := by omega
      by_cases hlt : b < N
      · have hlt' : (b : Int) < N := by omega
        have hb62 : b < 4611686018427387904 := by omega
        have hsl := subL_len ns b
        have HST := hide (show bestUp x0 m ns (b + 1) = if q < (subL ns b).length ∧ canPack x0 m (subL ns b) = true then (subL ns b).length else q by rw [← HQ.out]; rfl)
        have HPB := hide (HPS.out b)
        have HRW := hide ((RdB.keep HR1.out hbw (Nat.le_refl _)).mono hbw.size)
        have HSM := hide (l10Some_any _ ns b hb62 l8 wo HRW.out)
        obtain ⟨ys, hys⟩ : ∃ ys, subL ns b = ys := ⟨_, rfl⟩
        rw [hys] at HST HPB hsl HSM
        clear hys
        by_cases hle : ys.length ≤ q
        · have hle' : (ys.length : Int) ≤ q := by omega
          have HQ2 := hide (show bestUp x0 m ns (b + 1) = q by rw [HST.out, if_neg (by omega)])
          go_wp2_with (go_at_call 59; refine HSM.out.mono ?_; rintro e w2 ⟨v2, rfl, ho2, hb2⟩; have HO2 := hide ho2; clear ho2; have hs2 := hb2.size; obtain ⟨A3, c3, rfl, hc3, hm3', -⟩ := Own.rd encI_len HO2.out; unfold maxLen at hm3')
          go_roundw
          case rel => exact ⟨b + 1, q, by omega, by go_num, rfl, HQ2, hq8, bnext hbk hb2 (Nat.le_refl _)⟩
          case measure => simp [intOf]; omega
        · have hle' : ¬ ((ys.length : Int) ≤ q) := by omega
          have hle2 : ¬ (ys.length ≤ q) := hle
          rcases ch1 (canPack x0 m ys) with gc | gc
          · have HPC := hide (HPB.out.trans gc)
            have HQ2 := hide (show bestUp x0 m ns (b + 1) = ys.length by rw [HST.out, if_pos ⟨by omega, gc⟩])
            clear gc
            go_wp2_with (first
              | (go_at_call 59; refine HSM.out.mono ?_; rintro e w2 ⟨v2, rfl, ho2, hb2⟩; have HO2 := hide ho2; clear ho2; have hs2 := hb2.size; obtain ⟨A3, c3, rfl, hc3, hm3', -⟩ := Own.rd encI_len HO2.out; unfold maxLen at hm3'; have u0 := cellKeep hb2 y0 hlo; have u1 := cellKeep hb2 y1 hlo; have u2 := cellKeep hb2 y2 hlo; have hlo2 : w.heap.size < w2.heap.size := Nat.lt_of_lt_of_le hlo hs2)
              | (go_at_call 17; with_reducible refine (spec_PackShips_any x0 m x2 _ ys _ (Own.rd encI_len HO2.out)).mono ?_; rintro e w6 ⟨v6, rfl, ho6, hb6⟩; rw [HPC.out]; have HO6 := hide ho6; clear ho6))
            go_roundw
            case rel => exact ⟨b + 1, ys.length, by omega, by go_num, rfl, HQ2, by omega, bnext (bnext hbk hb2 (Nat.le_refl _)) hb6 (Nat.le_refl _)⟩
            case measure => simp [intOf]; omega
          · have HPC := hide (HPB.out.trans gc)
            have HQ2 := hide (show bestUp x0 m ns (b + 1) = q by rw [HST.out, if_neg (by rw [gc]; simp)])
            clear gc
            go_wp2_with (first
              | (go_at_call 59; refine HSM.out.mono ?_; rintro e w2 ⟨v2, rfl, ho2, hb2⟩; have HO2 := hide ho2; clear ho2; have hs2 := hb2.size; obtain ⟨A3, c3, rfl, hc3, hm3', -⟩ := Own.rd encI_len HO2.out; unfold maxLen at hm3'; have u0 := cellKeep hb2 y0 hlo; have u1 := cellKeep hb2 y1 hlo; have u2 := cellKeep hb2 y2 hlo; have hlo2 : w.heap.size < w2.heap.size := Nat.lt_of_lt_of_le hlo hs2)
              | (go_at_call 17; with_reducible refine (spec_PackShips_any x0 m x2 _ ys _ (Own.rd encI_len HO2.out)).mono ?_; rintro e w6 ⟨v6, rfl, ho6, hb6⟩; rw [HPC.out]; have HO6 := hide ho6; clear ho6))
            go_roundw
            case rel => exact ⟨b + 1, q, by omega, by go_num, rfl, HQ2, hq8, bnext (bnext hbk hb2 (Nat.le_refl _)) hb6 (Nat.le_refl _)⟩
            case measure => simp [intOf]; omega
      · obtain rfl : b = N := by omega
        go_wp2
        go_ret
        exact ⟨by rw [HV.out, HQ.out]; first | done | rfl, hbw⟩
  all_goals
    have HF := hide (show mostShips x0 x1 x2 ns = -1 by unfold mostShips; simp [*])
    go_enter Try.func25, Try.ntmps25
    go_wp2_with (first
      | (go_at_call 50; with_reducible refine (spec_ChamberOk_any _ _ _ _).mono ?_; rintro e w1 ⟨rfl, hb'⟩; (first | have hb := bnext hb hb' | have hb := bnextA hb hb' | have hb := hb'); clear hb'; obtain ⟨hc, hf⟩ := bcell hb; have hz := hb.size; (try simp at hz))
      | (go_at_call 51; with_reducible refine (spec_LengthsOk_any _ ns _ ((RdB.keep HR1.out (B' := w.heap.size) (by repeat (first | exact Below.refl _ _ | assumption | refine Below.setCell ?_ (by first | omega | (simp <;> omega)) _ | refine Below.alloc ?_ (by first | omega | (simp <;> omega)) _ | refine below_drewN ?_ _ | refine Below.drew ?_ | refine Below.trans ?_ (Below.mono (by assumption) (by first | omega | (simp <;> omega))))) (Nat.le_refl _)).mono (by first | omega | (simp <;> omega)))).mono ?_; rintro e w1 ⟨rfl, hb'⟩; (first | have hb := bnext hb hb' | have hb := bnextA hb hb' | have hb := hb'); clear hb'; obtain ⟨hc, hf⟩ := bcell hb; have hz := hb.size; (try simp at hz)))
    go_ret
    exact ⟨by rw [HF.out]; first | done | rfl, (by repeat (first | exact Below.refl _ _ | assumption | refine Below.setCell ?_ (by first | omega | (simp <;> omega)) _ | refine Below.alloc ?_ (by first | omega | (simp <;> omega)) _ | refine below_drewN ?_ _ | refine Below.drew ?_ | refine Below.trans ?_ (Below.mono (by assumption) (by first | omega | (simp <;> omega)))))⟩
end Go.Proofs.Ytjmffhpfmfmnlaa
