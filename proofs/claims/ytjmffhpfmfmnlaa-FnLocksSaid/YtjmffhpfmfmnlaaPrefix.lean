/- The lockings of the ships in their order: both texts. No condition. -/
import Derived.Test.YtjmffhpfmfmnlaaFits
import Derived.Test.YtjmffhpfmfmnlaaLeastL
namespace Go.Proofs.Ytjmffhpfmfmnlaa
open Go.RowKit
set_option linter.unusedVariables false
def prefixLockings (x0 x1 x2 : Int) (ns : List Int) : List Int := if lockFits x0 x1 x2 ns = true then prefL x0 x1.toNat ns else []
theorem lockFits_of {x0 x1 x2 : Int} {ns : List Int} (h : lockFits x0 x1 x2 ns = true) : chOk x0 x1 x2 = true ∧ lengthsOk ns = true := by
  simp only [lockFits, Bool.and_eq_true] at h; exact ⟨h.1.1, h.1.2⟩
theorem prefixLockings_len (x0 x1 x2 : Int) (ns : List Int) : (prefixLockings x0 x1 x2 ns).length ≤ 8 := by
  unfold prefixLockings
  split
  · rename_i h
    have := (lengthsOk_of (lockFits_of h).2).1
    have := prefL_length (L := x0) (m := x1.toNat) ns
    omega
  · simp
theorem packShips_some {x0 x2 : Int} {m : Nat} {ns : List Int} (h1 : chOk x0 m x2 = true) (h2 : lengthsOk ns = true) : (packShips x0 m x2 ns).isSome = canPack x0 m ns := by
  unfold packShips
  rw [h1, h2, Int.toNat_natCast]
  rfl
def sliceLen : Value → Nat
  | .slice _ n _ => n
  | _ => 0
theorem RdB.take_ {α : Type} {w : World} {B sz b o c : Nat} {enc : α → List Value} {xs : List α} (h : RdB w B sz enc (.slice (some ⟨b, o, none⟩) xs.length c) xs) (n : Nat) (hn : n ≤ xs.length) (hc : xs.length ≤ c) : RdB w B sz enc (.slice (some ⟨b, o, none⟩) n c) (xs.take n) := by
  have := h.part 0 n (by omega) hc
  simpa using this
theorem RdB.drop_ {α : Type} {w : World} {B sz b o c : Nat} {enc : α → List Value} {xs : List α} (h : RdB w B sz enc (.slice (some ⟨b, o, none⟩) xs.length c) xs) (i : Nat) (hn : i ≤ xs.length) (hc : xs.length ≤ c) : RdB w B sz enc (.slice (some ⟨b, o + i * sz, none⟩) (xs.length - i) (c - i)) (xs.drop i) := by
  have := h.part i (xs.length - i) (by omega) hc
  rwa [List.take_of_length_le (by simp)] at this
set_option maxRecDepth 100000 in
set_option maxHeartbeats 16000000 in
theorem spec_PrefixLockings_any (x0 x1 x2 : Int) (v1 : Value) (ns : List Int) (w : World) (h1 : RdI w v1 ns) :
    Calls Try.prog 21 #[.agg #[.int .i64 x0, .int .i64 x1, .int .i64 x2], v1] w fun e w' => ∃ v, e = .returned v ∧ Own w' w.heap.size 3 1 encI v (prefixLockings x0 x1 x2 ns) ∧ Below w.heap.size w w' := by
  have HR1 := hide h1
  obtain ⟨A1, c1, rfl, hc1, hm1, h1⟩ := h1
  unfold maxLen at hm1
  have H1 := hide h1; clear h1
  obtain ⟨i0, hi, hz0, hz1, hz2⟩ := info_parts int_info
  rcases ch1 (lockFits x0 x1 x2 ns) with g | g
  · have HV := hide (show prefixLockings x0 x1 x2 ns = prefL x0 x1.toNat ns by unfold prefixLockings; rw [if_pos g])
    obtain ⟨g1, g2⟩ := lockFits_of g
    obtain ⟨a0, a1, a2, a3, a4, a5⟩ := chOk_of g1
    obtain ⟨l8, hns⟩ := lengthsOk_of g2
    have HNS0 := hide hns; clear hns
    obtain ⟨m, rfl⟩ : ∃ m : Nat, x1 = m := ⟨x1.toNat, by omega⟩
    rw [Int.toNat_natCast] at HV
    have hm0 : 1 ≤ m := by omega
    have hm3 : m ≤ 3 := by omega
    have G1 := hide g1; have G2 := hide g2
    go_enter Try.func21, Try.ntmps21
    go_wp2_with (go_at_call 56; with_reducible refine (l10Fits_any _ _ _ _ ns _ ((RdB.keep HR1.out (B' := w.heap.size) (by repeat (first | exact Below.refl _ _ | assumption | refine Below.setCell ?_ (by first | omega | (simp <;> omega)) _ | refine Below.alloc ?_ (by first | omega | (simp <;> omega)) _ | refine below_drewN ?_ _ | refine Below.drew ?_ | refine Below.trans ?_ (Below.mono (by assumption) (by first | omega | (simp <;> omega))))) (Nat.le_refl _)).mono (by first | omega | (simp <;> omega)))).mono ?_; rintro e w1 ⟨rfl, hb'⟩; (first | have hb := bnext hb hb' | have hb := bnextA hb hb' | have hb := hb'); clear hb'; obtain ⟨hc, hf⟩ := bcell hb; have hz := hb.size; (try simp at hz))
    clear g g1 g2
    have z0 : w1.cell? ⟨w.heap.size, 0, none⟩ = some (.int .i64 x0) := by rw [hc _ _ (by simp)]; simp [go_sem]
    have z1 : w1.cell? ⟨w.heap.size, 1, none⟩ = some (.int .i64 m) := by rw [hc _ _ (by simp)]; simp [go_sem]
    have z2 : w1.cell? ⟨w.heap.size, 2, none⟩ = some (.int .i64 x2) := by rw [hc _ _ (by simp)]; simp [go_sem]
    have hs1 := hb.size
    simp only [World.size_alloc] at hs1
    have hl1 : w.heap.size < w1.heap.size := by omega
    have hbw : Below w.heap.size w w1 := (by repeat (first | exact Below.refl _ _ | assumption | refine Below.setCell ?_ (by first | omega | (simp <;> omega)) _ | refine Below.alloc ?_ (by first | omega | (simp <;> omega)) _ | refine below_drewN ?_ _ | refine Below.drew ?_ | refine Below.trans ?_ (Below.mono (by assumption) (by first | omega | (simp <;> omega)))))
    clear hc hf hz hb
    have Z0 := hide z0; have Z1 := hide z1; have Z2 := hide z2; clear z0 z1 z2
    have hou0 := own_built0 (enc := encI) w1 3 1
    have hb0 : Below w1.heap.size w1 (w1.alloc (.cells #[] 3)) := (Below.refl _ _).alloc (Nat.le_refl _) _
    go_loopw [5, 6] (fun ov s wr => ∃ (at_ : Nat) (done : List Int), at_ ≤ ns.length ∧ s = .int .i64 at_ ∧ Hid (Own wr w1.heap.size 3 1 encI ov done) ∧ Hid (done ++ prefL x0 m (ns.drop at_) = prefL x0 m ns) ∧ Hid (done.length ≤ at_) ∧ Below w1.heap.size w1 wr) (fun _ s _ => ns.length - (intOf s).toNat)
    case atStart => exact ⟨0, [], Nat.zero_le _, rfl, hide hou0, hide rfl, hide (by simp), hb0⟩
    case round =>
      clear hou0 hb0
      obtain ⟨at_, done, hat, rfl, HO, HD, HDL, hbk⟩ := hrel
      obtain ⟨wo, rfl⟩ : ∃ wo : World, wo = wr := ⟨_, rfl⟩
      have hbs := hbk.size
      by_cases hlt : at_ < ns.length
      · obtain ⟨b1, o1, rfl, hb1, -⟩ := H1.out (by omega)
        go_wp2
        go_loopw [7] (fun s wr2 => ∃ n : Nat, 1 ≤ n ∧ at_ + n ≤ ns.length ∧ s = .int .i64 n ∧ Hid (growN x0 m (ns.drop at_) n = growN x0 m (ns.drop at_) 1) ∧ Below wo.heap.size wo wr2) (fun s _ => ns.length - (intOf s).toNat)
        case atStart => exact ⟨1, Nat.le_refl _, by omega, rfl, hide rfl, Below.refl _ _⟩
        case round =>

          obtain ⟨n, hn1, hn2, rfl, HGN, hbi⟩ := hrel
          obtain ⟨wi, rfl⟩ : ∃ wi : World, wi = wr := ⟨_, rfl⟩
          have hbis := hbi.size
          have hbkk := bnext hbk hbi (Nat.le_refl _)
          have z0 := cellKeep hbkk Z0.out hl1; have z1 := cellKeep hbkk Z1.out hl1; have z2 := cellKeep hbkk Z2.out hl1
          by_cases hlt2 : at_ + n < ns.length
          · have HSUB := hide (show RdB w w.heap.size 1 encI (.slice (some ⟨b1, o1 + at_, none⟩) (n + 1) (c1 - at_)) ((ns.drop at_).take (n + 1)) by have := RdB.part HR1.out at_ (n + 1) (by omega) (by omega); simpa using this)
            have HLO := hide (show lengthsOk ((ns.drop at_).take (n + 1)) = true from lengthsOk_sub G2.out (by simp; omega) (fun x hx => List.mem_of_mem_drop (List.mem_of_mem_take hx)))
            have HPS := hide (packShips_some (x2 := x2) G1.out HLO.out)
            have hbww := bnext hbw hbkk (Nat.le_refl _)
            have HRS := hide ((RdB.keep HSUB.out hbww (Nat.le_refl _)).mono (B' := wi.heap.size) (by omega))
            rcases ch1 (canPack x0 m ((ns.drop at_).take (n + 1))) with gp | gp
            · have HG2 := hide (growN_step (ns := ns.drop at_) (n := n) (by simp; omega) gp)
              rw [gp] at HPS
              clear gp
              have hq1 : (at_ : Int) + n + 1 ≤ c1 := by omega
              have hq2 : (at_ : Int) ≤ c1 := by omega
              have hq3 : (at_ : Int) + n + 1 ≤ ns.length := by omega
              have hq4 : (0 : Int) ≤ at_ := by omega
              have hcat : ¬ c1 = at_ := by omega
              have htn : ((at_ : Int) + n + 1).toNat - at_ = n + 1 := by omega
              have hq5 : (0 : Int) ≤ (at_ : Int) + n + 1 := by omega
              have hq6 : (at_ : Int) ≤ (at_ : Int) + n + 1 := by omega
              have hw1 : IntKind.i64.wrap ((at_ : Int) + n) = (at_ : Int) + n := IntWalk.i64_in _ (by omega)
              have hw2 : IntKind.i64.wrap ((at_ : Int) + n + 1) = (at_ : Int) + n + 1 := IntWalk.i64_in _ (by omega)
              have keepS : ∀ w', Below wi.heap.size wi w' → w'.cell? ⟨w.heap.size, 0, none⟩ = some (.int .i64 x0) ∧ w'.cell? ⟨w.heap.size, 1, none⟩ = some (.int .i64 m) ∧ w'.cell? ⟨w.heap.size, 2, none⟩ = some (.int .i64 x2) ∧ Below wi.heap.size wi w' := fun w' hB => ⟨cellKeep hB z0 (by omega), cellKeep hB z1 (by omega), cellKeep hB z2 (by omega), hB⟩
              go_wp2
              go_region_held3 (fun w' => w'.cell? ⟨w.heap.size, 0, none⟩ = some (.int .i64 x0) ∧ w'.cell? ⟨w.heap.size, 1, none⟩ = some (.int .i64 m) ∧ w'.cell? ⟨w.heap.size, 2, none⟩ = some (.int .i64 x2) ∧ Below wi.heap.size wi w')
                (first
                  | exact keepS _ (Below.drew (Below.refl _ _))
                  | exact keepS _ hB11
                  | (obtain ⟨_, _, _, qB⟩ := (by with_reducible assumption : _ ∧ _); exact keepS _ (qB.alloc qB.size _)))
                (first | (go_at_call 17; obtain ⟨_, _, _, qB⟩ := (by with_reducible assumption : _ ∧ _); with_reducible refine (spec_PackShips_any x0 m x2 _ _ _ ((RdB.keep HRS.out qB (Nat.le_refl _)).mono qB.size)).mono ?_; rintro e w11 ⟨v11, rfl, ho11, hb11⟩; clear ho11; have hB11 := bnext qB hb11 (Nat.le_refl _)))
              all_goals
                have hbi5 := bnext hbi hB11 (Nat.le_refl _)
                rw [HPS.out]
                go_wp2
                go_roundw
                case rel => exact ⟨n + 1, by omega, by omega, by go_num, hide (by rw [← HG2.out]; exact HGN.out), hbi5⟩
                case measure => simp [intOf]; omega
            · have HG := hide (show growN x0 m (ns.drop at_) 1 = n by rw [← HGN.out, growN_stop]; intro h; rw [gp] at h; exact absurd h.2 (by simp))
              rw [gp] at HPS
              clear gp z0 z1 z2
              have z0 := cellKeep hbkk Z0.out hl1; have z1 := cellKeep hbkk Z1.out hl1; have z2 := cellKeep hbkk Z2.out hl1
              have hq1 : (at_ : Int) + n + 1 ≤ c1 := by omega
              have hq2 : (at_ : Int) ≤ c1 := by omega
              have hq3 : (at_ : Int) + n + 1 ≤ ns.length := by omega
              have hq4 : (0 : Int) ≤ at_ := by omega
              have hcat : ¬ c1 = at_ := by omega
              have htn : ((at_ : Int) + n + 1).toNat - at_ = n + 1 := by omega
              have hq5 : (0 : Int) ≤ (at_ : Int) + n + 1 := by omega
              have hq6 : (at_ : Int) ≤ (at_ : Int) + n + 1 := by omega
              have hw1 : IntKind.i64.wrap ((at_ : Int) + n) = (at_ : Int) + n := IntWalk.i64_in _ (by omega)
              have hw2 : IntKind.i64.wrap ((at_ : Int) + n + 1) = (at_ : Int) + n + 1 := IntWalk.i64_in _ (by omega)
              have keepS : ∀ w', Below wi.heap.size wi w' → w'.cell? ⟨w.heap.size, 0, none⟩ = some (.int .i64 x0) ∧ w'.cell? ⟨w.heap.size, 1, none⟩ = some (.int .i64 m) ∧ w'.cell? ⟨w.heap.size, 2, none⟩ = some (.int .i64 x2) ∧ Below wi.heap.size wi w' := fun w' hB => ⟨cellKeep hB z0 (by omega), cellKeep hB z1 (by omega), cellKeep hB z2 (by omega), hB⟩
              go_wp2
              go_region_held3 (fun w' => w'.cell? ⟨w.heap.size, 0, none⟩ = some (.int .i64 x0) ∧ w'.cell? ⟨w.heap.size, 1, none⟩ = some (.int .i64 m) ∧ w'.cell? ⟨w.heap.size, 2, none⟩ = some (.int .i64 x2) ∧ Below wi.heap.size wi w')
                (first
                  | exact keepS _ (Below.drew (Below.refl _ _))
                  | exact keepS _ hB11
                  | (obtain ⟨_, _, _, qB⟩ := (by with_reducible assumption : _ ∧ _); exact keepS _ (qB.alloc qB.size _)))
                (first | (go_at_call 17; obtain ⟨_, _, _, qB⟩ := (by with_reducible assumption : _ ∧ _); with_reducible refine (spec_PackShips_any x0 m x2 _ _ _ ((RdB.keep HRS.out qB (Nat.le_refl _)).mono qB.size)).mono ?_; rintro e w11 ⟨v11, rfl, ho11, hb11⟩; clear ho11; have hB11 := bnext qB hb11 (Nat.le_refl _)))
              all_goals
                have hbi5 := bnext hbi hB11 (Nat.le_refl _)
                rw [HPS.out]
                have HOO := hide (HO.out.below hbi5); have hbw9 := bnext hbk hbi5 (Nat.le_refl _); have hbws := hbw9.size
                go_wp2_with (at_builtin; refine wpList_append_rd _ encI_len encI_one (by rfl) _ _ 24 (by rfl) w1.heap.size 3 i0 (.int .i64 0) 8 Try.underlying24 hi hz0 hz1 hz2 rfl (by decide) _ _ (by rfl) (HOO.out.below ((Below.refl _ _).alloc (Nat.le_refl _) _)) _ _ [(n : Int)] (by rfl) (rd_new (enc := encI) _ (n : Int) _) (by have := HDL.out; unfold maxLen; simp; omega) (by have := HDL.out; simp; omega) (by simp; omega) ?_; intro r9 w9 hown9 hgrow9 hblk9)
                have hb9 := (hbw9.trans (((Below.refl _ _).alloc (Nat.le_refl _) _).mono hbws)).trans (Own.belowGrown (B := w1.heap.size) (HOO.out.below ((Below.refl _ _).alloc (Nat.le_refl _) _)) hgrow9 (Nat.le_refl _) (by simp; omega))
                have HO9 := hide hown9; clear hown9
                have HD9 := hide (show (done ++ [(n : Int)]) ++ prefL x0 m (ns.drop (at_ + n)) = prefL x0 m ns by
                  rw [← HD.out, prefL_cons (ns := ns.drop at_) (by simp; omega), HG.out, List.drop_drop, List.append_assoc]; rfl)
                have HL9 := hide (show (done ++ [(n : Int)]).length ≤ at_ + n by have := HDL.out; simp; omega)
                go_roundw
                case rel => exact ⟨at_ + n, done ++ [(n : Int)], by omega, by go_num, HO9, HD9, HL9, hb9⟩
                case measure => simp [intOf]; omega
          · have HG := hide (show growN x0 m (ns.drop at_) 1 = n by rw [← HGN.out, growN_stop]; intro h; have := h.1; simp at this; omega)
            have HOO := hide (HO.out.below hbi)
            have hbw9 := bnext hbk hbi (Nat.le_refl _)
            have hbws := hbw9.size
            go_wp2_with (at_builtin; refine wpList_append_rd _ encI_len encI_one (by rfl) _ _ 24 (by rfl) w1.heap.size 3 i0 (.int .i64 0) 8 Try.underlying24 hi hz0 hz1 hz2 rfl (by decide) _ _ (by rfl) (HOO.out.below ((Below.refl _ _).alloc (Nat.le_refl _) _)) _ _ [(n : Int)] (by rfl) (rd_new (enc := encI) _ (n : Int) _) (by have := HDL.out; unfold maxLen; simp; omega) (by have := HDL.out; simp; omega) (by simp; omega) ?_; intro r9 w9 hown9 hgrow9 hblk9)
            have hb9 := (hbw9.trans (((Below.refl _ _).alloc (Nat.le_refl _) _).mono hbws)).trans (Own.belowGrown (B := w1.heap.size) (HOO.out.below ((Below.refl _ _).alloc (Nat.le_refl _) _)) hgrow9 (Nat.le_refl _) (by simp; omega))
            have HO9 := hide hown9; clear hown9
            have HD9 := hide (show (done ++ [(n : Int)]) ++ prefL x0 m (ns.drop (at_ + n)) = prefL x0 m ns by
              rw [← HD.out, prefL_cons (ns := ns.drop at_) (by simp; omega), HG.out, List.drop_drop, List.append_assoc]; rfl)
            have HL9 := hide (show (done ++ [(n : Int)]).length ≤ at_ + n by have := HDL.out; simp; omega)
            go_roundw
            case rel => exact ⟨at_ + n, done ++ [(n : Int)], by omega, by go_num, HO9, HD9, HL9, hb9⟩
            case measure => simp [intOf]; omega
      · obtain rfl : at_ = ns.length := by omega
        have HE := hide (show done = prefL x0 m ns by rw [← HD.out, List.drop_length, prefL_nil, List.append_nil])
        go_wp2
        go_ret
        exact ⟨_, rfl, by rw [HV.out, ← HE.out]; exact HO.out.mono (by omega), bnext hbw hbk (Nat.le_refl _)⟩
  · have HF := hide (show prefixLockings x0 x1 x2 ns = [] by unfold prefixLockings; rw [g]; rfl)
    go_enter Try.func21, Try.ntmps21
    go_wp2_with (go_at_call 56; with_reducible refine (l10Fits_any _ _ _ _ ns _ ((RdB.keep HR1.out (B' := w.heap.size) (by repeat (first | exact Below.refl _ _ | assumption | refine Below.setCell ?_ (by first | omega | (simp <;> omega)) _ | refine Below.alloc ?_ (by first | omega | (simp <;> omega)) _ | refine below_drewN ?_ _ | refine Below.drew ?_ | refine Below.trans ?_ (Below.mono (by assumption) (by first | omega | (simp <;> omega))))) (Nat.le_refl _)).mono (by first | omega | (simp <;> omega)))).mono ?_; rintro e w1 ⟨rfl, hb'⟩; (first | have hb := bnext hb hb' | have hb := bnextA hb hb' | have hb := hb'); clear hb'; obtain ⟨hc, hf⟩ := bcell hb; have hz := hb.size; (try simp at hz))
    go_ret
    exact ⟨_, rfl, by rw [HF.out]; exact Own.nil_, (by repeat (first | exact Below.refl _ _ | assumption | refine Below.setCell ?_ (by first | omega | (simp <;> omega)) _ | refine Below.alloc ?_ (by first | omega | (simp <;> omega)) _ | refine below_drewN ?_ _ | refine Below.drew ?_ | refine Below.trans ?_ (Below.mono (by assumption) (by first | omega | (simp <;> omega)))))⟩
set_option maxRecDepth 100000 in
set_option maxHeartbeats 16000000 in
theorem impl_PrefixLockings_any (x0 x1 x2 : Int) (v1 : Value) (ns : List Int) (w : World) (h1 : RdI w v1 ns) :
    Calls Try.prog 22 #[.agg #[.int .i64 x0, .int .i64 x1, .int .i64 x2], v1] w fun e w' => ∃ v, e = .returned v ∧ Own w' w.heap.size 3 1 encI v (prefixLockings x0 x1 x2 ns) ∧ Below w.heap.size w w' := by
  have HR1 := hide h1
  obtain ⟨A1, c1, rfl, hc1, hm1, h1⟩ := h1
  unfold maxLen at hm1
  have H1 := hide h1; clear h1
  obtain ⟨i0, hi, hz0, hz1, hz2⟩ := info_parts int_info
  rcases ch1 (lockFits x0 x1 x2 ns) with g | g
  · have HV := hide (show prefixLockings x0 x1 x2 ns = prefL x0 x1.toNat ns by unfold prefixLockings; rw [if_pos g])
    obtain ⟨g1, g2⟩ := lockFits_of g
    obtain ⟨a0, a1, a2, a3, a4, a5⟩ := chOk_of g1
    obtain ⟨l8, hns⟩ := lengthsOk_of g2
    have HNS0 := hide hns; clear hns
    obtain ⟨m, rfl⟩ : ∃ m : Nat, x1 = m := ⟨x1.toNat, by omega⟩
    rw [Int.toNat_natCast] at HV
    have hm0 : 1 ≤ m := by omega
    have hm3 : m ≤ 3 := by omega
    have G1 := hide g1; have G2 := hide g2
    go_enter Try.func22, Try.ntmps22
    go_wp2_with (go_at_call 57; with_reducible refine (lockable_any _ _ _ _ ns _ ((RdB.keep HR1.out (B' := w.heap.size) (by repeat (first | exact Below.refl _ _ | assumption | refine Below.setCell ?_ (by first | omega | (simp <;> omega)) _ | refine Below.alloc ?_ (by first | omega | (simp <;> omega)) _ | refine below_drewN ?_ _ | refine Below.drew ?_ | refine Below.trans ?_ (Below.mono (by assumption) (by first | omega | (simp <;> omega))))) (Nat.le_refl _)).mono (by first | omega | (simp <;> omega)))).mono ?_; rintro e w1 ⟨rfl, hb'⟩; (first | have hb := bnext hb hb' | have hb := bnextA hb hb' | have hb := hb'); clear hb'; obtain ⟨hc, hf⟩ := bcell hb; have hz := hb.size; (try simp at hz))
    clear g g1 g2
    have z0 : w1.cell? ⟨w.heap.size, 0, none⟩ = some (.int .i64 x0) := by rw [hc _ _ (by simp)]; simp [go_sem]
    have z1 : w1.cell? ⟨w.heap.size, 1, none⟩ = some (.int .i64 m) := by rw [hc _ _ (by simp)]; simp [go_sem]
    have z2 : w1.cell? ⟨w.heap.size, 2, none⟩ = some (.int .i64 x2) := by rw [hc _ _ (by simp)]; simp [go_sem]
    have hs1 := hb.size
    simp only [World.size_alloc] at hs1
    have hl1 : w.heap.size < w1.heap.size := by omega
    have hbw : Below w.heap.size w w1 := (by repeat (first | exact Below.refl _ _ | assumption | refine Below.setCell ?_ (by first | omega | (simp <;> omega)) _ | refine Below.alloc ?_ (by first | omega | (simp <;> omega)) _ | refine below_drewN ?_ _ | refine Below.drew ?_ | refine Below.trans ?_ (Below.mono (by assumption) (by first | omega | (simp <;> omega)))))
    clear hc hf hz hb
    have Z0 := hide z0; have Z1 := hide z1; have Z2 := hide z2; clear z0 z1 z2
    have hou0 := own_built0 (enc := encI) w1 3 1
    have hb0 : Below w1.heap.size w1 (w1.alloc (.cells #[] 3)) := (Below.refl _ _).alloc (Nat.le_refl _) _
    go_loopw [1, 5] (fun lv ov wr => ∃ (cur done : List Int), Hid (RdB w w.heap.size 1 encI lv cur) ∧ Hid (Own wr w1.heap.size 3 1 encI ov done) ∧ Hid (done ++ prefL x0 m cur = prefL x0 m ns) ∧ Hid (done.length + cur.length ≤ 8) ∧ Hid (∀ x ∈ cur, 1 ≤ x ∧ x ≤ 400) ∧ Below w1.heap.size w1 wr) (fun lv _ _ => sliceLen lv)
    case atStart => exact ⟨ns, [], HR1, hide hou0, hide rfl, hide (by simpa using l8), HNS0, hb0⟩
    case round =>
      clear hou0 hb0
      obtain ⟨cur, done, HLV, HO, HD, HDL, HNS, hbk⟩ := hrel
      obtain ⟨wo, rfl⟩ : ∃ wo : World, wo = wr := ⟨_, rfl⟩
      have hbs := hbk.size
      have HCR := HLV
      obtain ⟨A9, c9, hlv, hc9, hm9, h9⟩ := HLV.out
      subst hlv
      unfold maxLen at hm9
      by_cases hlt : 0 < cur.length
      · obtain ⟨b1, o1, rfl, hb1, -⟩ := h9 (by omega)
        clear HLV
        have hcl8 : cur.length ≤ 8 := by have := HDL.out; omega
        go_wp2
        go_loopw [6] (fun s wr2 => ∃ n : Nat, 1 ≤ n ∧ n ≤ cur.length ∧ s = .int .i64 n ∧ Hid (growN x0 m cur n = growN x0 m cur 1) ∧ Below wo.heap.size wo wr2) (fun s _ => cur.length - (intOf s).toNat)
        case atStart => exact ⟨1, Nat.le_refl _, by omega, rfl, hide rfl, Below.refl _ _⟩
        case round =>

          obtain ⟨n, hn1, hn2, rfl, HGN, hbi⟩ := hrel
          obtain ⟨wi, rfl⟩ : ∃ wi : World, wi = wr := ⟨_, rfl⟩
          have hbis := hbi.size
          have hbkk := bnext hbk hbi (Nat.le_refl _)
          have z0 := cellKeep hbkk Z0.out hl1; have z1 := cellKeep hbkk Z1.out hl1; have z2 := cellKeep hbkk Z2.out hl1
          by_cases hlt2 : n < cur.length
          · have HSUB := hide (RdB.take_ HCR.out (n + 1) (by omega) (by omega))
            have HN5 := hide (show ∀ x ∈ cur.take (n + 1), 1 ≤ x ∧ x ≤ 400 from fun x hx => HNS.out x (List.mem_of_mem_take hx))
            have hl5 : (cur.take (n + 1)).length ≤ 8 := by simp; omega
            have HL5 := hide hl5; clear hl5
            have hbww := bnext hbw hbkk (Nat.le_refl _)
            have HRS := hide ((RdB.keep HSUB.out hbww (Nat.le_refl _)).mono (B' := wi.heap.size) (by omega))
            rcases ch1 (canPack x0 m (cur.take (n + 1))) with gp | gp
            · have HG2 := hide (growN_step (ns := cur) (n := n) (by omega) gp)
              have HPS := hide gp
              clear gp
              have hq1 : (n : Int) + 1 ≤ c9 := by omega
              have hq2 : (n : Int) + 1 ≤ cur.length := by omega
              have hq5 : (0 : Int) ≤ (n : Int) + 1 := by omega
              have htn : ((n : Int) + 1).toNat = n + 1 := by omega
              have hl9 : w.heap.size < wi.heap.size := by omega
              have hw2 : IntKind.i64.wrap ((n : Int) + 1) = (n : Int) + 1 := IntWalk.i64_in _ (by omega)
              go_wp2
              refine wp_region_below (Below.refl wi.heap.size wi) (by kernel_rfl) (by kernel_rfl) ?_
              repeat (first
                | go_big_quiet_skip
                | (go_big_quiet_want
                   first
                    | (refine quiet_value ?_; apply Exists.intro
                       refine ⟨fun wq hq => ?_, ?_⟩
                       · (obtain ⟨hc, hf⟩ := bcell hq; go_simp; first | done | rfl)
                       go_big_quiet_on
                       simp only [Act.put, List.setIfInBounds_toArray, List.set_cons_zero, List.set_cons_succ])
                    | (refine quiet_call ?_; apply Exists.intro; apply Exists.intro; apply Exists.intro
                       refine ⟨fun wq hq => ?_, fun wq hq => ?_, ?_⟩
                       · (obtain ⟨hc, hf⟩ := bcell hq; go_simp; exact ⟨rfl, rfl⟩)
                       · (first | with_reducible exact (packed_any x0 x2 m a0 a1 hm0 hm3 _ _ HN5.out HL5.out _ ((RdB.keep HRS.out hq (Nat.le_refl _)).mono hq.size)).mono fun e w'' ⟨he, hw⟩ => ⟨he, hw ▸ hq⟩ | with_reducible exact (packed_any x0 x2 m a0 a1 hm0 hm3 _ _ HN5.out HL5.out _ ((RdB.keep HRS.out hq (Nat.le_refl _)).mono hq.size)).mono fun e w'' ⟨he, hb'⟩ => ⟨he, bnext hq hb'⟩ |  exact (packed_any x0 x2 m a0 a1 hm0 hm3 _ _ HN5.out HL5.out _ ((RdB.keep HRS.out hq (Nat.le_refl _)).mono hq.size)).mono fun e w'' ⟨he, hb'⟩ => ⟨he, bnext hq hb'⟩ |  exact (packed_any x0 x2 m a0 a1 hm0 hm3 _ _ HN5.out HL5.out _ ((RdB.keep HRS.out hq (Nat.le_refl _)).mono hq.size)).mono fun e w'' ⟨he, hw⟩ => ⟨he, hw ▸ hq⟩)
                       go_big_quiet_on
                       simp only [Act.put, List.setIfInBounds_toArray, List.set_cons_zero, List.set_cons_succ])
                    | (go_big_quiet_op; go_big_quiet_on)
                   ))
              refine wpQuiet_nil (fun w5 hb5 => ?_)
              have hbi5 := bnext hbi hb5 (Nat.le_refl _)
              rw [HPS.out]
              go_wp2
              go_roundw
              case rel => exact ⟨n + 1, by omega, by omega, by go_num, hide (by rw [← HG2.out]; exact HGN.out), hbi5⟩
              case measure => simp [intOf]; omega
            · have HG := hide (show growN x0 m cur 1 = n by rw [← HGN.out, growN_stop]; intro h; rw [gp] at h; exact absurd h.2 (by simp))
              have HPS := hide gp
              clear gp
              have hq1 : (n : Int) + 1 ≤ c9 := by omega
              have hq2 : (n : Int) + 1 ≤ cur.length := by omega
              have hq5 : (0 : Int) ≤ (n : Int) + 1 := by omega
              have htn : ((n : Int) + 1).toNat = n + 1 := by omega
              have hl9 : w.heap.size < wi.heap.size := by omega
              have hw2 : IntKind.i64.wrap ((n : Int) + 1) = (n : Int) + 1 := IntWalk.i64_in _ (by omega)
              go_wp2
              refine wp_region_below (Below.refl wi.heap.size wi) (by kernel_rfl) (by kernel_rfl) ?_
              repeat (first
                | go_big_quiet_skip
                | (go_big_quiet_want
                   first
                    | (refine quiet_value ?_; apply Exists.intro
                       refine ⟨fun wq hq => ?_, ?_⟩
                       · (obtain ⟨hc, hf⟩ := bcell hq; go_simp; first | done | rfl)
                       go_big_quiet_on
                       simp only [Act.put, List.setIfInBounds_toArray, List.set_cons_zero, List.set_cons_succ])
                    | (refine quiet_call ?_; apply Exists.intro; apply Exists.intro; apply Exists.intro
                       refine ⟨fun wq hq => ?_, fun wq hq => ?_, ?_⟩
                       · (obtain ⟨hc, hf⟩ := bcell hq; go_simp; exact ⟨rfl, rfl⟩)
                       · (first | with_reducible exact (packed_any x0 x2 m a0 a1 hm0 hm3 _ _ HN5.out HL5.out _ ((RdB.keep HRS.out hq (Nat.le_refl _)).mono hq.size)).mono fun e w'' ⟨he, hw⟩ => ⟨he, hw ▸ hq⟩ | with_reducible exact (packed_any x0 x2 m a0 a1 hm0 hm3 _ _ HN5.out HL5.out _ ((RdB.keep HRS.out hq (Nat.le_refl _)).mono hq.size)).mono fun e w'' ⟨he, hb'⟩ => ⟨he, bnext hq hb'⟩ |  exact (packed_any x0 x2 m a0 a1 hm0 hm3 _ _ HN5.out HL5.out _ ((RdB.keep HRS.out hq (Nat.le_refl _)).mono hq.size)).mono fun e w'' ⟨he, hb'⟩ => ⟨he, bnext hq hb'⟩ |  exact (packed_any x0 x2 m a0 a1 hm0 hm3 _ _ HN5.out HL5.out _ ((RdB.keep HRS.out hq (Nat.le_refl _)).mono hq.size)).mono fun e w'' ⟨he, hw⟩ => ⟨he, hw ▸ hq⟩)
                       go_big_quiet_on
                       simp only [Act.put, List.setIfInBounds_toArray, List.set_cons_zero, List.set_cons_succ])
                    | (go_big_quiet_op; go_big_quiet_on)
                   ))
              refine wpQuiet_nil (fun w5 hb5 => ?_)
              have hbi5 := bnext hbi hb5 (Nat.le_refl _)
              rw [HPS.out]
              have HOO := hide (HO.out.below hbi5); have hbw9 := bnext hbk hbi5 (Nat.le_refl _); have hbws := hbw9.size
              go_wp2_with (at_builtin; refine wpList_append_rd _ encI_len encI_one (by rfl) _ _ 24 (by rfl) w1.heap.size 3 i0 (.int .i64 0) 8 Try.underlying24 hi hz0 hz1 hz2 rfl (by decide) _ _ (by rfl) (HOO.out.below ((Below.refl _ _).alloc (Nat.le_refl _) _)) _ _ [(n : Int)] (by rfl) (rd_new (enc := encI) _ (n : Int) _) (by have := HDL.out; unfold maxLen; simp; omega) (by have := HDL.out; simp; omega) (by simp; omega) ?_; intro r9 w9 hown9 hgrow9 hblk9)
              have hb9 := (hbw9.trans (((Below.refl _ _).alloc (Nat.le_refl _) _).mono hbws)).trans (Own.belowGrown (B := w1.heap.size) (HOO.out.below ((Below.refl _ _).alloc (Nat.le_refl _) _)) hgrow9 (Nat.le_refl _) (by simp; omega))
              have HO9 := hide hown9; clear hown9
              have HD9 := hide (show (done ++ [(n : Int)]) ++ prefL x0 m (cur.drop n) = prefL x0 m ns by
                rw [← HD.out, prefL_cons (ns := cur) (by omega), HG.out, List.append_assoc]; rfl)
              have HL9 := hide (show (done ++ [(n : Int)]).length + (cur.drop n).length ≤ 8 by have := HDL.out; simp; omega)
              have HNN := hide (show ∀ x ∈ cur.drop n, 1 ≤ x ∧ x ≤ 400 from fun x hx => HNS.out x (List.mem_of_mem_drop hx))
              have HCN := hide (show RdB w w.heap.size 1 encI (.slice (if c9 = n then some ⟨b1, o1, none⟩ else some ⟨b1, o1 + n, none⟩) (cur.length - n) (c9 - n)) (cur.drop n) by
                split
                · have := RdB.take_ HCR.out 0 (by omega) (by omega)
                  have e : cur.drop n = [] := List.drop_eq_nil_of_le (by omega)
                  rw [e]
                  exact ⟨some ⟨b1, o1, none⟩, c9 - n, by rw [show cur.length - n = 0 by omega]; rfl, Nat.zero_le _, by unfold maxLen; omega, fun h => absurd h (Nat.lt_irrefl _)⟩
                · have := RdB.drop_ HCR.out n (by omega) (by omega); simpa using this)
              go_roundw
              case rel => exact ⟨cur.drop n, done ++ [(n : Int)], by first | exact HCN | exact hide (by have := HCN.out; rwa [if_neg (by omega)] at this), HO9, HD9, HL9, HNN, hb9⟩
              case measure => simp [sliceLen]; omega
          · have HG := hide (show growN x0 m cur 1 = n by rw [← HGN.out, growN_stop]; intro h; exact absurd h.1 (by omega))
            go_wp2
            refine wp_region_below (Below.refl wi.heap.size wi) (by kernel_rfl) (by kernel_rfl) ?_
            repeat (first
              | go_big_quiet_skip
              | (go_big_quiet_want
                 first
                  | (refine quiet_value ?_; apply Exists.intro
                     refine ⟨fun wq hq => ?_, ?_⟩
                     · (obtain ⟨hc, hf⟩ := bcell hq; go_simp; first | done | rfl)
                     go_big_quiet_on
                     simp only [Act.put, List.setIfInBounds_toArray, List.set_cons_zero, List.set_cons_succ])
                  | (go_big_quiet_op; go_big_quiet_on)
                 ))
            refine wpQuiet_nil (fun w5 hb5 => ?_)
            have hbi5 := bnext hbi hb5 (Nat.le_refl _)
            have HOO := hide (HO.out.below hbi5)
            have hbw9 := bnext hbk hbi5 (Nat.le_refl _)
            have hbws := hbw9.size
            go_wp2_with (at_builtin; refine wpList_append_rd _ encI_len encI_one (by rfl) _ _ 24 (by rfl) w1.heap.size 3 i0 (.int .i64 0) 8 Try.underlying24 hi hz0 hz1 hz2 rfl (by decide) _ _ (by rfl) (HOO.out.below ((Below.refl _ _).alloc (Nat.le_refl _) _)) _ _ [(n : Int)] (by rfl) (rd_new (enc := encI) _ (n : Int) _) (by have := HDL.out; unfold maxLen; simp; omega) (by have := HDL.out; simp; omega) (by simp; omega) ?_; intro r9 w9 hown9 hgrow9 hblk9)
            have hb9 := (hbw9.trans (((Below.refl _ _).alloc (Nat.le_refl _) _).mono hbws)).trans (Own.belowGrown (B := w1.heap.size) (HOO.out.below ((Below.refl _ _).alloc (Nat.le_refl _) _)) hgrow9 (Nat.le_refl _) (by simp; omega))
            have HO9 := hide hown9; clear hown9
            have HD9 := hide (show (done ++ [(n : Int)]) ++ prefL x0 m (cur.drop n) = prefL x0 m ns by
              rw [← HD.out, prefL_cons (ns := cur) (by omega), HG.out, List.append_assoc]; rfl)
            have HL9 := hide (show (done ++ [(n : Int)]).length + (cur.drop n).length ≤ 8 by have := HDL.out; simp; omega)
            have HNN := hide (show ∀ x ∈ cur.drop n, 1 ≤ x ∧ x ≤ 400 from fun x hx => HNS.out x (List.mem_of_mem_drop hx))
            have HCN := hide (show RdB w w.heap.size 1 encI (.slice (if c9 = n then some ⟨b1, o1, none⟩ else some ⟨b1, o1 + n, none⟩) (cur.length - n) (c9 - n)) (cur.drop n) by
              split
              · have := RdB.take_ HCR.out 0 (by omega) (by omega)
                have e : cur.drop n = [] := List.drop_eq_nil_of_le (by omega)
                rw [e]
                exact ⟨some ⟨b1, o1, none⟩, c9 - n, by rw [show cur.length - n = 0 by omega]; rfl, Nat.zero_le _, by unfold maxLen; omega, fun h => absurd h (Nat.lt_irrefl _)⟩
              · have := RdB.drop_ HCR.out n (by omega) (by omega); simpa using this)
            go_roundw
            case rel => exact ⟨cur.drop n, done ++ [(n : Int)], by first | exact HCN | exact hide (by have := HCN.out; rwa [if_neg (by omega)] at this), HO9, HD9, HL9, HNN, hb9⟩
            case measure => simp [sliceLen]; omega
      · have hcz : cur.length = 0 := by omega
        have HE := hide (show done = prefL x0 m ns by rw [← HD.out, List.eq_nil_of_length_eq_zero hcz, prefL_nil, List.append_nil])
        have hlz : ¬ (0 : Int) < cur.length := by omega
        clear hcz
        go_wp2
        go_ret
        exact ⟨_, rfl, by rw [HV.out, ← HE.out]; exact HO.out.mono (by omega), bnext hbw hbk (Nat.le_refl _)⟩
  · have HF := hide (show prefixLockings x0 x1 x2 ns = [] by unfold prefixLockings; rw [g]; rfl)
    go_enter Try.func22, Try.ntmps22
    go_wp2_with (go_at_call 57; with_reducible refine (lockable_any _ _ _ _ ns _ ((RdB.keep HR1.out (B' := w.heap.size) (by repeat (first | exact Below.refl _ _ | assumption | refine Below.setCell ?_ (by first | omega | (simp <;> omega)) _ | refine Below.alloc ?_ (by first | omega | (simp <;> omega)) _ | refine below_drewN ?_ _ | refine Below.drew ?_ | refine Below.trans ?_ (Below.mono (by assumption) (by first | omega | (simp <;> omega))))) (Nat.le_refl _)).mono (by first | omega | (simp <;> omega)))).mono ?_; rintro e w1 ⟨rfl, hb'⟩; (first | have hb := bnext hb hb' | have hb := bnextA hb hb' | have hb := hb'); clear hb'; obtain ⟨hc, hf⟩ := bcell hb; have hz := hb.size; (try simp at hz))
    go_ret
    exact ⟨_, rfl, by rw [HF.out]; exact Own.nil_, (by repeat (first | exact Below.refl _ _ | assumption | refine Below.setCell ?_ (by first | omega | (simp <;> omega)) _ | refine Below.alloc ?_ (by first | omega | (simp <;> omega)) _ | refine below_drewN ?_ _ | refine Below.drew ?_ | refine Below.trans ?_ (Below.mono (by assumption) (by first | omega | (simp <;> omega)))))⟩
end Go.Proofs.Ytjmffhpfmfmnlaa
