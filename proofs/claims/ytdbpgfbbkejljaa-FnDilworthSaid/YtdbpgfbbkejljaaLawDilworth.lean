/- The law FnDilworth: for every row of bytes it returns true and leaves its argument as it was. No condition. -/
import Derived.Test.YtdbpgfbbkejljaaBytes
import Derived.Test.YtdbpgfbbkejljaaLeastC
import Derived.Test.YtdbpgfbbkejljaaDutyDraw
import Derived.Test.YtdbpgfbbkejljaaLaw2
import Derived.Deep.DeepCutAuto
namespace Go.Proofs.Ytdbpgfbbkejljaa
open Go.RowKit Go.WideShapes Go.ChangeShapes Go.ChangeAt Go.Joins Go.Deep
set_option linter.unusedVariables false
set_option maxRecDepth 100000 in
set_option maxHeartbeats 32000000 in
theorem FnDilworth_walk (w : World) (v : Value) (bs : List Int) (h : RdB w w.heap.size 1 enc8 v bs) (hby : Byt bs) :
    Calls Try.prog 9 #[v] w fun e w' => e = .returned (.bool true) ∧ Below w.heap.size w w' := by
  have HR := hide h; have HBY := hide hby; clear hby
  obtain ⟨A0, c0, rfl, hc0, hm0, -⟩ := h
  unfold maxLen at hm0
  go_enter Try.func9, Try.ntmps9
  by_cases hbig : (1048576 : Int) < (bs.length : Int)
  · go_wp2_with fail
    go_ret
    exact ⟨rfl, (by repeat (first | exact Below.refl _ _ | assumption | refine Below.setCell ?_ (by first | omega | (simp <;> omega)) _ | refine Below.alloc ?_ (by first | omega | (simp <;> omega)) _ | refine below_drewN ?_ _ | refine Below.drew ?_ | refine Below.trans ?_ (Below.mono (by assumption) (by first | omega | (simp <;> omega)))))⟩
  have hbig' : (bs.length : Int) ≤ 1048576 := by omega
  have HN := hide (show bs.length ≤ 1048576 by omega)
  clear hbig
  go_wp2_with fail
  refine (MakeDuties_any _ bs _ HR.out HBY.out HN.out).mono ?_
  rintro e w1 ⟨p, vm, vl, ms, xs, rfl, ⟨p0, p1⟩, htab, hdut, hl6, hom, hol, hb1⟩
  have HX := hide (Own.rd DutyD.enc_len hol)
  have HM := hide (Own.rd encI_len hom)
  obtain ⟨A2, c2, rfl, hc2, hm2, -⟩ := HX.out
  obtain ⟨A3, c3, rfl, hc3, hm3, -⟩ := HM.out
  unfold maxLen at hm2 hm3
  have HT := hide htab; have HD := hide hdut
  have s1 := hb1.size
  clear hom hol htab hdut
  have HZT := hide (zeros_table p0 (show p ≤ 2880 by omega))
  have HGZ := hide (gap_zero p0 (show p ≤ 2880 by omega))
  have HDW := hide (fun m h => @dilworth_is p xs m p0 (show p ≤ 2880 by omega) HD.out h)
  go_wp2_with fail
  refine (impl_StayingMoves_any _).mono ?_
  rintro e w2 ⟨v2, rfl, ho2, hb2⟩
  have HZ2 := hide (show RdI w2 v2 zeros from Own.rd encI_len ho2)
  have s2 := hb2.size
  have hX2 := hide ((HX.out.keep hb2 (Nat.le_refl _)).mono s2)
  clear ho2
  go_wp2_with fail
  refine (LeastCover_any p _ _ zeros xs _ HD.out HZT.out HZ2.out hX2.out).mono ?_
  rintro e w3 ⟨vw, m, fs, rfl, hlp, hcl, how, hb3⟩
  have HLP := hide hlp
  have hb13 := bnext hb2 hb3 (Nat.le_refl _)
  have s3 := hb13.size
  clear hcl how hlp
  go_wp2_with fail
  refine (impl_StayingMoves_any _).mono ?_
  rintro e w4 ⟨v4, rfl, ho4, hb4⟩
  have HZ4 := hide (show RdI w4 v4 zeros from Own.rd encI_len ho4)
  have hb14 := bnext hb13 hb4 (Nat.le_refl _)
  have s4 := hb14.size
  clear ho4
  go_wp2_with fail
  refine (impl_Gap_any p _ zeros 0 0 0 0 0 0 0 0 _ HZ4.out).mono ?_
  rintro e w5 ⟨rfl, hb5⟩
  rw [HGZ.out.1, HGZ.out.2]
  have hb15 := bnext hb14 hb5 (Nat.le_refl _)
  have s5 := hb15.size
  go_wp2_with fail
  refine (impl_StayingMoves_any _).mono ?_
  rintro e w6 ⟨v6, rfl, ho6, hb6⟩
  have HZ6 := hide (show RdI w6 v6 zeros from Own.rd encI_len ho6)
  have hb16 := bnext hb15 hb6 (Nat.le_refl _)
  have s6 := hb16.size
  have hX6 := hide ((HX.out.keep hb16 (Nat.le_refl _)).mono s6)
  clear ho6
  go_wp2_with fail
  refine (impl_RivalDuties_any p _ _ zeros xs _ HZ6.out hX6.out).mono ?_
  rintro e w7 ⟨v7, rfl, ho7, hb7⟩
  have hb17 := bnext hb16 hb7 (Nat.le_refl _)
  obtain ⟨A7, c7, rfl, -, -⟩ := own_slice encI_len ho7 (N := m) (by rw [ints_len]; exact HDW.out m HLP.out)
  have hbw : Below w.heap.size w w7 := hb1.trans (hb17.mono s1)
  clear ho7
  go_wp2
  go_ret
  exact ⟨by first | rfl | simp, hbw⟩
namespace fnDilworth
set_option maxRecDepth 100000 in
theorem lifted (os : Os) (started : os.Started) (H : Type) (enc : TypeId × Value → H) :
    ReturnsInHanded {} Try.checked os 9 .any (Rows.fnDilworthSpec.pre6 enc Try.prog Try.f9 Rows.fnDilworthRow.domain false) (Rows.fnDilworthSpec.post enc Try.prog Try.f9 false true false false) := by
  refine returnsInHanded_of_change (C := Try.checked) own started (by kernel_rfl) Try.func9
    (ChangeSpec.witness6 (enc := enc) (C := Try.checked) false ⟨#[], #[.slice none 0 0], []⟩ 8 (by kernel_rfl) (by kernel_rfl) (by kernel_rfl) (by kernel_rfl)) ?_
  intro W base args ds gs before hval0 hW hcnd _
  have hval : ∀ (j : Nat) t v, Try.f9.params[j]? = some t → args[j]? = some v → Value.okWide Try.prog W .any base t v := hval0
  have hW' := hW
  obtain ⟨p, q, hA0, hV, hbef, hfz, hnd⟩ := hW
  have hA : DataW.TrodAll enc Try.prog W 0 (fun _ => true) true Try.f9.params.toList args.toList ds p := hA0
  rw [Try.params9] at hA hval
  obtain ⟨v0, vs0, d0, ds0, p0, q0, hargs, rfl, hp0, h0, r0⟩ := trodAll_cons hA
  obtain ⟨rfl, rfl, hpn⟩ := trodAll_nil r0
  obtain rfl : args = #[v0] := by cases args; simp_all
  obtain ⟨rfl, rfl⟩ := trodVars_none hV
  obtain ⟨a0, g0, w0⟩ := open_rows8 Try.underlying46 Try.underlying5 (by kernel_rfl) (hval 0 46 v0 rfl rfl) h0
  refine (FnDilworth_walk W _ a0 g0 w0).mono fun e W' ⟨he, hg⟩ => ?_
  subst he
  exact ⟨_, rfl, post_law laidOut (by kernel_rfl) rfl Try.underlying4 rfl ⟨rfl, rfl, rfl⟩ hW' hg⟩
theorem proved : Rows.FnDilworthSaid :=
  OpenClaim.holds_of_wide 9 Try.f9 rfl rfl rfl rfl rfl rfl rfl ⟨rfl, rfl, rfl, rfl, rfl⟩ rfl rfl rfl rfl rfl (by kernel_rfl) Try.func9 (by kernel_rfl)
    (of_decide_eq_true (by kernel_rfl)) (by unfold Func.isWrapper; first | (rw [if_pos (by decide +kernel)]; kernel_rfl) | (rw [if_neg (by decide +kernel)]; exact ⟨rfl, rfl⟩))
    (fun os started H enc _ => lifted os started H enc)
end fnDilworth
end Go.Proofs.Ytdbpgfbbkejljaa
