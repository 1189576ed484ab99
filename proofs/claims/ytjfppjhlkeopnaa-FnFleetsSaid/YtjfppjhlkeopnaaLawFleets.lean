/- The law FnFleets: for every row of bytes it returns true and leaves its argument as it was. No condition. -/
import Derived.Test.YtjfppjhlkeopnaaMakeC
import Derived.Test.YtjfppjhlkeopnaaFleetW
import Derived.Test.YtjfppjhlkeopnaaLaw2
namespace Go.Proofs.Ytjfppjhlkeopnaa
open Go.RowKit Go.WideShapes Go.ChangeShapes Go.ChangeAt Go.Joins Go.Deep
set_option linter.unusedVariables false
set_option maxRecDepth 100000 in
set_option maxHeartbeats 32000000 in
theorem FnFleets_walk (w : World) (v : Value) (bs : List Int) (h : RdB w w.heap.size 1 enc8 v bs) (hby : Byt bs) :
    Calls Try.prog 7 #[v] w fun e w' => e = .returned (.bool true) ∧ Below w.heap.size w w' := by
  have HR := hide h; have HBY := hide hby; clear hby
  obtain ⟨A0, c0, rfl, hc0, hm0, -⟩ := h
  unfold maxLen at hm0
  go_enter Try.func7, Try.ntmps7
  by_cases hbig : (1048576 : Int) < (bs.length : Int)
  · go_wp2_with fail
    go_ret
    exact ⟨rfl, (by repeat (first | exact Below.refl _ _ | assumption | refine Below.setCell ?_ (by first | omega | (simp <;> omega)) _ | refine Below.alloc ?_ (by first | omega | (simp <;> omega)) _ | refine below_drewN ?_ _ | refine Below.drew ?_ | refine Below.trans ?_ (Below.mono (by assumption) (by first | omega | (simp <;> omega)))))⟩
  have hbig' : (bs.length : Int) ≤ 1048576 := by omega
  have HN := hide (show bs.length ≤ 1048576 by omega)
  clear hbig
  go_wp2_with fail
  refine (MakeCalls_any _ bs _ HR.out HBY.out HN.out).mono ?_
  rintro e w1 ⟨m0, r0, p, q, r, r1, A1, A2, A3, A4, A5, A6, A7, n1, n2, n3, n4, n6, n7, c1, c2, c3, c4, c5, c6, c7, fl, rfl, hof, hf0, hf1, hfi, hb1⟩
  have HR1 := hide (show RdShip w1 (.slice A5 fl.length c5) fl from Own.rd ShipD.enc_len hof)
  have HFI := hide hfi; have HFW := hide (hfi.wf (by omega)); have HFO := hide (hfi.ok (by omega))
  have HB1 := hide hb1
  clear hof hfi hb1
  go_upto_region 4 with fail
  obtain ⟨W1, hW1⟩ : ∃ W, w1.alloc (.cells #[.int .i64 m0, .slice A1 n1 c1, .slice A2 n2 c2, .slice A3 n3 c3, .slice A4 n4 c4, .slice A5 fl.length c5, .int .i64 r0, .bool r1, .int .i64 p, .int .i64 q, .int .i64 r, .slice A6 n6 c6] 68) = W := ⟨_, rfl⟩
  have k1 : Below w1.heap.size w1 W1 := by rw [← hW1]; exact (Below.refl _ _).alloc (Nat.le_refl _) _
  have l1 : w1.heap.size < W1.heap.size := by rw [← hW1]; simp
  have X1 : RowX W1 w1.heap.size [.int .i64 m0, .slice A1 n1 c1, .slice A2 n2 c2, .slice A3 n3 c3, .slice A4 n4 c4, .slice A5 fl.length c5, .int .i64 r0, .bool r1, .int .i64 p, .int .i64 q, .int .i64 r, .slice A6 n6 c6] := by rw [← hW1]; exact RowX.new w1 _ _
  rw [hW1]
  clear hW1
  have x5 := (X1 5 _ rfl).1
  have HBW := hide (show Below w.heap.size w W1 from HB1.out.trans (k1.mono HB1.out.size))
  have HK := hide (show ∀ w', Below W1.heap.size W1 w' → RdShip w' (.slice A5 fl.length c5) fl from fun w' hB => (((HR1.out.keep k1 (Nat.le_refl _)).mono k1.size).keep hB (Nat.le_refl _)).mono hB.size)
  obtain ⟨X, hX⟩ : ∃ X, w1.heap.size = X := ⟨_, rfl⟩
  rw [hX] at l1 x5 ⊢
  have HX5 := hide (fun (w' : World) (hB : Below W1.heap.size W1 w') => (And.intro (cellKeepL hB x5 l1) (Nat.lt_of_lt_of_le l1 hB.size) : w'.cell? ⟨X, 5, none⟩ = some (.slice A5 fl.length c5) ∧ X < w'.heap.size))
  clear k1 X1 x5 hX HR1 HB1
  go_wp2_with fail
  go_loopw [5, 6] (fun c s wr => ∃ n : Nat, n ≤ 4 ∧ s = .int .i64 n ∧ c = .int .i64 (linesTo fl n) ∧ Hid (Below W1.heap.size W1 wr)) (fun _ s _ => 4 - (intOf s).toNat)
  case atStart => exact ⟨0, by omega, rfl, rfl, hide (Below.refl _ _)⟩
  case round =>
    obtain ⟨n, hn, rfl, rfl, HB⟩ := hrel
    obtain ⟨wo, rfl⟩ : ∃ wo : World, wo = wr := ⟨_, rfl⟩
    have hln := linesTo_le fl n
    have hln2 : linesTo fl n ≤ 12 := by have : n * fl.length ≤ 4 * 3 := Nat.mul_le_mul hn hf1; omega
    clear hln
    by_cases h4 : n < 4
    · have h4' : (n : Int) < 4 := by omega
      have hnw : IntKind.i64.wrap ((n : Int) + 1) = (n : Int) + 1 := IntWalk.i64_in _ (by omega)
      have HLN := hide (show linesTo fl (n + 1) = linesTo fl n + (lineTo fl (n : Nat) fl.length).length from rfl)
      have HLM := hide (fun x h => lineTo_mem (fl := fl) (l := (n : Int)) fl.length (Nat.le_refl _) x h)
      have hll := lineTo_len fl (n : Nat) fl.length
      obtain ⟨us, hus⟩ : ∃ l, lineTo fl (n : Nat) fl.length = l := ⟨_, rfl⟩
      have HUS := hide hus
      rw [hus] at HLN HLM hll
      obtain ⟨cn, hcn⟩ : ∃ z, linesTo fl n = z := ⟨_, rfl⟩
      rw [hcn] at HLN hln2 ⊢
      clear hus hcn
      obtain ⟨y5, hXo⟩ := HX5.out wo HB.out
      go_wp2_with (go_at_call 32; (with_reducible refine (impl_OfLine_any _ fl n _ (HK.out _ HB.out) HFW.out HFO.out (by omega)).mono ?_); rintro e w2 ⟨u, rfl, ho2, hb2⟩; rw [HUS.out] at ho2; have HR2 := hide (Own.rd encI_len ho2); have HB2 := hide (bnext HB.out hb2 (Nat.le_refl _)); clear ho2 hb2; obtain ⟨A8, c8, rfl, hc8, hm8, -⟩ := HR2.out; unfold maxLen at hm8)
      clear y5 hXo
      go_loopw [5, 29] (fun c s wr => ∃ k : Nat, k ≤ us.length ∧ s = .int .i64 k ∧ c = .int .i64 (cn + k) ∧ Hid (Below w2.heap.size w2 wr)) (fun _ s _ => us.length - (intOf s).toNat)
      case atStart => exact ⟨0, Nat.zero_le _, rfl, by simp, hide (Below.refl _ _)⟩
      case round =>
        obtain ⟨k, hk, rfl, rfl, HI⟩ := hrel
        rename_i wr
        obtain ⟨wi, rfl⟩ : ∃ wi : World, wi = wr := ⟨_, rfl⟩
        have hbi := HI.out
        have HBI := hide (bnext HB2.out hbi (Nat.le_refl _))
        obtain ⟨y5, hXo⟩ := HX5.out wi HBI.out
        have hcw : IntKind.i64.wrap ((cn : Int) + k + 1) = (cn : Int) + k + 1 := IntWalk.i64_in _ (by omega)
        by_cases hlt : k < us.length
        · have hlt' : (k : Int) < us.length := by omega
          obtain ⟨A8x, c8x, ee8, -, -, h8⟩ := HR2.out
          obtain ⟨b8, o8, e8x, hb8, hcell8⟩ := h8 (by omega)
          obtain ⟨rfl, rfl⟩ : A8 = A8x ∧ c8 = c8x := by injection ee8 with q1 q2 q3; exact ⟨q1, q3⟩
          subst e8x
          have e0 : wi.cell? ⟨b8, o8 + k, none⟩ = some (.int .i64 (us[k])) := by
            rw [hbi.cell (p := ⟨b8, _, none⟩) hb8]; have := hcell8 k us[k] (List.getElem?_eq_getElem hlt) 0 _ rfl; simpa using this
          obtain ⟨i, hie, hil, hline⟩ := HLM.out us[k] (List.getElem_mem hlt)
          rw [hie] at e0
          have hil' : (i : Int) < fl.length := by omega
          have hi0 : ¬ (i : Int) < 0 := by omega
          have hi1 : ¬ (fl.length : Int) ≤ (i : Int) := by omega
          obtain ⟨A5x, c5x, ee5, -, -, h5⟩ := HK.out _ HBI.out
          obtain ⟨b5, o5, e5x, hb5, hcell5⟩ := h5 (by omega)
          obtain ⟨rfl, rfl⟩ : A5 = A5x ∧ c5 = c5x := by injection ee5 with q1 q2 q3; exact ⟨q1, q3⟩
          subst e5x
          have hbr := Below.refl wi.heap.size wi
          have s0 : wi.cell? ⟨b5, o5 + i * 6, none⟩ = some (.string fl[i].name) := by
            rw [hbr.cell (p := ⟨b5, _, none⟩) hb5]; have := hcell5 i fl[i] (List.getElem?_eq_getElem hil) 0 _ rfl; simpa using this
          have s1 : wi.cell? ⟨b5, o5 + i * 6 + 1, none⟩ = some (.int .i64 fl[i].length) := by
            rw [hbr.cell (p := ⟨b5, _, none⟩) hb5]; have := hcell5 i fl[i] (List.getElem?_eq_getElem hil) 1 _ rfl; simpa using this
          have s2 : wi.cell? ⟨b5, o5 + i * 6 + 2, none⟩ = some (.int .i64 fl[i].draught) := by
            rw [hbr.cell (p := ⟨b5, _, none⟩) hb5]; have := hcell5 i fl[i] (List.getElem?_eq_getElem hil) 2 _ rfl; simpa using this
          have s3 : wi.cell? ⟨b5, o5 + i * 6 + 3, none⟩ = some (.int .i64 fl[i].line) := by
            rw [hbr.cell (p := ⟨b5, _, none⟩) hb5]; have := hcell5 i fl[i] (List.getElem?_eq_getElem hil) 3 _ rfl; simpa using this
          have s4 : wi.cell? ⟨b5, o5 + i * 6 + 4, none⟩ = some (.int .i64 fl[i].tugs) := by
            rw [hbr.cell (p := ⟨b5, _, none⟩) hb5]; have := hcell5 i fl[i] (List.getElem?_eq_getElem hil) 4 _ rfl; simpa using this
          have s5 : wi.cell? ⟨b5, o5 + i * 6 + 5, none⟩ = some (.bool fl[i].slow) := by
            rw [hbr.cell (p := ⟨b5, _, none⟩) hb5]; have := hcell5 i fl[i] (List.getElem?_eq_getElem hil) 5 _ rfl; simpa using this
          rw [getD_at hil] at hline
          rw [hline] at s3
          clear hie hline hcell8 hcell5 h5 h8 ee5 ee8 s0 s1 s2 s4 s5 hbr
          go_wp2
          go_roundw
          case rel => exact ⟨k + 1, by omega, by go_num, by first | go_num | (congr 1; omega), HI⟩
          case measure => simp [intOf]; omega
        · obtain rfl : k = us.length := by omega
          go_wp2
          go_roundw
          case rel => exact ⟨n + 1, by omega, by go_num, by rw [HLN.out]; first | rfl | (congr 1; omega), HBI⟩
          case measure => simp [intOf]; omega
    · have hl4 : linesTo fl n = fl.length := by rw [show n = 4 by omega]; exact lines_four HFI.out
      have h4' : ¬ (n : Int) < 4 := by omega
      rw [hl4]
      clear hn h4
      obtain ⟨y5, hXo⟩ := HX5.out wo HB.out
      clear hl4 hln2
      go_wp2_with fail
      clear y5 hXo
      go_loopw [9, 58] (fun c s wr => ∃ k : Nat, k ≤ fl.length ∧ s = .int .i64 k ∧ c = .int .i64 (lenTo fl k) ∧ Hid (Below W1.heap.size W1 wr)) (fun _ s _ => fl.length - (intOf s).toNat)
      case atStart => exact ⟨0, by omega, rfl, rfl, HB⟩
      case round =>
        clear HB
        obtain ⟨k, hk, rfl, rfl, HB⟩ := hrel
        rename_i wr
        obtain ⟨wi, rfl⟩ : ∃ wi : World, wi = wr := ⟨_, rfl⟩
        obtain ⟨y5, hXo⟩ := HX5.out wi HB.out
        have hrg := lenTo_range HFI.out k hk
        by_cases hlt : k < fl.length
        · have hlt' : (k : Int) < fl.length := by omega
          have hsh := HFI.out k hlt
          have hst : lenTo fl (k + 1) = lenTo fl k + fl[k].length := by rw [lenTo, getD_at hlt]
          have hnm := named_is HFI.out (by omega) hlt
          obtain ⟨A5x, c5x, ee5, -, -, h5⟩ := HK.out _ HB.out
          obtain ⟨b5, o5, e5x, hb5, hcell5⟩ := h5 (by omega)
          obtain ⟨rfl, rfl⟩ : A5 = A5x ∧ c5 = c5x := by injection ee5 with q1 q2 q3; exact ⟨q1, q3⟩
          subst e5x
          have hbr := Below.refl wi.heap.size wi
          have s0 : wi.cell? ⟨b5, o5 + k * 6, none⟩ = some (.string fl[k].name) := by
            rw [hbr.cell (p := ⟨b5, _, none⟩) hb5]; have := hcell5 k fl[k] (List.getElem?_eq_getElem hlt) 0 _ rfl; simpa using this
          have s1 : wi.cell? ⟨b5, o5 + k * 6 + 1, none⟩ = some (.int .i64 fl[k].length) := by
            rw [hbr.cell (p := ⟨b5, _, none⟩) hb5]; have := hcell5 k fl[k] (List.getElem?_eq_getElem hlt) 1 _ rfl; simpa using this
          have s2 : wi.cell? ⟨b5, o5 + k * 6 + 2, none⟩ = some (.int .i64 fl[k].draught) := by
            rw [hbr.cell (p := ⟨b5, _, none⟩) hb5]; have := hcell5 k fl[k] (List.getElem?_eq_getElem hlt) 2 _ rfl; simpa using this
          have s3 : wi.cell? ⟨b5, o5 + k * 6 + 3, none⟩ = some (.int .i64 fl[k].line) := by
            rw [hbr.cell (p := ⟨b5, _, none⟩) hb5]; have := hcell5 k fl[k] (List.getElem?_eq_getElem hlt) 3 _ rfl; simpa using this
          have s4 : wi.cell? ⟨b5, o5 + k * 6 + 4, none⟩ = some (.int .i64 fl[k].tugs) := by
            rw [hbr.cell (p := ⟨b5, _, none⟩) hb5]; have := hcell5 k fl[k] (List.getElem?_eq_getElem hlt) 4 _ rfl; simpa using this
          have s5 : wi.cell? ⟨b5, o5 + k * 6 + 5, none⟩ = some (.bool fl[k].slow) := by
            rw [hbr.cell (p := ⟨b5, _, none⟩) hb5]; have := hcell5 k fl[k] (List.getElem?_eq_getElem hlt) 5 _ rfl; simpa using this
          obtain ⟨x, hxe⟩ : ∃ x, fl[k] = x := ⟨_, rfl⟩
          rw [hxe] at s0 s1 s2 s3 s4 s5 hst hsh hnm
          obtain ⟨sk, hsk⟩ : ∃ z, lenTo fl k = z := ⟨_, rfl⟩
          rw [hsk] at hst hrg ⊢
          have HST := hide hst; have HNM := hide hnm
          clear hxe hsk hst hnm hcell5 h5 ee5 hbr
          obtain ⟨x0, x1, x2, x3, x4, x5⟩ := x
          obtain ⟨-, hx1, hx2, -⟩ := hsh
          simp only at s0 s1 s2 s3 s4 s5 HST HNM hx1 hx2
          have hw1 : IntKind.i64.wrap (sk + x1) = sk + x1 := IntWalk.i64_in _ (by omega)
          have hbx : Below wi.heap.size wi (wi.alloc (.cells #[.string x0, .int .i64 x1, .int .i64 x2, .int .i64 x3, .int .i64 x4, .bool x5] 31)) := (Below.refl _ _).alloc (Nat.le_refl _) _
          have HBX := hide (bnext HB.out hbx (Nat.le_refl _))
          clear hbx
          go_wp2_with (go_at_call 33; (with_reducible refine (impl_ShipNamed_any _ fl x0 _ (HK.out _ HBX.out)).mono ?_); rintro e w6 ⟨rfl, hb6⟩; rw [HNM.out]; have HB6 := hide (bnext HBX.out hb6 (Nat.le_refl _)); clear hb6)
          go_roundw
          case rel => exact ⟨k + 1, by omega, by go_num, by rw [HST.out], HB6⟩
          case measure => simp [intOf]; omega
        · obtain rfl : k = fl.length := by omega
          obtain ⟨sk, hsk⟩ : ∃ z, lenTo fl fl.length = z := ⟨_, rfl⟩
          have HSK := hide hsk
          rw [hsk]
          clear hsk hlt hrg
          have keepX := HX5
          go_wp2_with (first
            | (go_at_call 34; (with_reducible refine (impl_LengthSum_any _ fl _ (HK.out _ HB.out) HFW.out HFO.out (by omega) HFI.out).mono ?_); rintro e w6 ⟨rfl, hb6⟩; rw [HSK.out]; have HB6 := hide (bnext HB.out hb6 (Nat.le_refl _)); obtain ⟨y56, hX6⟩ := HX5.out w6 HB6.out; clear hb6)
            | (go_at_call 35; (with_reducible refine (impl_FleetOk_any _ fl _ (HK.out _ HB6.out) HFW.out).mono ?_); rintro e w7 ⟨rfl, hb7⟩; rw [HFO.out]; have HB7 := hide (bnext HB6.out hb7 (Nat.le_refl _)); clear hb7))
          go_ret
          exact ⟨by first | rfl | simp, HBW.out.trans (HB7.out.mono HBW.out.size)⟩
namespace fnFleets
set_option maxRecDepth 100000 in
theorem lifted (os : Os) (started : os.Started) (H : Type) (enc : TypeId × Value → H) :
    ReturnsInHanded {} Try.checked os 7 .any (Rows.fnFleetsSpec.pre6 enc Try.prog Try.f7 Rows.fnFleetsRow.domain false) (Rows.fnFleetsSpec.post enc Try.prog Try.f7 false true false false) := by
  refine returnsInHanded_of_change (C := Try.checked) own started (by kernel_rfl) Try.func7
    (ChangeSpec.witness6 (enc := enc) (C := Try.checked) false ⟨#[], #[.slice none 0 0], []⟩ 8 (by kernel_rfl) (by kernel_rfl) (by kernel_rfl) (by kernel_rfl)) ?_
  intro W base args ds gs before hval0 hW hcnd _
  have hval : ∀ (j : Nat) t v, Try.f7.params[j]? = some t → args[j]? = some v → Value.okWide Try.prog W .any base t v := hval0
  have hW' := hW
  obtain ⟨p, q, hA0, hV, hbef, hfz, hnd⟩ := hW
  have hA : DataW.TrodAll enc Try.prog W 0 (fun _ => true) true Try.f7.params.toList args.toList ds p := hA0
  rw [Try.params7] at hA hval
  obtain ⟨v0, vs0, d0, ds0, p0, q0, hargs, rfl, hp0, h0, r0⟩ := trodAll_cons hA
  obtain ⟨rfl, rfl, hpn⟩ := trodAll_nil r0
  obtain rfl : args = #[v0] := by cases args; simp_all
  obtain ⟨rfl, rfl⟩ := trodVars_none hV
  obtain ⟨a0, g0, w0⟩ := open_rows8 Try.underlying50 Try.underlying5 (by kernel_rfl) (hval 0 50 v0 rfl rfl) h0
  refine (FnFleets_walk W _ a0 g0 w0).mono fun e W' ⟨he, hg⟩ => ?_
  subst he
  exact ⟨_, rfl, post_law laidOut (by kernel_rfl) rfl Try.underlying4 rfl ⟨rfl, rfl, rfl⟩ hW' hg⟩
theorem proved : Rows.FnFleetsSaid :=
  OpenClaim.holds_of_wide 7 Try.f7 rfl rfl rfl rfl rfl rfl rfl ⟨rfl, rfl, rfl, rfl, rfl⟩ rfl rfl rfl rfl rfl (by kernel_rfl) Try.func7 (by kernel_rfl)
    (of_decide_eq_true (by kernel_rfl)) (by unfold Func.isWrapper; first | (rw [if_pos (by decide +kernel)]; kernel_rfl) | (rw [if_neg (by decide +kernel)]; exact ⟨rfl, rfl⟩))
    (fun os started H enc _ => lifted os started H enc)
end fnFleets
end Go.Proofs.Ytjfppjhlkeopnaa
