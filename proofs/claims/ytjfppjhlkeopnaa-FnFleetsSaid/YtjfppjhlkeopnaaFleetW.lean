/- Ships of a line, the sum of the lengths: the program. No condition. -/
import Derived.Test.YtjfppjhlkeopnaaFleetL
import Derived.Test.YtjfppjhlkeopnaaApp
import Derived.Deep.DeepCutAuto
namespace Go.Proofs.Ytjfppjhlkeopnaa
open Go.RowKit
set_option linter.unusedVariables false
set_option maxRecDepth 100000 in
set_option maxHeartbeats 8000000 in
theorem impl_OfLine_any (v : Value) (fl : List ShipD) (l : Int) (w : World) (h1 : RdShip w v fl) (hok : ∀ x ∈ fl, x.ok) (hfo : fleetOk fl = true) (hl : fl.length ≤ 6) :
    Calls Try.prog 32 #[v, .int .i64 l] w fun e w' => ∃ u, e = .returned u ∧ Own w' w.heap.size 3 1 encI u (lineTo fl l fl.length) ∧ Below w.heap.size w w' := by
  have HR1 := hide h1; have HOK := hide hok; have HFO := hide hfo
  obtain ⟨A1, c1, rfl, hc1, hm1, h1⟩ := h1
  unfold maxLen at hm1
  have H1 := hide h1
  clear h1 hok hfo
  obtain ⟨i0, hi, hz0, hz1, hz2⟩ := info_parts int_info
  go_enter Try.func32, Try.ntmps32
  go_upto_region 3 with (go_at_call 35; (with_reducible refine (impl_FleetOk_any _ fl _ HR1.out HOK.out).mono ?_); rintro e w1 ⟨rfl, hb1⟩; rw [HFO.out])
  have hs1 := hb1.size
  have HO0 := hide ((own_built0 (enc := encI) w1 3 1).mono (base' := w.heap.size) hs1)
  have HB0 := hide (show Below w.heap.size w (w1.alloc (.cells #[] 3)) from (by repeat (first | exact Below.refl _ _ | assumption | refine Below.setCell ?_ (by first | omega | (simp <;> omega)) _ | refine Below.alloc ?_ (by first | omega | (simp <;> omega)) _ | refine below_drewN ?_ _ | refine Below.drew ?_ | refine Below.trans ?_ (Below.mono (by assumption) (by first | omega | (simp <;> omega))))))
  go_wp2_with fail
  generalize w1.alloc (.cells #[] 3) = W0 at HO0 HB0 ⊢
  clear hb1
  go_loopw [5, 14] (fun o s wr => ∃ k : Nat, k ≤ fl.length ∧ s = .int .i64 k ∧ Hid (Own wr w.heap.size 3 1 encI o (lineTo fl l k)) ∧ Below w.heap.size w wr) (fun _ s _ => fl.length - (intOf s).toNat)
  case atStart => exact ⟨0, Nat.zero_le _, rfl, HO0, HB0.out⟩
  case round =>
    clear HO0 HB0
    obtain ⟨k, hk, rfl, HO, hbk⟩ := hrel
    obtain ⟨wo, rfl⟩ : ∃ wo : World, wo = wr := ⟨_, rfl⟩
    have hbs := hbk.size
    by_cases hlt : k < fl.length
    · have hlt' : (k : Int) < fl.length := by omega
      obtain ⟨b1, o1, rfl, hb1, hcell1⟩ := H1.out (by omega)
      have e0 : wo.cell? ⟨b1, o1 + k * 6, none⟩ = some (.string fl[k].name) := by
        rw [hbk.cell (p := ⟨b1, _, none⟩) hb1]; have := hcell1 k fl[k] (List.getElem?_eq_getElem hlt) 0 _ rfl; simpa using this
      have e1 : wo.cell? ⟨b1, o1 + k * 6 + 1, none⟩ = some (.int .i64 fl[k].length) := by
        rw [hbk.cell (p := ⟨b1, _, none⟩) hb1]; have := hcell1 k fl[k] (List.getElem?_eq_getElem hlt) 1 _ rfl; simpa using this
      have e2 : wo.cell? ⟨b1, o1 + k * 6 + 2, none⟩ = some (.int .i64 fl[k].draught) := by
        rw [hbk.cell (p := ⟨b1, _, none⟩) hb1]; have := hcell1 k fl[k] (List.getElem?_eq_getElem hlt) 2 _ rfl; simpa using this
      have e3 : wo.cell? ⟨b1, o1 + k * 6 + 3, none⟩ = some (.int .i64 fl[k].line) := by
        rw [hbk.cell (p := ⟨b1, _, none⟩) hb1]; have := hcell1 k fl[k] (List.getElem?_eq_getElem hlt) 3 _ rfl; simpa using this
      have e4 : wo.cell? ⟨b1, o1 + k * 6 + 4, none⟩ = some (.int .i64 fl[k].tugs) := by
        rw [hbk.cell (p := ⟨b1, _, none⟩) hb1]; have := hcell1 k fl[k] (List.getElem?_eq_getElem hlt) 4 _ rfl; simpa using this
      have e5 : wo.cell? ⟨b1, o1 + k * 6 + 5, none⟩ = some (.bool fl[k].slow) := by
        rw [hbk.cell (p := ⟨b1, _, none⟩) hb1]; have := hcell1 k fl[k] (List.getElem?_eq_getElem hlt) 5 _ rfl; simpa using this
      clear hcell1
      have HTK := hide (show lineTo fl l (k + 1) = lineTo fl l k ++ if fl[k].line = l then [(k : Int)] else [] by rw [lineTo, getD_at hlt])
      have HLN := hide (show (lineTo fl l k).length ≤ 6 by have := lineTo_len fl l k; omega)
      obtain ⟨x, hxe⟩ : ∃ x, fl[k] = x := ⟨_, rfl⟩
      rw [hxe] at e0 e1 e2 e3 e4 e5 HTK
      obtain ⟨tk, htk⟩ : ∃ z, lineTo fl l k = z := ⟨_, rfl⟩
      rw [htk] at HTK HO HLN
      clear hxe htk
      obtain ⟨x0, x1, x2, x3, x4, x5⟩ := x
      simp only at e0 e1 e2 e3 e4 e5 HTK
      obtain ⟨A3, c3, rfl, hc3, hm3, -⟩ := Own.rd encI_len HO.out
      unfold maxLen at hm3
      by_cases hbe : x3 = l
      · have hbe2 := hbe.symm
        subst hbe2
        have HG2 := hide (show lineTo fl l (k + 1) = tk ++ [(k : Int)] by rw [HTK.out, if_pos rfl])
        clear HTK
        have hbx : Below wo.heap.size wo (wo.alloc (.cells #[.string x0, .int .i64 x1, .int .i64 x2, .int .i64 l, .int .i64 x4, .bool x5] 31)) := (Below.refl _ _).alloc (Nat.le_refl _) _
        have HOX := hide (HO.out.below hbx)
        have HBX := hide (bnext hbk hbx (Nat.le_refl _))
        go_upto_region 8 with fail
        obtain ⟨W1, hW1⟩ : ∃ W, wo.alloc (.cells #[.string x0, .int .i64 x1, .int .i64 x2, .int .i64 l, .int .i64 x4, .bool x5] 31) = W := ⟨_, rfl⟩
        rw [hW1] at HOX HBX ⊢
        clear hW1 e0 e1 e2 e3 e4 e5 hbx
        have hs1 : w.heap.size ≤ W1.heap.size := HBX.out.size
        go_wp2_with (at_builtin; refine wpList_append_rd _ encI_len encI_one (by rfl) _ _ 64 (by rfl) w.heap.size 3 i0 (.int .i64 0) 8 Try.underlying64 hi hz0 hz1 hz2 rfl (by decide) _ _ (by rfl) (HOX.out.below ((Below.refl _ _).alloc (Nat.le_refl _) _)) _ _ [(k : Int)] (by rfl) (rd_new (enc := encI) _ (k : Int) _) (by have := HLN.out; unfold maxLen; simp <;> omega) (by have := HLN.out; simp <;> omega) (by simp <;> omega) ?_; intro r9 w9 hown9 hgrow9 hblk9)
        have hb9 : Below w.heap.size w w9 := (HBX.out.trans (((Below.refl _ _).alloc (Nat.le_refl _) _).mono hs1)).trans (Own.belowGrown (B := w.heap.size) (HOX.out.below ((Below.refl _ _).alloc (Nat.le_refl _) _)) hgrow9 (Nat.le_refl _) (by simp <;> omega))
        have HO9 := hide (show Own w9 w.heap.size 3 1 encI r9 (lineTo fl l (k + 1)) by rw [HG2.out]; exact hown9)
        clear hown9 hgrow9 hblk9 HOX HBX
        go_roundw
        case rel => exact ⟨k + 1, by omega, by go_num, HO9, hb9⟩
        case measure => simp [intOf]; omega
      · have hbx : Below wo.heap.size wo (wo.alloc (.cells #[.string x0, .int .i64 x1, .int .i64 x2, .int .i64 x3, .int .i64 x4, .bool x5] 31)) := (Below.refl _ _).alloc (Nat.le_refl _) _
        have HG2 := hide (show lineTo fl l (k + 1) = tk by rw [HTK.out, if_neg hbe, List.append_nil])
        clear HTK
        go_wp2
        go_roundw
        case rel => exact ⟨k + 1, by omega, by go_num, hide (by rw [HG2.out]; exact HO.out.below hbx), bnext hbk hbx (Nat.le_refl _)⟩
        case measure => simp [intOf]; omega
    · obtain rfl : k = fl.length := by omega
      clear hlt
      go_wp2
      go_ret
      exact ⟨_, rfl, HO.out, hbk⟩
set_option maxRecDepth 100000 in
set_option maxHeartbeats 8000000 in
theorem impl_LengthSum_any (v : Value) (fl : List ShipD) (w : World) (h1 : RdShip w v fl) (hok : ∀ x ∈ fl, x.ok) (hfo : fleetOk fl = true) (hl : fl.length ≤ 6) (hfi : FleetIs fl) :
    Calls Try.prog 34 #[v] w fun e w' => e = .returned (.int .i64 (lenTo fl fl.length)) ∧ Below w.heap.size w w' := by
  have HR1 := hide h1; have HOK := hide hok; have HFO := hide hfo; have HFI := hide hfi
  obtain ⟨A1, c1, rfl, hc1, hm1, h1⟩ := h1
  unfold maxLen at hm1
  have H1 := hide h1
  clear h1 hok hfo hfi
  go_enter Try.func34, Try.ntmps34
  go_wp2_with (go_at_call 35; (with_reducible refine (impl_FleetOk_any _ fl _ HR1.out HOK.out).mono ?_); rintro e w1 ⟨rfl, hb1⟩; rw [HFO.out])
  go_loopw [3, 11] (fun a s wr => ∃ k : Nat, k ≤ fl.length ∧ s = .int .i64 k ∧ a = .int .i64 (lenTo fl k) ∧ Below w.heap.size w wr) (fun _ s _ => fl.length - (intOf s).toNat)
  case atStart => exact ⟨0, Nat.zero_le _, rfl, rfl, hb1⟩
  case round =>
    clear hb1
    obtain ⟨k, hk, rfl, rfl, hbk⟩ := hrel
    obtain ⟨wo, rfl⟩ : ∃ wo : World, wo = wr := ⟨_, rfl⟩
    have hbs := hbk.size
    by_cases hlt : k < fl.length
    · have hlt' : (k : Int) < fl.length := by omega
      obtain ⟨b1, o1, rfl, hb1, hcell1⟩ := H1.out (by omega)
      have e0 : wo.cell? ⟨b1, o1 + k * 6, none⟩ = some (.string fl[k].name) := by
        rw [hbk.cell (p := ⟨b1, _, none⟩) hb1]; have := hcell1 k fl[k] (List.getElem?_eq_getElem hlt) 0 _ rfl; simpa using this
      have e1 : wo.cell? ⟨b1, o1 + k * 6 + 1, none⟩ = some (.int .i64 fl[k].length) := by
        rw [hbk.cell (p := ⟨b1, _, none⟩) hb1]; have := hcell1 k fl[k] (List.getElem?_eq_getElem hlt) 1 _ rfl; simpa using this
      have e2 : wo.cell? ⟨b1, o1 + k * 6 + 2, none⟩ = some (.int .i64 fl[k].draught) := by
        rw [hbk.cell (p := ⟨b1, _, none⟩) hb1]; have := hcell1 k fl[k] (List.getElem?_eq_getElem hlt) 2 _ rfl; simpa using this
      have e3 : wo.cell? ⟨b1, o1 + k * 6 + 3, none⟩ = some (.int .i64 fl[k].line) := by
        rw [hbk.cell (p := ⟨b1, _, none⟩) hb1]; have := hcell1 k fl[k] (List.getElem?_eq_getElem hlt) 3 _ rfl; simpa using this
      have e4 : wo.cell? ⟨b1, o1 + k * 6 + 4, none⟩ = some (.int .i64 fl[k].tugs) := by
        rw [hbk.cell (p := ⟨b1, _, none⟩) hb1]; have := hcell1 k fl[k] (List.getElem?_eq_getElem hlt) 4 _ rfl; simpa using this
      have e5 : wo.cell? ⟨b1, o1 + k * 6 + 5, none⟩ = some (.bool fl[k].slow) := by
        rw [hbk.cell (p := ⟨b1, _, none⟩) hb1]; have := hcell1 k fl[k] (List.getElem?_eq_getElem hlt) 5 _ rfl; simpa using this
      clear hcell1
      have hrg := lenTo_range HFI.out k hk
      have hsh := HFI.out k hlt
      have hst : lenTo fl (k + 1) = lenTo fl k + fl[k].length := by rw [lenTo, getD_at hlt]
      obtain ⟨x, hxe⟩ : ∃ x, fl[k] = x := ⟨_, rfl⟩
      rw [hxe] at e0 e1 e2 e3 e4 e5 hst hsh
      obtain ⟨sk, hsk⟩ : ∃ z, lenTo fl k = z := ⟨_, rfl⟩
      rw [hsk] at hst hrg ⊢
      have HST := hide hst
      clear hxe hsk hst
      obtain ⟨x0, x1, x2, x3, x4, x5⟩ := x
      obtain ⟨-, hx1, hx2, -⟩ := hsh
      simp only at e0 e1 e2 e3 e4 e5 HST hx1 hx2
      have hw1 : IntKind.i64.wrap (sk + x1) = sk + x1 := IntWalk.i64_in _ (by omega)
      have hbx : Below wo.heap.size wo (wo.alloc (.cells #[.string x0, .int .i64 x1, .int .i64 x2, .int .i64 x3, .int .i64 x4, .bool x5] 31)) := (Below.refl _ _).alloc (Nat.le_refl _) _
      go_wp2
      go_roundw
      case rel => exact ⟨k + 1, by omega, by go_num, by rw [HST.out], bnext hbk hbx (Nat.le_refl _)⟩
      case measure => simp [intOf]; omega
    · obtain rfl : k = fl.length := by omega
      clear hlt
      go_wp2
      go_ret
      exact ⟨rfl, hbk⟩
end Go.Proofs.Ytjfppjhlkeopnaa
