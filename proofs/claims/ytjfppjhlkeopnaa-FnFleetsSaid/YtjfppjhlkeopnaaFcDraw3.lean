/- A forecast drawn out of bytes. No condition. -/
import Derived.Test.YtjfppjhlkeopnaaFcDraw2
namespace Go.Proofs.Ytjfppjhlkeopnaa
open Go.RowKit
set_option linter.unusedVariables false
def ForeRes (B g : Nat) (v : Value) (bs : List Int) (w : World) (e : Ending) (w' : World) : Prop := ∃ (m0 at_ : Int) (vp vs : Value) (ps : List PartD) (ss : List SurgeD), e = .returned (.agg #[.int .i64 m0, vp, vs]) ∧ (0 ≤ m0 ∧ m0 < 300) ∧ (1 ≤ ps.length ∧ ps.length ≤ 2) ∧ (∀ x ∈ ps, PartIs x) ∧ (1 ≤ ss.length ∧ ss.length ≤ 3) ∧ at_ ≤ 2400 ∧ SurgesIs at_ ss ∧ Own w' w.heap.size 155 3 PartD.enc vp ps ∧ Own w' w.heap.size 147 3 SurgeD.enc vs ss ∧ Cur w' B g v bs ∧ CurW g w w'
theorem OwnB.curwF {α : Type} {w w' : World} {lo hi sz g : Nat} {T : TypeId} {enc : α → List Value} {v : Value} {xs : List α} (h : OwnB w lo hi T sz enc v xs) (hw : CurW g w w') (hg : g < lo) : OwnB w' lo hi T sz enc v xs := ⟨h.1.curw hw hg, h.2⟩
theorem OwnB.setF {α : Type} {w : World} {lo X o sz : Nat} {T : TypeId} {enc : α → List Value} {v : Value} {xs : List α} (h : OwnB w lo X T sz enc v xs) (u : Value) : OwnB (w.setCell ⟨X, o, none⟩ u) lo X T sz enc v xs := ⟨h.1.setFar (fun e => by have := h.2 X e; omega) u, h.2⟩
set_option maxRecDepth 100000 in
set_option maxHeartbeats 16000000 in
theorem l03Draw_any (B g : Nat) (v : Value) (bs : List Int) (w : World) (h : Cur w B g v bs) :
    Calls Try.prog 101 #[.pointer (some ⟨g, 0, none⟩)] w (ForeRes B g v bs w) := by
  have hg := h.lt
  have HC := hide h; clear h
  go_enter Try.func101, Try.ntmps101
  go_wp2_with fail
  generalize hW0 : w.alloc (.cells #[.int .i64 0, .slice none 0 0, .slice none 0 0] 56) = W0
  have hb0 : Below w.heap.size w W0 := by rw [← hW0]; exact (Below.refl _ _).alloc (Nat.le_refl _) _
  have hl0 : w.heap.size < W0.heap.size := by rw [← hW0]; simp
  have Z := hide (show (W0.cell? ⟨w.heap.size, 0, none⟩ = some (.int .i64 0) ∧ W0.cell? ⟨w.heap.size, 1, none⟩ = some (.slice none 0 0) ∧ W0.cell? ⟨w.heap.size, 2, none⟩ = some (.slice none 0 0)) ∧ W0.frozen? ⟨w.heap.size, 0, none⟩ = false ∧ W0.frozen? ⟨w.heap.size, 1, none⟩ = false ∧ W0.frozen? ⟨w.heap.size, 2, none⟩ = false by rw [← hW0]; exact ⟨⟨by simp [go_sem], by simp [go_sem], by simp [go_sem]⟩, by simp [go_sem], by simp [go_sem], by simp [go_sem]⟩)
  clear hW0
  have hgW0 : g < W0.heap.size := by omega
  refine (l02Draw_any B g v bs _ (HC.out.keep hb0 hg)).mono ?_
  rintro e w1 ⟨m0, vp, ps, rfl, hm0, hpl, hps, hop, hc1, hw1⟩
  obtain ⟨A1, c1, rfl, -, -, -⟩ := Own.rd PartD.enc_len hop
  have HM0 := hide hm0; have HPL := hide hpl; have HPS := hide hps
  have HC1 := hide hc1; have HW1 := hide hw1; have s1 := hw1.size
  have HOP1 := hide hop.b
  clear hc1 hw1 hop hm0 hpl hps
  go_wp2_with fail
  obtain ⟨W2, hW2⟩ : ∃ W, w1.alloc (.cells #[.int .i64 m0, .slice A1 ps.length c1, .slice none 0 0] 56) = W := ⟨_, rfl⟩
  have hb2 : Below w1.heap.size w1 W2 := by rw [← hW2]; exact (Below.refl _ _).alloc (Nat.le_refl _) _
  have hs2 : W2.heap.size = w1.heap.size + 1 := by rw [← hW2]; simp
  have m2 : W2.cell? ⟨w1.heap.size, 0, none⟩ = some (.int .i64 m0) ∧ W2.cell? ⟨w1.heap.size, 1, none⟩ = some (.slice A1 ps.length c1) := by rw [← hW2]; exact ⟨by simp [go_sem], by simp [go_sem]⟩
  have st2 : FldSt W2 w1.heap.size 2 (w1.heap.size + 1) 147 3 SurgeD.enc (.slice none 0 0) [] := ⟨by rw [← hW2]; simp [go_sem], by rw [← hW2]; simp [go_sem], by omega, by omega, Own.nil_⟩
  have HOP2 := hide (HOP1.out.below hb2 (Nat.le_refl _))
  rw [hW2]
  clear hW2
  have HC2 := hide (HC1.out.keep hb2 HC1.out.lt)
  have HW2 := hide (HW1.out.fresh (hb2.mono s1))
  have hgX : g < w1.heap.size := HC1.out.lt
  obtain ⟨X, hX⟩ : ∃ X, w1.heap.size = X := ⟨_, rfl⟩
  rw [hX] at hs2 m2 st2 hgX s1 HOP2 ⊢
  have hs2' : X < W2.heap.size := by omega
  clear hs2 hb2 HC1 HW1 HOP1
  refine (l01Below_any B g v bs 3 _ HC2.out (by omega)).mono ?_
  rintro e w3 ⟨n0, rfl, n00, -, -, n01, hc3, hw3⟩
  replace n01 := n01 (by omega)
  obtain ⟨n, rfl⟩ : ∃ n : Nat, n0 = n := ⟨n0.toNat, by omega⟩
  have hn1 : IntKind.i64.wrap (1 + (n : Int)) = 1 + (n : Int) := IntWalk.i64_in _ (by omega)
  have hbk := hw3.block X hs2' (fun e => by have := Option.some.inj e; omega)
  have HM3 := hide (And.intro ((World.cell?_of_block (a := ⟨X, 0, none⟩) hbk).trans m2.1) ((World.cell?_of_block (a := ⟨X, 1, none⟩) hbk).trans m2.2))
  have ST3 := hide (st2.curw hw3 hgX)
  have HC3 := hide hc3
  have HW3 := hide (HW2.out.trans hw3)
  have HOP3 := hide (HOP2.out.curwF hw3 hgW0)
  have HSU := hide (show SurgesIs 0 [] from ⟨fun i h => by simp at h, fun i h => by simp at h, fun h => by simp at h, fun _ => rfl⟩)
  clear hc3 hw3 hbk m2 st2 HC2 HW2 HOP2
  go_wp2_with fail
  go_loopw [4, 5] (fun av s wr => ∃ (k : Nat) (a : Int) (vs : Value) (ss : List SurgeD), s = .int .i64 k ∧ av = .int .i64 a ∧ 0 ≤ a ∧ a ≤ 800 * (ss.length : Int) ∧ k + ss.length ≤ 3 ∧ 1 ≤ k + ss.length ∧ Hid (FldSt wr X 2 (X + 1) 147 3 SurgeD.enc vs ss) ∧ Hid (SurgesIs a ss) ∧ Hid (wr.cell? ⟨X, 0, none⟩ = some (.int .i64 m0) ∧ wr.cell? ⟨X, 1, none⟩ = some (.slice A1 ps.length c1)) ∧ Hid (OwnB wr W0.heap.size X 155 3 PartD.enc (.slice A1 ps.length c1) ps) ∧ Hid (Cur wr B g v bs) ∧ Hid (CurW g W0 wr)) (fun _ s _ => (intOf s).toNat)
  case atStart => exact ⟨n + 1, 0, _, [], by first | rfl | go_num, rfl, by omega, by simp, by simp <;> omega, by omega, ST3, HSU, HM3, HOP3, HC3, HW3⟩
  case round =>
    clear ST3 HM3 HC3 HW3 HOP3 HSU
    obtain ⟨k, a, vs, ss, rfl, rfl, ha0, ha1, hk, hk2, ST, HSU, HM, HOP, HCC, HW⟩ := hrel
    obtain ⟨wo, rfl⟩ : ∃ wo : World, wo = wr := ⟨_, rfl⟩
    obtain ⟨A3, c3, rfl, -, -, -⟩ := Own.rd SurgeD.enc_len ST.out.ow
    have hXo := ST.out.hx
    rcases Nat.eq_zero_or_pos k with h0 | h0
    · subst h0
      have hbr := HW.out.block w.heap.size hl0 (fun e => by have := Option.some.inj e; omega)
      have r0 := (World.cell?_of_block (a := ⟨w.heap.size, 0, none⟩) hbr).trans Z.out.1.1
      have r1 := (World.cell?_of_block (a := ⟨w.heap.size, 1, none⟩) hbr).trans Z.out.1.2.1
      have r2 := (World.cell?_of_block (a := ⟨w.heap.size, 2, none⟩) hbr).trans Z.out.1.2.2
      have t0 := (World.frozen?_of_block (a := ⟨w.heap.size, 0, none⟩) hbr).trans Z.out.2.1
      have t1 := (World.frozen?_of_block (a := ⟨w.heap.size, 1, none⟩) hbr).trans Z.out.2.2.1
      have t2 := (World.frozen?_of_block (a := ⟨w.heap.size, 2, none⟩) hbr).trans Z.out.2.2.2
      have y0 := HM.out.1; have y1 := HM.out.2; have y2 := ST.out.c
      have hwx : w.heap.size < wo.heap.size := by omega
      have HWF := hide (show CurW g w wo from (CurW.ofBelow hb0).trans HW.out)
      clear hbr
      go_wp2
      refine bodyPost_ret (v := .agg #[.int .i64 m0, .slice A1 ps.length c1, .slice A3 ss.length c3]) (by simp [results, Try.results101, go_sem, r0, r1, r2]) rfl ⟨m0, a, _, _, ps, ss, rfl, HM0.out, HPL.out, HPS.out, ⟨by omega, by omega⟩, by omega, HSU.out, ?_, ?_, ?_, ?_⟩
      · refine Own.mono (base := W0.heap.size) ?_ (by omega)
        refine Own.setFar (Own.setFar (Own.setFar HOP.out.1 ?_ _) ?_ _) ?_ _
        all_goals (intro e; have := (World.ownsRow.lt HOP.out.1 _ e).1; simp at this; omega)
      · refine Own.mono (base := X + 1) ?_ (by omega)
        refine Own.setFar (Own.setFar (Own.setFar ST.out.ow ?_ _) ?_ _) ?_ _
        all_goals (intro e; have := (World.ownsRow.lt ST.out.ow _ e).1; simp at this; omega)
      · exact HCC.out.keep (show Below w.heap.size wo _ from (by repeat (first | exact Below.refl _ _ | assumption | refine Below.setCell ?_ (by first | omega | (simp <;> omega)) _ | refine Below.alloc ?_ (by first | omega | (simp <;> omega)) _ | refine below_drewN ?_ _ | refine Below.drew ?_ | refine Below.trans ?_ (Below.mono (by assumption) (by first | omega | (simp <;> omega)))))) hg
      · exact HWF.out.fresh (show Below w.heap.size wo _ from (by repeat (first | exact Below.refl _ _ | assumption | refine Below.setCell ?_ (by first | omega | (simp <;> omega)) _ | refine Below.alloc ?_ (by first | omega | (simp <;> omega)) _ | refine below_drewN ?_ _ | refine Below.drew ?_ | refine Below.trans ?_ (Below.mono (by assumption) (by first | omega | (simp <;> omega))))))
    · obtain ⟨j, rfl⟩ : ∃ j, k = j + 1 := ⟨k - 1, by omega⟩
      have hkp : (0 : Int) < ((j + 1 : Nat) : Int) := by omega
      have hje : ((j + 1 : Nat) : Int) - 1 = (j : Int) := by omega
      have hjw : IntKind.i64.wrap (((j + 1 : Nat) : Int) - 1) = (j : Int) := by rw [IntWalk.i64_in _ (by omega)]; omega
      have hjw2 : IntKind.i64.wrap (j : Int) = (j : Int) := IntWalk.i64_in _ (by omega)
      have hjw3 : IntKind.i64.wrap ((j : Int) + 1 - 1) = (j : Int) := by rw [IntWalk.i64_in _ (by omega)]; omega
      obtain ⟨i0, hi, hz0, hz1, hz2⟩ := info_parts surge_info
      have HKL := hide (show ss.length ≤ 2 by omega)
      go_wp2_with fail
      refine (l01Below_any B g v bs 60 _ HCC.out (by omega)).mono ?_
      rintro e w5 ⟨lo0, rfl, lo00, -, -, lo01, hc5, hw5⟩
      replace lo01 := lo01 (by omega)
      obtain ⟨lo, hlo⟩ : ∃ x, IntKind.i64.wrap (lo0 - 40) = x := ⟨_, rfl⟩
      have hlor : -40 ≤ lo ∧ lo ≤ 19 := by rw [← hlo, IntWalk.i64_in _ (by omega)]; omega
      have hlo2 : lo0 - 40 = lo := by rw [← hlo, IntWalk.i64_in _ (by omega)]
      have hbk := hw5.block X hXo (fun e => by have := Option.some.inj e; omega)
      have HM5 := hide (And.intro ((World.cell?_of_block (a := ⟨X, 0, none⟩) hbk).trans HM.out.1) ((World.cell?_of_block (a := ⟨X, 1, none⟩) hbk).trans HM.out.2))
      have ST5 := hide (ST.out.curw hw5 hgX)
      have HC5 := hide hc5
      have HW5 := hide (HW.out.trans hw5)
      have HOP5 := hide (HOP.out.curwF hw5 hgW0)
      have hX5 := ST5.out.hx
      obtain ⟨l0, l1⟩ := hlor
      clear hc5 hw5 hbk ST HM HCC HW HOP hXo
      go_wp2_with fail
      try rw [hlo2]
      refine wp_region_until 12 (fun w' => w'.cell? ⟨X, 2, none⟩ = some (.slice A3 ss.length c3)) (by kernel_rfl) ?_
      have hS : w5.drew.cell? ⟨X, 2, none⟩ = some (.slice A3 ss.length c3) := ST5.out.c
      refine untilR.takeD (i := 0) (v := ?_) rfl (by kernel_rfl) (by kernel_rfl) (by kernel_rfl) (by kernel_rfl) (fun _ _ _ h => h) (.inl ⟨by rfl, ?_⟩) hS ?_
      rotate_left
      · (intro w' hSw; go_simp; first | done | with_reducible rfl)
      try simp only [Act.put, List.setIfInBounds_toArray, List.set_cons_zero, List.set_cons_succ]
      refine untilR.takeD (i := 1) (v := ?_) rfl (by kernel_rfl) (by kernel_rfl) (by kernel_rfl) (by kernel_rfl) (fun _ _ _ h => h) (.inl ⟨by rfl, ?_⟩) hS ?_
      rotate_left
      · (intro w' hSw; go_simp; first | done | with_reducible rfl)
      try simp only [Act.put, List.setIfInBounds_toArray, List.set_cons_zero, List.set_cons_succ]
      refine untilR.takeD (i := 2) (v := ?_) rfl (by kernel_rfl) (by kernel_rfl) (by kernel_rfl) (by kernel_rfl) (fun _ _ _ h => h) (.inl ⟨by rfl, ?_⟩) hS ?_
      rotate_left
      · (intro w' hSw; go_simp; first | done | with_reducible rfl)
      try simp only [Act.put, List.setIfInBounds_toArray, List.set_cons_zero, List.set_cons_succ]
      refine untilR.takeD (i := 3) (v := ?_) rfl (by kernel_rfl) (by kernel_rfl) (by kernel_rfl) (by kernel_rfl) (fun _ _ _ h => h) (.inl ⟨by rfl, ?_⟩) hS ?_
      rotate_left
      · (intro w' hSw; go_simp; first | done | with_reducible rfl)
      try simp only [Act.put, List.setIfInBounds_toArray, List.set_cons_zero, List.set_cons_succ]
      refine untilR.takeD (i := 4) (v := ?_) rfl (by kernel_rfl) (by kernel_rfl) (by kernel_rfl) (by kernel_rfl) (fun _ _ _ h => h) (.inl ⟨by rfl, ?_⟩) hS ?_
      rotate_left
      · (intro w' hSw; go_simp; first | done | with_reducible rfl)
      try simp only [Act.put, List.setIfInBounds_toArray, List.set_cons_zero, List.set_cons_succ]
      refine untilR.takeD (i := 5) (v := ?_) rfl (by kernel_rfl) (by kernel_rfl) (by kernel_rfl) (by kernel_rfl) (fun _ _ _ h => h) (.inl ⟨by rfl, ?_⟩) hS ?_
      rotate_left
      · (intro w' hSw; go_simp; first | done | with_reducible rfl)
      try simp only [Act.put, List.setIfInBounds_toArray, List.set_cons_zero, List.set_cons_succ]
      refine untilR.oneD (i := 6) (by kernel_rfl) rfl rfl (fun K hK => ?_)
      refine wp_call (f := 98) (args := #[.pointer (some ⟨g, 0, none⟩), .int .i64 60]) (by first | (go_simp; done) | (go_simp; exact ⟨rfl, rfl⟩)) (l01Below_v B g v bs 60 _ (HC5.out.keep (Below.drew (Below.refl _ _)) HC5.out.lt) (by omega) (by omega)) ?_
      rintro _ w8 ⟨x, rfl, x0, x1, hc8, hw8⟩
      obtain ⟨hi0, hhi⟩ : ∃ y, IntKind.i64.wrap (lo + x) = y := ⟨_, rfl⟩
      have HHI := hide (show lo ≤ hi0 ∧ hi0 ≤ 78 by rw [← hhi, IntWalk.i64_in _ (by omega)]; omega)
      have ST8 := hide ((ST5.out.below (Below.drew (Below.refl _ _))).curw hw8 hgX)
      have HC8 := hide hc8
      have hw8' : CurW g w5 w8 := (CurW.ofBelow (Below.drew (Below.refl _ _))).trans hw8
      have HW8 := hide (HW5.out.trans hw8')
      have hbk := hw8'.block X hX5 (fun e => by have := Option.some.inj e; omega)
      have HM8 := hide (And.intro ((World.cell?_of_block (a := ⟨X, 0, none⟩) hbk).trans HM5.out.1) ((World.cell?_of_block (a := ⟨X, 1, none⟩) hbk).trans HM5.out.2))
      have HOP8 := hide (HOP5.out.curwF hw8' hgW0)
      refine hK.out _ _ (fun _ => ST8.out.c) ?_
      clear hK K hS hc8 hw8 hw8' hbk
      try simp only [Act.put, List.setIfInBounds_toArray, List.set_cons_zero, List.set_cons_succ]
      have hS := ST8.out.c
      refine untilR.takeD (i := 7) (v := ?_) rfl (by kernel_rfl) (by kernel_rfl) (by kernel_rfl) (by kernel_rfl) (fun _ _ _ h => h) (.inl ⟨by rfl, ?_⟩) hS ?_
      rotate_left
      · (intro w' hSw; go_simp; first | done | with_reducible rfl)
      try simp only [Act.put, List.setIfInBounds_toArray, List.set_cons_zero, List.set_cons_succ]
      refine untilR.takeD (i := 8) (v := ?_) rfl (by kernel_rfl) (by kernel_rfl) (by kernel_rfl) (by kernel_rfl) (fun _ _ _ h => h) (.inl ⟨by rfl, ?_⟩) hS ?_
      rotate_left
      · (intro w' hSw; go_simp; first | done | with_reducible rfl)
      try simp only [Act.put, List.setIfInBounds_toArray, List.set_cons_zero, List.set_cons_succ]
      refine untilR.oneD (i := 9) (by kernel_rfl) rfl rfl (fun K hK => ?_)
      go_simp
      have STA := hide (fun o => ST8.out.below ((Below.refl _ _).alloc (Nat.le_refl _) o))
      refine hK.out _ _ (fun _ => (STA.out _).c) ?_
      clear hK K hS
      try simp only [Act.put, List.setIfInBounds_toArray, List.set_cons_zero, List.set_cons_succ]
      have hs8 := ST8.out.hl
      refine untilR.oneD (i := 10) (by kernel_rfl) rfl rfl (fun K hK => ?_)
      refine wp_append_rd _ SurgeD.enc_len SurgeD.enc_one _ _ 54 (by rfl) (X + 1) 147 i0 (.agg #[.int .i64 0, .int .i64 0, .int .i64 0]) 24 Try.underlying54 hi hz0 hz1 hz2 rfl (by decide) (.slice A3 ss.length c3) ss (by rfl) (STA.out _).ow _ (.slice (some ⟨w8.heap.size, 0, none⟩) 1 1) [(⟨a, lo, hi0⟩ : SurgeD)] (by rfl) (rd_new (enc := SurgeD.enc) w8 (⟨a, lo, hi0⟩ : SurgeD) 147) (by have := HKL.out; unfold maxLen; simp; omega) (by have := HKL.out; simp; omega) (by simp; omega) ?_
      intro v9 w9 hown9 hgrow9 hblk9
      obtain ⟨l9, hl9⟩ : ∃ l, ss ++ [(⟨a, lo, hi0⟩ : SurgeD)] = l := ⟨_, rfl⟩
      have hlen9 : l9.length = ss.length + 1 := by rw [← hl9]; simp
      rw [hl9] at hown9
      obtain ⟨A9, c9, rfl, -, -, -⟩ := Own.rd SurgeD.enc_len hown9
      have hadd := (STA.out (.cells #[.int .i64 a, .int .i64 lo, .int .i64 hi0] 147)).add hgrow9 hown9
      have HAD := hide hadd
      have hy9 := cellKeep hadd.1 (STA.out (.cells #[.int .i64 a, .int .i64 lo, .int .i64 hi0] 147)).c (show X < X + 1 by omega)
      have hr9 := frozenKeep hadd.1 (STA.out (.cells #[.int .i64 a, .int .i64 lo, .int .i64 hi0] 147)).f (show X < X + 1 by omega)
      have HB9 := hide (show Below (X + 1) w8 w9 from ((Below.refl _ _).alloc hs8 _).trans hadd.1)
      have HLN := hide hlen9; have HL9 := hide hl9
      clear hown9 hgrow9 hblk9 hadd hl9 hlen9
      refine hK.out _ _ (fun _ => hy9) ?_
      clear hK K
      try simp only [Act.put, List.setIfInBounds_toArray, List.set_cons_zero, List.set_cons_succ]
      have hS := hy9
      refine untilR.takeD (i := 11) (v := ?_) rfl (by kernel_rfl) (by kernel_rfl) (by kernel_rfl) (by kernel_rfl) (fun _ _ _ h => h) (.inl ⟨by rfl, ?_⟩) hS ?_
      rotate_left
      · (intro w' hSw; go_simp; first | done | with_reducible rfl)
      try simp only [Act.put, List.setIfInBounds_toArray, List.set_cons_zero, List.set_cons_succ]
      refine untilR.oneD (i := 12) (by kernel_rfl) rfl rfl (fun K hK => ?_)
      go_simp
      refine hK.out _ _ (fun h => absurd rfl h) ?_
      clear hK K
      try simp only [Act.put, List.setIfInBounds_toArray, List.set_cons_zero, List.set_cons_succ]
      refine untilR.done (by kernel_rfl) ?_ _
      have hgX1 : g < X + 1 := by omega
      have hWX : W0.heap.size ≤ X + 1 := by omega
      obtain ⟨W10, hW10⟩ : ∃ W, w9.setCell ⟨X, 2, none⟩ (.slice A9 l9.length c9) = W := ⟨_, rfl⟩
      have ST10 := hide (show FldSt W10 X 2 (X + 1) 147 3 SurgeD.enc (.slice A9 l9.length c9) l9 by rw [← hW10]; exact HAD.out.2)
      have HM10 := hide (show W10.cell? ⟨X, 0, none⟩ = some (.int .i64 m0) ∧ W10.cell? ⟨X, 1, none⟩ = some (.slice A1 ps.length c1) by
        rw [← hW10]
        have q0 := cellKeep HB9.out HM8.out.1 (show X < X + 1 by omega); have q1 := cellKeep HB9.out HM8.out.2 (show X < X + 1 by omega)
        exact ⟨by simp [go_sem, q0], by simp [go_sem, q1]⟩)
      have HOP10 := hide (show OwnB W10 W0.heap.size X 155 3 PartD.enc (.slice A1 ps.length c1) ps by rw [← hW10]; exact (HOP8.out.below HB9.out (Nat.le_succ X)).setF _)
      have HC10 := hide (show Cur W10 B g v bs by rw [← hW10]; exact (HC8.out.keep HB9.out hgX1).keep ((Below.refl X _).setCell (by simp) _) hgX)
      have HW10 := hide (show CurW g W0 W10 by rw [← hW10]; exact (HW8.out.fresh (HB9.out.mono hWX)).store (by omega) _)
      rw [hW10]
      clear hW10 hy9 hr9 hS STA HAD HB9 HM8 HOP8 HC8 HW8 ST8 hs8
      have ha100 : IntKind.i64.wrap (a + 100) = a + 100 := IntWalk.i64_in _ (by have := HKL.out; omega)
      go_wp2_with fail
      refine (l01Below_any B g v bs 700 _ HC10.out (by omega)).mono ?_
      rintro e w11 ⟨xa, rfl, xa0, -, -, xa1, hc11, hw11⟩
      replace xa1 := xa1 (by omega)
      have hX10 := ST10.out.hx
      have hbk := hw11.block X hX10 (fun e => by have := Option.some.inj e; omega)
      have HM11 := hide (And.intro ((World.cell?_of_block (a := ⟨X, 0, none⟩) hbk).trans HM10.out.1) ((World.cell?_of_block (a := ⟨X, 1, none⟩) hbk).trans HM10.out.2))
      have ST11 := hide (ST10.out.curw hw11 hgX)
      have HC11 := hide hc11
      have HW11 := hide (HW10.out.trans hw11)
      have HOP11 := hide (HOP10.out.curwF hw11 hgW0)
      have haw : IntKind.i64.wrap (a + 100 + xa) = a + 100 + xa := IntWalk.i64_in _ (by have := HKL.out; omega)
      clear hc11 hw11 hbk
      go_wp2
      go_roundw
      case rel => exact ⟨j, a + 100 + xa, _, l9, by first | rfl | go_num, rfl, by omega, by have := HLN.out; omega, by have := HLN.out; omega, by have := HLN.out; omega, ST11, hide (by rw [← HL9.out]; exact HSU.out.snoc ha0 (by omega) l0 l1 HHI.out.1 HHI.out.2), HM11, HOP11, HC11, HW11⟩
      case measure => simp [intOf] <;> omega
end Go.Proofs.Ytjfppjhlkeopnaa
