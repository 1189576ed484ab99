/- A tide and a forecast drawn out of bytes. No condition. -/
import Derived.Test.YtjfppjhlkeopnaaFcDraw
namespace Go.Proofs.Ytjfppjhlkeopnaa
open Go.RowKit
set_option linter.unusedVariables false
theorem PartD.enc_one (x : PartD) : ∀ u ∈ x.enc, u.oneCell' = true := by
  intro u hu
  simp only [PartD.enc, List.mem_cons, List.not_mem_nil, or_false] at hu
  rcases hu with rfl | rfl | rfl <;> rfl
theorem SurgeD.enc_one (x : SurgeD) : ∀ u ∈ x.enc, u.oneCell' = true := by
  intro u hu
  simp only [SurgeD.enc, List.mem_cons, List.not_mem_nil, or_false] at hu
  rcases hu with rfl | rfl | rfl <;> rfl
def TideRes (B g : Nat) (v : Value) (bs : List Int) (w : World) (e : Ending) (w' : World) : Prop := ∃ (m0 : Int) (vp : Value) (ps : List PartD), e = .returned (.agg #[.int .i64 m0, vp]) ∧ (0 ≤ m0 ∧ m0 < 300) ∧ (1 ≤ ps.length ∧ ps.length ≤ 2) ∧ (∀ x ∈ ps, PartIs x) ∧ Own w' w.heap.size 155 3 PartD.enc vp ps ∧ Cur w' B g v bs ∧ CurW g w w'
/-- surges that follow each other -/
def SurgesIs (at_ : Int) (ss : List SurgeD) : Prop := (∀ i (h : i < ss.length), 0 ≤ ss[i].start ∧ ss[i].start + 100 ≤ at_ ∧ -40 ≤ ss[i].low ∧ ss[i].low ≤ 19 ∧ ss[i].low ≤ ss[i].high ∧ ss[i].high ≤ 78) ∧ (∀ i (h : i + 1 < ss.length), ss[i].start < ss[i + 1].start) ∧ (∀ h : 0 < ss.length, ss[0].start = 0) ∧ (ss.length = 0 → at_ = 0)
theorem SurgesIs.snoc {a b lo hi : Int} {ss : List SurgeD} (h : SurgesIs a ss) (h0 : 0 ≤ a) (hb : a + 100 ≤ b) (l0 : -40 ≤ lo) (l1 : lo ≤ 19) (l2 : lo ≤ hi) (l3 : hi ≤ 78) : SurgesIs b (ss ++ [⟨a, lo, hi⟩]) := by
  obtain ⟨h1, h2, h3, h4⟩ := h
  refine ⟨fun i hi' => ?_, fun i hi' => ?_, fun hp => ?_, fun he => by simp at he⟩
  · rcases Nat.lt_or_ge i ss.length with hl | hl
    · rw [List.getElem_append_left hl]; have := h1 i hl; omega
    · obtain rfl : i = ss.length := by simp at hi'; omega
      simp only [List.getElem_append_right (Nat.le_refl _), Nat.sub_self, List.getElem_cons_zero]; omega
  · rcases Nat.lt_or_ge (i + 1) ss.length with hl | hl
    · rw [List.getElem_append_left hl, List.getElem_append_left (by omega)]; exact h2 i hl
    · have e : i + 1 = ss.length := by simp at hi'; omega
      rw [List.getElem_append_left (by omega)]
      simp only [e, List.getElem_append_right (Nat.le_refl _), Nat.sub_self, List.getElem_cons_zero]
      have := h1 i (by omega); omega
  · rcases Nat.eq_zero_or_pos ss.length with hl | hl
    · obtain rfl := List.eq_nil_of_length_eq_zero hl
      simp only [List.nil_append, List.getElem_cons_zero]; exact h4 rfl
    · rw [List.getElem_append_left hl]; exact h3 hl
set_option maxRecDepth 100000 in
set_option maxHeartbeats 16000000 in
theorem l02Draw_any (B g : Nat) (v : Value) (bs : List Int) (w : World) (h : Cur w B g v bs) :
    Calls Try.prog 106 #[.pointer (some ⟨g, 0, none⟩)] w (TideRes B g v bs w) := by
  have hg := h.lt
  have HC := hide h; clear h
  go_enter Try.func106, Try.ntmps106
  go_wp2_with fail
  generalize hW0 : w.alloc (.cells #[.int .i64 0, .slice none 0 0] 53) = W0
  have hb0 : Below w.heap.size w W0 := by rw [← hW0]; exact (Below.refl _ _).alloc (Nat.le_refl _) _
  have hl0 : w.heap.size < W0.heap.size := by rw [← hW0]; simp
  have Z := hide (show (W0.cell? ⟨w.heap.size, 0, none⟩ = some (.int .i64 0) ∧ W0.cell? ⟨w.heap.size, 1, none⟩ = some (.slice none 0 0)) ∧ W0.frozen? ⟨w.heap.size, 0, none⟩ = false ∧ W0.frozen? ⟨w.heap.size, 1, none⟩ = false by rw [← hW0]; exact ⟨⟨by simp [go_sem], by simp [go_sem]⟩, by simp [go_sem], by simp [go_sem]⟩)
  clear hW0
  refine (l01Below_any B g v bs 300 _ (HC.out.keep hb0 hg) (by omega)).mono ?_
  rintro e w1 ⟨m0, rfl, m00, -, -, m01, hc1, hw1⟩
  replace m01 := m01 (by omega)
  have HC1 := hide hc1; have HW1 := hide hw1; have s1 := hw1.size; clear hc1 hw1
  go_wp2_with fail
  obtain ⟨W2, hW2⟩ : ∃ W, w1.alloc (.cells #[.int .i64 m0, .slice none 0 0] 53) = W := ⟨_, rfl⟩
  have hb2 : Below w1.heap.size w1 W2 := by rw [← hW2]; exact (Below.refl _ _).alloc (Nat.le_refl _) _
  have hs2 : W2.heap.size = w1.heap.size + 1 := by rw [← hW2]; simp
  have m2 : W2.cell? ⟨w1.heap.size, 0, none⟩ = some (.int .i64 m0) := by rw [← hW2]; simp [go_sem]
  have st2 : FldSt W2 w1.heap.size 1 (w1.heap.size + 1) 155 3 PartD.enc (.slice none 0 0) [] := ⟨by rw [← hW2]; simp [go_sem], by rw [← hW2]; simp [go_sem], by omega, by omega, Own.nil_⟩
  rw [hW2]
  clear hW2
  have HC2 := hide (HC1.out.keep hb2 HC1.out.lt)
  have HW2 := hide (HW1.out.fresh (hb2.mono s1))
  have hgX : g < w1.heap.size := HC1.out.lt
  obtain ⟨X, hX⟩ : ∃ X, w1.heap.size = X := ⟨_, rfl⟩
  rw [hX] at hs2 m2 st2 hgX s1 ⊢
  have hs2' : X < W2.heap.size := by omega
  clear hs2 hb2 HC1 HW1
  refine (l01Below_any B g v bs 2 _ HC2.out (by omega)).mono ?_
  rintro e w3 ⟨n0, rfl, n00, -, -, n01, hc3, hw3⟩
  replace n01 := n01 (by omega)
  obtain ⟨n, rfl⟩ : ∃ n : Nat, n0 = n := ⟨n0.toNat, by omega⟩
  have hn1 : IntKind.i64.wrap (1 + (n : Int)) = 1 + (n : Int) := IntWalk.i64_in _ (by omega)
  have hbk := hw3.block X hs2' (fun e => by have := Option.some.inj e; omega)
  have HM3 := hide ((World.cell?_of_block (a := ⟨X, 0, none⟩) hbk).trans m2)
  have ST3 := hide (st2.curw hw3 hgX)
  have HC3 := hide hc3
  have HW3 := hide (HW2.out.trans hw3)
  clear hc3 hw3 hbk m2 st2 HC2 HW2
  go_wp2_with fail
  go_loopw [4] (fun s wr => ∃ (k : Nat) (vp : Value) (ps : List PartD), s = .int .i64 k ∧ k + ps.length ≤ 2 ∧ 1 ≤ k + ps.length ∧ Hid (FldSt wr X 1 (X + 1) 155 3 PartD.enc vp ps) ∧ Hid (∀ x ∈ ps, PartIs x) ∧ Hid (wr.cell? ⟨X, 0, none⟩ = some (.int .i64 m0)) ∧ Hid (Cur wr B g v bs) ∧ Hid (CurW g W0 wr)) (fun s _ => (intOf s).toNat)
  case atStart => exact ⟨n + 1, _, [], by first | rfl | go_num, by simp <;> omega, by omega, ST3, hide (by simp), HM3, HC3, HW3⟩
  case round =>
    clear ST3 HM3 HC3 HW3
    obtain ⟨k, vp, ps, rfl, hk, hk2, ST, HP, HM, HCC, HW⟩ := hrel
    obtain ⟨wo, rfl⟩ : ∃ wo : World, wo = wr := ⟨_, rfl⟩
    obtain ⟨A3, c3, rfl, -, -, -⟩ := Own.rd PartD.enc_len ST.out.ow
    have hXo := ST.out.hx
    rcases Nat.eq_zero_or_pos k with h0 | h0
    · subst h0
      have hbr := HW.out.block w.heap.size hl0 (fun e => by have := Option.some.inj e; omega)
      have r0 := (World.cell?_of_block (a := ⟨w.heap.size, 0, none⟩) hbr).trans Z.out.1.1
      have r1 := (World.cell?_of_block (a := ⟨w.heap.size, 1, none⟩) hbr).trans Z.out.1.2
      have t0 := (World.frozen?_of_block (a := ⟨w.heap.size, 0, none⟩) hbr).trans Z.out.2.1
      have t1 := (World.frozen?_of_block (a := ⟨w.heap.size, 1, none⟩) hbr).trans Z.out.2.2
      have y0 := HM.out; have y1 := ST.out.c
      have hwx : w.heap.size < wo.heap.size := by omega
      have HWF := hide (show CurW g w wo from (CurW.ofBelow hb0).trans HW.out)
      clear hbr
      go_wp2
      refine bodyPost_ret (v := .agg #[.int .i64 m0, .slice A3 ps.length c3]) (by simp [results, Try.results106, go_sem, r0, r1]) rfl ⟨m0, _, ps, rfl, ⟨m00, m01⟩, ⟨by omega, by omega⟩, HP.out, ?_, ?_, ?_⟩
      · refine Own.mono (base := X + 1) ?_ (by omega)
        refine Own.setFar (Own.setFar ST.out.ow ?_ _) ?_ _
        all_goals (intro e; have := (World.ownsRow.lt ST.out.ow _ e).1; simp at this; omega)
      · exact HCC.out.keep (show Below w.heap.size wo _ from (by repeat (first | exact Below.refl _ _ | assumption | refine Below.setCell ?_ (by first | omega | (simp <;> omega)) _ | refine Below.alloc ?_ (by first | omega | (simp <;> omega)) _ | refine below_drewN ?_ _ | refine Below.drew ?_ | refine Below.trans ?_ (Below.mono (by assumption) (by first | omega | (simp <;> omega)))))) hg
      · exact HWF.out.fresh (show Below w.heap.size wo _ from (by repeat (first | exact Below.refl _ _ | assumption | refine Below.setCell ?_ (by first | omega | (simp <;> omega)) _ | refine Below.alloc ?_ (by first | omega | (simp <;> omega)) _ | refine below_drewN ?_ _ | refine Below.drew ?_ | refine Below.trans ?_ (Below.mono (by assumption) (by first | omega | (simp <;> omega))))))
    · obtain ⟨j, rfl⟩ : ∃ j, k = j + 1 := ⟨k - 1, by omega⟩
      have hkp : (0 : Int) < ((j + 1 : Nat) : Int) := by omega
      have hje : ((j + 1 : Nat) : Int) - 1 = (j : Int) := by omega
      have hjw : IntKind.i64.wrap (((j + 1 : Nat) : Int) - 1) = (j : Int) := by rw [IntWalk.i64_in _ (by omega)]; omega
      have hjw2 : IntKind.i64.wrap (j : Int) = (j : Int) := IntWalk.i64_in _ (by omega)
      have hjw3 : IntKind.i64.wrap ((j : Int) + 1 - 1) = (j : Int) := by rw [IntWalk.i64_in _ (by omega)]; omega
      obtain ⟨i0, hi, hz0, hz1, hz2⟩ := info_parts part_info
      have HKL := hide (show ps.length ≤ 1 by omega)
      go_wp2_with fail
      have keepS : ∀ w', FldSt w' X 1 (X + 1) 155 3 PartD.enc (.slice A3 ps.length c3) ps → w'.cell? ⟨X, 1, none⟩ = some (.slice A3 ps.length c3) := fun w' hh => hh.c
      refine wp_region_until 7 (fun w' => w'.cell? ⟨X, 1, none⟩ = some (.slice A3 ps.length c3)) (by kernel_rfl) ?_
      have hS : wo.drew.cell? ⟨X, 1, none⟩ = some (.slice A3 ps.length c3) := ST.out.c
      refine untilR.takeD (i := 0) (v := ?_) rfl (by kernel_rfl) (by kernel_rfl) (by kernel_rfl) (by kernel_rfl) (fun _ _ _ h => h) (.inl ⟨by rfl, ?_⟩) hS ?_
      rotate_left
      · (intro w' hSw; go_simp; first | done | with_reducible rfl)
      try simp only [Act.put, List.setIfInBounds_toArray, List.set_cons_zero, List.set_cons_succ]
      refine untilR.takeD (i := 1) (v := ?_) rfl (by kernel_rfl) (by kernel_rfl) (by kernel_rfl) (by kernel_rfl) (fun _ _ _ h => h) (.inl ⟨by rfl, ?_⟩) hS ?_
      rotate_left
      · (intro w' hSw; go_simp; first | done | with_reducible rfl)
      try simp only [Act.put, List.setIfInBounds_toArray, List.set_cons_zero, List.set_cons_succ]
      refine untilR.takeD (i := 2) (v := ?_) rfl (by kernel_rfl) (by kernel_rfl) (by kernel_rfl) (by kernel_rfl) (fun _ _ _ h => h) (.inl ⟨by rfl, ?_⟩) hS ?_
      rotate_left
      · (intro w' hSw; go_simp; first | done | with_reducible rfl)
      try simp only [Act.put, List.setIfInBounds_toArray, List.set_cons_zero, List.set_cons_succ]
      refine untilR.oneD (i := 3) (by kernel_rfl) rfl rfl (fun K hK => ?_)
      refine wp_call (f := 108) (args := #[.pointer (some ⟨g, 0, none⟩)]) (by first | (go_simp; done) | (go_simp; exact ⟨rfl, rfl⟩)) (l02Part_any B g v bs _ (HCC.out.keep (Below.drew (Below.refl _ _)) HCC.out.lt)) ?_
      rintro _ w8 ⟨x, rfl, hx, hc8, hw8⟩
      obtain ⟨x0, x1, x2⟩ := x
      have HX := hide hx
      have ST8 := hide ((ST.out.below (Below.drew (Below.refl _ _))).curw hw8 hgX)
      have HC8 := hide hc8
      have hw8' : CurW g wo w8 := (CurW.ofBelow (Below.drew (Below.refl _ _))).trans hw8
      have HW8 := hide (HW.out.trans hw8')
      have hbk := hw8'.block X hXo (fun e => by have := Option.some.inj e; omega)
      have HM8 := hide ((World.cell?_of_block (a := ⟨X, 0, none⟩) hbk).trans HM.out)
      refine hK.out _ _ (fun _ => ST8.out.c) ?_
      clear hK K hS hx hc8 hw8 hw8' hbk
      try simp only [Act.put, List.setIfInBounds_toArray, List.set_cons_zero, List.set_cons_succ]
      refine untilR.oneD (i := 4) (by kernel_rfl) rfl rfl (fun K hK => ?_)
      go_simp
      have STA := hide (fun o => ST8.out.below ((Below.refl _ _).alloc (Nat.le_refl _) o))
      refine hK.out _ _ (fun _ => (STA.out _).c) ?_
      clear hK K
      try simp only [Act.put, List.setIfInBounds_toArray, List.set_cons_zero, List.set_cons_succ]
      have hs8 := ST8.out.hl
      refine untilR.oneD (i := 5) (by kernel_rfl) rfl rfl (fun K hK => ?_)
      refine wp_append_rd _ PartD.enc_len PartD.enc_one _ _ 51 (by rfl) (X + 1) 155 i0 (.agg #[.int .i64 0, .int .i64 0, .int .i64 0]) 24 Try.underlying51 hi hz0 hz1 hz2 rfl (by decide) (.slice A3 ps.length c3) ps (by rfl) (STA.out _).ow _ (.slice (some ⟨w8.heap.size, 0, none⟩) 1 1) [(⟨x0, x1, x2⟩ : PartD)] (by rfl) (rd_new (enc := PartD.enc) w8 (⟨x0, x1, x2⟩ : PartD) 155) (by have := HKL.out; unfold maxLen; simp; omega) (by have := HKL.out; simp; omega) (by simp; omega) ?_
      intro v9 w9 hown9 hgrow9 hblk9
      obtain ⟨l9, hl9⟩ : ∃ l, ps ++ [(⟨x0, x1, x2⟩ : PartD)] = l := ⟨_, rfl⟩
      have hlen9 : l9.length = ps.length + 1 := by rw [← hl9]; simp
      have hmem9 : ∀ y ∈ l9, PartIs y := by rw [← hl9]; intro y hy; rcases List.mem_append.1 hy with hy | hy; exact HP.out y hy; (simp at hy; subst hy; exact HX.out)
      rw [hl9] at hown9
      obtain ⟨A9, c9, rfl, -, -, -⟩ := Own.rd PartD.enc_len hown9
      have hadd := (STA.out (.cells #[.int .i64 x0, .int .i64 x1, .int .i64 x2] 155)).add hgrow9 hown9
      have HAD := hide hadd
      have hy9 := cellKeep hadd.1 (STA.out (.cells #[.int .i64 x0, .int .i64 x1, .int .i64 x2] 155)).c (show X < X + 1 by omega)
      have hr9 := frozenKeep hadd.1 (STA.out (.cells #[.int .i64 x0, .int .i64 x1, .int .i64 x2] 155)).f (show X < X + 1 by omega)
      have HB9 := hide (show Below (X + 1) w8 w9 from ((Below.refl _ _).alloc hs8 _).trans hadd.1)
      have HLN := hide hlen9; have HME := hide hmem9
      clear hown9 hgrow9 hblk9 hadd hl9 hlen9 hmem9
      refine hK.out _ _ (fun _ => hy9) ?_
      clear hK K
      try simp only [Act.put, List.setIfInBounds_toArray, List.set_cons_zero, List.set_cons_succ]
      have hS := hy9
      refine untilR.takeD (i := 6) (v := ?_) rfl (by kernel_rfl) (by kernel_rfl) (by kernel_rfl) (by kernel_rfl) (fun _ _ _ h => h) (.inl ⟨by rfl, ?_⟩) hS ?_
      rotate_left
      · (intro w' hSw; go_simp; first | done | with_reducible rfl)
      try simp only [Act.put, List.setIfInBounds_toArray, List.set_cons_zero, List.set_cons_succ]
      refine untilR.oneD (i := 7) (by kernel_rfl) rfl rfl (fun K hK => ?_)
      go_simp
      refine hK.out _ _ (fun h => absurd rfl h) ?_
      clear hK K
      try simp only [Act.put, List.setIfInBounds_toArray, List.set_cons_zero, List.set_cons_succ]
      refine untilR.done (by kernel_rfl) ?_ _
      have hgX1 : g < X + 1 := by omega
      have hWX : W0.heap.size ≤ X + 1 := by omega
      go_wp2
      go_roundw
      case rel => exact ⟨j, _, l9, by first | rfl | go_num, by have := HLN.out; omega, by have := HLN.out; omega, hide HAD.out.2, HME, hide (by have := cellKeep HB9.out HM8.out (show X < X + 1 by omega); simp [go_sem, this]), hide ((HC8.out.keep HB9.out hgX1).keep ((Below.refl X _).setCell (by simp) _) hgX), hide ((HW8.out.fresh (HB9.out.mono hWX)).store (by omega) _)⟩
      case measure => simp [intOf] <;> omega
end Go.Proofs.Ytjfppjhlkeopnaa
