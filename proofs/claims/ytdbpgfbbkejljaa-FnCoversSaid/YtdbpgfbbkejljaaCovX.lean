/- The program's search for a cover: the walk. No condition. -/
import Derived.Test.YtdbpgfbbkejljaaCovM
import Derived.Deep.DeepCutAuto
import Derived.StillTailTactics
namespace Go.Proofs.Ytdbpgfbbkejljaa
open Go.RowKit
set_option linter.unusedVariables false
theorem rdU_slice {w : World} {B n : Nat} {v : Value} {u : Nat → Nat} (h : RdB w B 1 encU v (rowL n u)) : ∃ A c, v = .slice A n c ∧ n ≤ c ∧ c ≤ 9223372036854775807 ∧ (0 < n → ∃ b o, A = some ⟨b, o, none⟩ ∧ b < B ∧ ∀ i, i < n → w.cell? ⟨b, o + i, none⟩ = some (.int .u64 (u i : Nat))) := by
  obtain ⟨A, c, rfl, hc, hm, h⟩ := h
  unfold maxLen at hm
  rw [rowL_len] at hc
  simp only [rowL_len] at h ⊢
  refine ⟨A, c, rfl, hc, by omega, fun h0 => ?_⟩
  obtain ⟨b, o, rfl, hb, hcell⟩ := h h0
  refine ⟨b, o, rfl, hb, fun i hi => ?_⟩
  have := hcell i ((u i : Nat) : Int) (by rw [List.getElem?_eq_getElem (by rw [rowL_len]; exact hi), rowL_at _ _ hi]) 0 _ rfl
  simpa using this
set_option maxRecDepth 100000 in
set_option maxHeartbeats 32000000 in
theorem cover_any (p : Int) (ms : List Int) (xs : List DutyD) (X m : Nat) (vs : Value) (h12 : xs.length ≤ 12) (hm : m ≤ 12) : ∀ (d : Nat) (ws gs : List Nat) (vg vw : Value) (w : World), ws.length + d = xs.length → GInv (bothD p ms xs) m ws gs → CvSt w X vs vg vw m gs ws → RdB w X 1 encU vs (rowL xs.length (partBits p ms xs)) →
    Calls Try.prog 51 #[.pointer (some ⟨X, 0, none⟩)] w (CvRes (bothD p ms xs) xs.length X vs m gs ws w) := by
  intro d
  induction d with
  | zero =>
    intro ws gs vg vw w hd hgi hst hrd
    obtain ⟨A3, c3, rfl, hc3, -⟩ := own_slice encI_len hst.ow (N := xs.length) (by rw [ints_len]; omega)
    obtain ⟨A1, c1, rfl, -, -, -⟩ := rdU_slice hrd
    have y0 := hst.c0; have y3 := hst.c3; have hX := hst.hl
    have HST := hide hst; have HGI := hide hgi; have HD := hide hd
    clear hst hgi hrd hd
    go_enter Try.func51, Try.ntmps51
    go_wp2
    go_ret
    exact ⟨true, _, _, gs, ws, rfl, HST.out, Below.refl _ _, (fun _ => HGI.out.full (by have := HD.out; omega)), (fun h => by cases h)⟩
  | succ d ih =>
    intro ws gs vg vw w hd hgi hst hrd
    obtain ⟨i0, hi, hz0, hz1, hz2⟩ := info_parts int_info
    obtain ⟨j0, hj, hy0, hy1, hy2⟩ := info_parts uint_info
    obtain ⟨A1, c1, rfl, hc1, hc1m, h1⟩ := rdU_slice hrd
    have H1 := hide h1; clear h1
    obtain ⟨n, hn⟩ : ∃ n, xs.length = n := ⟨_, rfl⟩
    have hsl : partBits p ms xs ws.length < 4611686018427387904 := Nat.lt_of_lt_of_le (bitsOf_lt _ _) (Nat.le_trans (Nat.pow_le_pow_right (show 0 < 2 by omega) h12) (by decide))
    have HSB := hide (show ∀ k, k < ws.length → (partBits p ms xs ws.length).testBit k = bothD p ms xs ws.length k from fun k hk => by unfold partBits; rw [bitsOf_test]; unfold partB; simp [show k < xs.length by omega, show ws.length ≠ k by omega])
    rw [hn] at hc1 hd hst hrd ⊢
    simp only [hn] at ih H1
    obtain ⟨i, hi'⟩ : ∃ i, ws.length = i := ⟨_, rfl⟩
    obtain ⟨l, hl'⟩ : ∃ l, gs.length = l := ⟨_, rfl⟩
    have HIH := hide ih; have HGI := hide hgi; have HST := hide hst; have HRD := hide hrd; have HN := hide hn; have HI := hide hi'; have HL := hide hl'
    have hin : i < n := by omega
    have hdn : i + 1 + d = n := by omega
    have HDN := hide hdn
    have hn12 : n ≤ 12 := by omega
    have hlm : l ≤ m := by have := hgi.le; omega
    rw [hi'] at hsl HSB
    clear ih hgi hst hrd hn hi' hl' hd hdn h12
    obtain ⟨A3, c3, rfl, hc3, hc3m⟩ := own_slice encI_len HST.out.ow (N := i) (by rw [ints_len]; exact HI.out)
    obtain ⟨A2, c2, rfl, hc2, hc2m⟩ := own_slice encU_len HST.out.og (N := l) (by rw [ints_len]; exact HL.out)
    have y0 := HST.out.c0; have y1 := HST.out.c1; have y2 := HST.out.c2; have y3 := HST.out.c3; have hX := HST.out.hl
    have hin' : (i : Int) < n := by omega
    have hne : ((i : Int) == (n : Int)) = false := by rw [beq_eq_false_iff_ne]; omega
    unfold maxLen at hc3m hc2m
    go_enter Try.func51, Try.ntmps51
    go_wp2_with fail
    go_loopw [4] (fun s wr => ∃ (q : Nat) (vg vw : Value), s = .int .i64 q ∧ q ≤ l ∧ Hid (∀ r, r < q → r < m → ¬ ExtP (bothD p ms xs) n m (ws ++ [r])) ∧ Hid (CvSt wr X (.slice A1 n c1) vg vw m gs ws) ∧ Hid (Below X w wr)) (fun s _ => l + 1 - (intOf s).toNat)
    case atStart => exact ⟨0, _, _, rfl, Nat.zero_le _, hide (fun r h => by omega), HST, hide (Below.refl _ _)⟩
    case round =>
      clear HST y0 y1 y2 y3 hX hc3 hc2 hc3m hc2m
      obtain ⟨q, vg, vw, rfl, hq, HTR, HST, HB⟩ := hrel
      obtain ⟨wo, rfl⟩ : ∃ wo : World, wo = wr := ⟨_, rfl⟩
      obtain ⟨A3, c3, rfl, hc3, hc3m⟩ := own_slice encI_len HST.out.ow (N := i) (by rw [ints_len]; exact HI.out)
      unfold maxLen at hc3m
      have hX := HST.out.hl
      have hqle : (q : Int) ≤ l := by omega
      have hqw : IntKind.i64.wrap ((q : Int) + 1) = (q : Int) + 1 := IntWalk.i64_in _ (by omega)
      have hXw := HB.out.size
      obtain ⟨T2, hT2⟩ : ∃ T, 2 ^ i = T := ⟨_, rfl⟩
      have hT2b : T2 ≤ 4096 := by rw [← hT2]; exact Nat.le_trans (Nat.pow_le_pow_right (show 0 < 2 by omega) (show i ≤ 12 by omega)) (by decide)
      have HT2 := hide hT2
      have hsh : IntKind.u64.wrap ((2 : Int) ^ i) = (T2 : Int) := by rw [two_pow_cast, hT2]; exact wrap_u64 T2 (by omega)
      have hi12 : (i : Int) ≤ 11 := by omega
      have hi0 : (0 : Int) ≤ (i : Int) := by omega
      clear hT2
      obtain ⟨b1, o1, rfl, hb1, hcell1⟩ := H1.out (by omega)
      have HSC := hide (show ∀ w', Below X w w' → w'.cell? ⟨b1, o1 + i, none⟩ = some (.int .u64 (partBits p ms xs i : Nat)) from fun w' hB => (hB.cell (p := ⟨b1, _, none⟩) hb1).trans (hcell1 i hin))
      obtain ⟨S, hS⟩ : ∃ S, partBits p ms xs i = S := ⟨_, rfl⟩
      rw [hS] at HSC HSB hsl
      clear hS hcell1
      by_cases hqm : q < m
      · have hqm' : (q : Int) < m := by omega
        by_cases hold : q < l
        · have hqe : ((q : Int) == (l : Int)) = false := by rw [beq_eq_false_iff_ne]; omega
          have hqK : q < l := hold
          have hqK' : (q : Int) < l := by omega
          obtain ⟨g, hgv⟩ : ∃ g, (gsAt gs q)[q]'(gsAt_len (by rw [HL.out]; omega)) = g := ⟨_, rfl⟩
          have hglt := gsAt_lt HGI.out (by rw [HL.out]; omega) hgv
          rw [HI.out, HT2.out, HL.out] at hglt
          obtain ⟨hg1, hg2⟩ := hglt
          have HGK := hide (show (gs).length = l by exact HL.out)
          have HGA := hide (show gsAt gs q = gs by exact gsAt_old (by rw [HL.out]; exact hold))
          have HGD := hide (show (gs).getD q 0 = g by rw [← hgv, getD_get (show q < (gs).length by rw [HGK.out]; exact hqK)]; simp only [HGA.out])
          obtain ⟨c, hcv, hcle, hct⟩ := andNot_u64 g S (by omega) hsl
          have HFI := hide (HGI.out.fits (S := S) (c := c) (by rw [HL.out]; omega) hgv (fun k hk => by rw [HI.out] at hk; rw [HI.out]; exact HSB.out k hk) hct)
          obtain ⟨b2, cap2, rfl, hb20, hb21, hcp2, hcp2m⟩ := own_slot HST.out.og (N := l) (by rw [ints_len]; exact HL.out) (by omega)
          have hgz : ((g : Int) == 0) = false := by rw [beq_eq_false_iff_ne]; intro e; have := hg2.1 (by omega); omega
          have HG2 := hide hg2; clear hg2
          clear hX
          have y0 := HST.out.c0; have y1 := HST.out.c1; have y2 := HST.out.c2; have y3 := HST.out.c3; have r2 := HST.out.f2; have r3 := HST.out.f3; have hX := HST.out.hl
          have e0 := HSC.out wo HB.out
          have hb1w : b1 < wo.heap.size := by omega
          have hg := ownU_cell HST.out.og HGK.out hqK
          rw [HGD.out] at hg
          have g0 := hg.1; have g1 := hg.2
          clear hg
          by_cases hf : GoesW (bothD p ms xs) ws q
          · have hfit := hf
            clear hfit
            have hcz : ((c : Int) == 0) = true := by simp [HFI.out.2 hf]
            have HPUT := hide (show GInv (bothD p ms xs) m (ws ++ [q]) ((gs).set q (g ||| T2)) by have := HGI.out.put (by rw [HL.out]; omega) hqm hgv hf; rw [HGA.out, HI.out, HT2.out] at this; exact this)
            have hor : bits .or .u64 (g : Int) (T2 : Int) = ((g ||| T2 : Nat) : Int) := bits_or_u64 g T2 (by omega) (by omega)
            have hzl : g ||| T2 < 4611686018427387904 := or_lt62 (by omega) (by omega)
            have hback : bits .andNot .u64 ((g ||| T2 : Nat) : Int) (T2 : Int) = (g : Int) := by
              obtain ⟨c', h1, -, h2⟩ := andNot_u64 (g ||| T2) T2 hzl (by omega)
              rw [h1, put_take (g := g) (t := i) (c := c') (by rw [HT2.out]; exact hg1) (fun k => by rw [h2, HT2.out])]
            obtain ⟨Z, hZ⟩ : ∃ Z, g ||| T2 = Z := ⟨_, rfl⟩
            rw [hZ] at hor hback HPUT
            have HZD := hide (show ((gs).set q Z).getD q 0 = Z from getD_set Z (by rw [HGK.out]; exact hqK))
            have HSS := hide (show ((gs).set q Z).set q g = gs by rw [List.set_set]; exact set_back HGD.out (by rw [HGK.out]; exact hqK))
            clear hZ hzl hct hcle hgv hf
            go_wp2
            go_quiet (fail)
            go_upto_region 10 with fail
            have HSQ := hide (HST.out.below (below_drewN (Below.refl _ _) nq))
            have HBQ := hide (below_drewN HB.out nq)
            generalize World.drewN wo nq = Wq at HSQ HBQ ⊢
            clear y0 y1 y2 y3 r2 r3 hX e0 g0 g1 hb1w
            have y0 := HSQ.out.c0; have y1 := HSQ.out.c1; have y2 := HSQ.out.c2; have y3 := HSQ.out.c3; have r2 := HSQ.out.f2; have r3 := HSQ.out.f3; have hX := HSQ.out.hl
            have hg := ownU_cell HSQ.out.og HGK.out hqK
            rw [HGD.out] at hg
            have g0 := hg.1; have g1 := hg.2; have hb2w := (World.ownsRow.lt HSQ.out.og b2 rfl)
            clear hg
            go_still_tail 11, (by kernel_rfl)
            change wpList _ _ _ _ _ (World.drew Wq)
            have HSD := hide (HSQ.out.below (Below.drew (Below.refl _ _)))
            have HBD := hide (Below.drew HBQ.out)
            generalize World.drew Wq = W2 at HSD HBD ⊢
            clear HSQ HBQ g0 g1 hb2w y0 y1 y2 y3 r2 r3 hX
            have y0 := HSD.out.c0; have y1 := HSD.out.c1; have y2 := HSD.out.c2; have y3 := HSD.out.c3; have r2 := HSD.out.f2; have r3 := HSD.out.f3; have hX := HSD.out.hl
            have hg := ownU_cell HSD.out.og HGK.out hqK
            rw [HGD.out] at hg
            have g0 := hg.1; have g1 := hg.2; have hb2w := (World.ownsRow.lt HSD.out.og b2 rfl)
            have hb2x : b2 ≠ X := by omega
            clear hg
            go_upto_region 11 with fail
            obtain ⟨W3, hW3⟩ : ∃ W, World.setCell W2 ⟨b2, q, none⟩ (.int .u64 (Z : Nat)) = W := ⟨_, rfl⟩
            have HS3 := hide (show CvSt W3 X (.slice (some ⟨b1, o1, none⟩) n c1) (.slice (some ⟨b2, 0, none⟩) l cap2) (.slice A3 i c3) m (gs.set q Z) ws by rw [← hW3]; exact HSD.out.gset HGK.out hqK Z)
            have HB3 := hide (show Below X w W3 by rw [← hW3]; exact below_store HBD.out (by omega))
            rw [hW3]
            clear hW3 g0 g1 HSD HBD hb2w y0 y1 y2 y3 r2 r3 hX
            have y0 := HS3.out.c0; have y1 := HS3.out.c1; have y2 := HS3.out.c2; have y3 := HS3.out.c3; have r2 := HS3.out.f2; have r3 := HS3.out.f3; have hX := HS3.out.hl
            go_wp2_with (at_builtin; refine wpList_append_rd _ encI_len encI_one (by rfl) _ _ 29 (by rfl) (X + 1) 3 i0 (.int .i64 0) 8 Try.underlying29 hi hz0 hz1 hz2 rfl (by decide) _ _ (by rfl) (HS3.out.ow.below ((Below.refl _ _).alloc (Nat.le_refl _) _)) _ _ [((q : Nat) : Int)] (by rfl) (rd_new (enc := encI) _ ((q : Nat) : Int) _) (by rw [ints_len, HI.out]; unfold maxLen; simp <;> omega) (by rw [ints_len, HI.out]; simp <;> omega) (by simp <;> omega) ?_; intro r9 w9 hown9 hgrow9 hblk9; rw [← ints_snoc] at hown9; have HSA := hide (HS3.out.below (w' := W3.alloc (.cells #[.int .i64 (q : Nat)] 3)) ((Below.refl _ _).alloc (Nat.le_refl _) _)); have HS4 := hide (HSA.out.storeW hgrow9 hown9 (by first | with_reducible exact hblk9 | (rw [World.size_alloc]; exact hblk9) | exact hblk9)); have HBG := hide (Own.belowGrown (B := X) HSA.out.ow hgrow9 (by omega) (by simp <;> omega)); obtain ⟨A9, c9, rfl, hc9, hc9m⟩ := own_slice encI_len hown9 (N := i + 1) (by rw [ints_len]; simp [HI.out]); obtain ⟨u0, u1, u2, u3, s2, s3⟩ := HSA.out.grown hgrow9 HSA.out.nw; have hX9 : X < w9.heap.size := (by have := hgrow9.size; (try simp at this); omega))
            have HB4 := hide (show Below X w (w9.setCell ⟨X, 3, none⟩ (.slice A9 (i + 1) c9)) from below_store ((HB3.out.alloc (by omega) _).trans HBG.out) (Nat.le_refl _))
            refine (HIH.out (ws ++ [q]) (gs.set q Z) _ _ _ (by rw [List.length_append, List.length_singleton, HI.out]; exact HDN.out) HPUT.out HS4.out (HRD.out.below HB4.out)).mono ?_
            rintro e w5 ⟨b, vg5, vw5, gs5, ws5, rfl, hst5, hb5, htr5, hfa5⟩
            have HB5 := hide (HB4.out.trans hb5)
            clear HS4 HSA HBG HB4 HB3 HS3 u0 u1 u2 u3 s2 s3 hX9 hb5 y0 y1 y2 y3 r2 r3 hX
            cases b with
            | true =>
              have HS5 := hide hst5; have HTT := hide (htr5 rfl)
              clear hst5 htr5 hfa5
              go_wp2
              go_ret
              exact ⟨true, vg5, vw5, gs5, ws5, rfl, HS5.out, HB5.out, (fun _ => HTT.out), (fun h => by cases h)⟩
            | false =>
              obtain ⟨rfl, rfl, hnx⟩ := hfa5 rfl
              have HS5 := hide hst5; have HNX := hide hnx
              clear hst5 htr5 hfa5 hnx
              obtain ⟨A5, c5, rfl, hc5, hc5m⟩ := own_slice encI_len HS5.out.ow (N := i + 1) (by rw [ints_len]; simp [HI.out])
              obtain ⟨b5, cap5, rfl, hb50, hb51, hcp5, hcp5m⟩ := own_slot HS5.out.og (N := l) (by rw [ints_len, List.length_set]; exact HGK.out) (by omega)
              unfold maxLen at hc5m
              have y0 := HS5.out.c0; have y1 := HS5.out.c1; have y2 := HS5.out.c2; have y3 := HS5.out.c3; have r2 := HS5.out.f2; have r3 := HS5.out.f3; have hX := HS5.out.hl
              have hi5 : (i : Int) ≤ (c5 : Int) := by omega
              have hi5n : i ≤ c5 := by omega
              have hc50 : ¬ c5 = 0 := by omega
              go_upto_region 15 with fail
              obtain ⟨W6, hW6⟩ : ∃ W, World.setCell w5 ⟨X, 3, none⟩ (.slice A5 i c5) = W := ⟨_, rfl⟩
              have HS6 := hide (show CvSt W6 X (.slice (some ⟨b1, o1, none⟩) n c1) (.slice (some ⟨b5, 0, none⟩) l cap5) (.slice A5 i c5) m (gs.set q Z) ws by have := HS5.out.cutW (k := i) (by simp [HI.out]) (by omega); rw [← hW6]; rwa [show (ws ++ [q]).take i = ws by rw [← HI.out]; simp] at this)
              have HB6 := hide (show Below X w W6 by rw [← hW6]; exact below_store HB5.out (Nat.le_refl _))
              rw [hW6]
              clear hW6 HS5 HB5 hb51 y0 y1 y2 y3 r2 r3 hX
              have y0 := HS6.out.c0; have y1 := HS6.out.c1; have y2 := HS6.out.c2; have y3 := HS6.out.c3; have r2 := HS6.out.f2; have r3 := HS6.out.f3; have hX := HS6.out.hl
              have hg := ownU_cell HS6.out.og (by rw [List.length_set]; exact HGK.out) hqK
              rw [HZD.out] at hg
              have g0 := hg.1; have g1 := hg.2; have hb5w := (World.ownsRow.lt HS6.out.og b5 rfl)
              have hb5x : b5 ≠ X := by omega
              clear hg
              go_still_tail 11, (by kernel_rfl)
              change wpList _ _ _ _ _ W6.drew
              have HSD := hide (HS6.out.below (Below.drew (Below.refl _ _)))
              have HBD := hide (Below.drew HB6.out)
              generalize World.drew W6 = W7 at HSD HBD ⊢
              clear g0 g1 hb5w y0 y1 y2 y3 r2 r3 hX
              have y0 := HSD.out.c0; have y1 := HSD.out.c1; have y2 := HSD.out.c2; have y3 := HSD.out.c3; have r2 := HSD.out.f2; have r3 := HSD.out.f3; have hX := HSD.out.hl
              have hg := ownU_cell HSD.out.og (by rw [List.length_set]; exact HGK.out) hqK
              rw [HZD.out] at hg
              have g0 := hg.1; have g1 := hg.2; have hb5w := (World.ownsRow.lt HSD.out.og b5 rfl)
              clear hg
              go_upto_region 16 with fail
              obtain ⟨W8, hW8⟩ : ∃ W, World.setCell W7 ⟨b5, q, none⟩ (.int .u64 (g : Nat)) = W := ⟨_, rfl⟩
              have HS8 := hide (show CvSt W8 X (.slice (some ⟨b1, o1, none⟩) n c1) (.slice (some ⟨b5, 0, none⟩) l cap5) (.slice A5 i c5) m gs ws by have := HSD.out.gset (by rw [List.length_set]; exact HGK.out) hqK g; rw [HSS.out] at this; rwa [hW8] at this)
              have HB8 := hide (show Below X w W8 by rw [← hW8]; exact below_store HBD.out (by omega))
              rw [hW8]
              clear hW8 HSD HBD g0 g1 hb5w HS6 HB6 y0 y1 y2 y3 r2 r3 hX
              have y0 := HS8.out.c0; have y1 := HS8.out.c1; have y2 := HS8.out.c2; have y3 := HS8.out.c3; have r2 := HS8.out.f2; have r3 := HS8.out.f3; have hX := HS8.out.hl
              have hg := ownU_cell HS8.out.og HGK.out hqK
              rw [HGD.out] at hg
              have g0 := hg.1; have hb5w := (World.ownsRow.lt HS8.out.og b5 rfl)
              clear hg
              have HTR2 := hide (show ∀ r, r < q + 1 → r < m → ¬ ExtP (bothD p ms xs) n m (ws ++ [r]) from fun r h1 h2 => by by_cases e : r = q; (rw [e]; exact HNX.out); exact HTR.out r (by omega) h2)
              go_wp2
              go_roundw
              case rel => exact ⟨q + 1, _, _, by first | rfl | go_num, by omega, HTR2, HS8, HB8⟩
              case measure => simp [intOf]; omega
          · have hcz : ((c : Int) == 0) = false := by rw [beq_eq_false_iff_ne]; intro e; exact hf (HFI.out.1 (by omega))
            have HTR2 := hide (show ∀ r, r < q + 1 → r < m → ¬ ExtP (bothD p ms xs) n m (ws ++ [r]) from fun r h1 h2 => by by_cases e : r = q; (rw [e]; exact GInv.misfit (by rw [HI.out]; exact hin) hf); exact HTR.out r (by omega) h2)
            clear hf hct hcle hgv
            go_wp2
            go_quiet (fail)
            go_wp2
            go_roundw
            case rel => exact ⟨q + 1, _, _, by first | rfl | go_num, by omega, HTR2, hide (HST.out.below (below_drewN (Below.refl _ _) _)), hide (below_drewN HB.out _)⟩
            case measure => simp [intOf]; omega
        · obtain rfl : l = q := by omega
          have hqe : ((l : Int) == (l : Int)) = true := by simp
          obtain ⟨K, hK⟩ : ∃ K, l + 1 = K := ⟨_, rfl⟩
          have HK := hide hK
          have hqK : l < K := by omega
          have hqK' : (l : Int) < K := by omega
          have hK12 : K ≤ 13 := by omega
          clear hK
          obtain ⟨g, hgv⟩ : ∃ g, (gsAt gs l)[l]'(gsAt_len (by rw [HL.out]; omega)) = g := ⟨_, rfl⟩
          have hglt := gsAt_lt HGI.out (by rw [HL.out]; omega) hgv
          rw [HI.out, HT2.out, HL.out] at hglt
          obtain ⟨hg1, hg2⟩ := hglt
          have HGK := hide (show (gs ++ [0]).length = K by rw [List.length_append, HL.out, List.length_singleton]; exact HK.out)
          have HGA := hide (show gsAt gs l = gs ++ [0] by have := gsAt_new (gs := gs); rwa [HL.out] at this)
          have HGD := hide (show (gs ++ [0]).getD l 0 = g by rw [← hgv, getD_get (show l < (gs ++ [0]).length by rw [HGK.out]; exact hqK)]; simp only [HGA.out])
          obtain ⟨c, hcv, hcle, hct⟩ := andNot_u64 g S (by omega) hsl
          have HFI := hide (HGI.out.fits (S := S) (c := c) (by rw [HL.out]; omega) hgv (fun k hk => by rw [HI.out] at hk; rw [HI.out]; exact HSB.out k hk) hct)
          have hgz0 : g = 0 := hg2.2 rfl
          have hf : GoesW (bothD p ms xs) ws l := HFI.out.1 (by have := hct; apply Nat.eq_of_testBit_eq; intro k; rw [hct, hgz0]; simp)
          clear hg2
          have hcz : ((c : Int) == 0) = true := by simp [HFI.out.2 hf]
          have HPUT := hide (show GInv (bothD p ms xs) m (ws ++ [l]) ((gs ++ [0]).set l (g ||| T2)) by have := HGI.out.put (by rw [HL.out]; omega) hqm hgv hf; rw [HGA.out, HI.out, HT2.out] at this; exact this)
          have hor : bits .or .u64 (g : Int) (T2 : Int) = ((g ||| T2 : Nat) : Int) := bits_or_u64 g T2 (by omega) (by omega)
          have hzl : g ||| T2 < 4611686018427387904 := or_lt62 (by omega) (by omega)
          have hback : bits .andNot .u64 ((g ||| T2 : Nat) : Int) (T2 : Int) = (g : Int) := by
            obtain ⟨c', h1, -, h2⟩ := andNot_u64 (g ||| T2) T2 hzl (by omega)
            rw [h1, put_take (g := g) (t := i) (c := c') (by rw [HT2.out]; exact hg1) (fun k => by rw [h2, HT2.out])]
          obtain ⟨Z, hZ⟩ : ∃ Z, g ||| T2 = Z := ⟨_, rfl⟩
          rw [hZ] at hor hback HPUT
          have HZD := hide (show ((gs ++ [0]).set l Z).getD l 0 = Z from getD_set Z (by rw [HGK.out]; exact hqK))
          have HSS := hide (show ((gs ++ [0]).set l Z).set l g = gs ++ [0] by rw [List.set_set]; exact set_back HGD.out (by rw [HGK.out]; exact hqK))
          clear hZ hzl hct hcle hgv hf
          have hgz : ((g : Int) == 0) = true := by simp [hgz0]
          have HGZ := hide hgz0; clear hgz0
          obtain ⟨A2, c2, rfl, hc2, hc2m⟩ := own_slice encU_len HST.out.og (N := l) (by rw [ints_len]; exact HL.out)
          unfold maxLen at hc2m
          clear hX
          have y0 := HST.out.c0; have y1 := HST.out.c1; have y2 := HST.out.c2; have y3 := HST.out.c3; have r2 := HST.out.f2; have r3 := HST.out.f3; have hX := HST.out.hl
          have HSN := hide (ints_snoc gs 0)
          go_upto_region 9 with (at_builtin; refine wpList_append_rd _ encU_len encU_one (by rfl) _ _ 64 (by rfl) (X + 1) 66 j0 (.int .u64 0) 8 Try.underlying64 hj hy0 hy1 hy2 rfl (by decide) _ _ (by rfl) (HST.out.og.below ((Below.refl _ _).alloc (Nat.le_refl _) _)) _ _ [(0 : Int)] (by rfl) (rd_new (enc := encU) _ (0 : Int) _) (by rw [ints_len, HL.out]; unfold maxLen; simp <;> omega) (by rw [ints_len, HL.out]; simp <;> omega) (by simp <;> omega) ?_; intro r9 w9 hown9 hgrow9 hblk9; replace hown9 : Own w9 (X + 1) 66 1 encU r9 (ints (gs ++ [0])) := (by rw [HSN.out]; exact hown9); have HSA := hide (HST.out.below (w' := wo.alloc (.cells #[.int .u64 0] 66)) ((Below.refl _ _).alloc (Nat.le_refl _) _)); have HS4 := hide (HSA.out.storeG hgrow9 hown9 (by first | with_reducible exact hblk9 | (rw [World.size_alloc]; exact hblk9) | exact hblk9)); have HBG := hide (Own.belowGrown (B := X) HSA.out.og hgrow9 (by omega) (by simp <;> omega)); obtain ⟨b2, cap2, rfl, hb20, hb21, hcp2, hcp2m⟩ := own_slot hown9 (N := K) (by rw [ints_len]; exact HGK.out) (by omega); obtain ⟨u0, u1, u2, u3, s2, s3⟩ := HSA.out.grown hgrow9 HSA.out.ng; have hX9 : X < w9.heap.size := (by have := hgrow9.size; (try simp at this); omega))
          obtain ⟨W1, hW1⟩ : ∃ W, World.setCell w9 ⟨X, 2, none⟩ (.slice (some ⟨b2, 0, none⟩) K cap2) = W := ⟨_, rfl⟩
          have HS1 := hide (show CvSt W1 X (.slice (some ⟨b1, o1, none⟩) n c1) (.slice (some ⟨b2, 0, none⟩) K cap2) (.slice A3 i c3) m (gs ++ [0]) ws by rw [← hW1]; exact HS4.out)
          have HB1 := hide (show Below X w W1 by rw [← hW1]; exact below_store ((HB.out.alloc (by omega) _).trans HBG.out) (Nat.le_refl _))
          rw [hW1]
          clear hW1 HS4 HSA HBG u0 u1 u2 u3 s2 s3 hX9 hb21 hc2 hc2m y0 y1 y2 y3 r2 r3 hX
          have y0 := HS1.out.c0; have y1 := HS1.out.c1; have y2 := HS1.out.c2; have y3 := HS1.out.c3; have r2 := HS1.out.f2; have r3 := HS1.out.f3; have hX := HS1.out.hl
          have e0 := HSC.out W1 HB1.out
          have hb1w : b1 < W1.heap.size := by have := HB1.out.size; omega
          have hg := ownU_cell HS1.out.og HGK.out hqK
          rw [HGD.out] at hg
          have g0 := hg.1; have g1 := hg.2
          clear hg
          go_quiet (fail)
          go_upto_region 10 with fail
          have HSQ := hide (HS1.out.below (below_drewN (Below.refl _ _) nq))
          have HBQ := hide (below_drewN HB1.out nq)
          generalize World.drewN W1 nq = Wq at HSQ HBQ ⊢
          clear y0 y1 y2 y3 r2 r3 hX e0 g0 g1 hb1w
          have y0 := HSQ.out.c0; have y1 := HSQ.out.c1; have y2 := HSQ.out.c2; have y3 := HSQ.out.c3; have r2 := HSQ.out.f2; have r3 := HSQ.out.f3; have hX := HSQ.out.hl
          have hg := ownU_cell HSQ.out.og HGK.out hqK
          rw [HGD.out] at hg
          have g0 := hg.1; have g1 := hg.2; have hb2w := (World.ownsRow.lt HSQ.out.og b2 rfl)
          clear hg
          go_still_tail 11, (by kernel_rfl)
          change wpList _ _ _ _ _ (World.drew Wq)
          have HSD := hide (HSQ.out.below (Below.drew (Below.refl _ _)))
          have HBD := hide (Below.drew HBQ.out)
          generalize World.drew Wq = W2 at HSD HBD ⊢
          clear HSQ HBQ g0 g1 hb2w y0 y1 y2 y3 r2 r3 hX
          have y0 := HSD.out.c0; have y1 := HSD.out.c1; have y2 := HSD.out.c2; have y3 := HSD.out.c3; have r2 := HSD.out.f2; have r3 := HSD.out.f3; have hX := HSD.out.hl
          have hg := ownU_cell HSD.out.og HGK.out hqK
          rw [HGD.out] at hg
          have g0 := hg.1; have g1 := hg.2; have hb2w := (World.ownsRow.lt HSD.out.og b2 rfl)
          have hb2x : b2 ≠ X := by omega
          clear hg
          go_upto_region 11 with fail
          obtain ⟨W3, hW3⟩ : ∃ W, World.setCell W2 ⟨b2, l, none⟩ (.int .u64 (Z : Nat)) = W := ⟨_, rfl⟩
          have HS3 := hide (show CvSt W3 X (.slice (some ⟨b1, o1, none⟩) n c1) (.slice (some ⟨b2, 0, none⟩) K cap2) (.slice A3 i c3) m ((gs ++ [0]).set l Z) ws by rw [← hW3]; exact HSD.out.gset HGK.out hqK Z)
          have HB3 := hide (show Below X w W3 by rw [← hW3]; exact below_store HBD.out (by omega))
          rw [hW3]
          clear hW3 g0 g1 HSD HBD hb2w y0 y1 y2 y3 r2 r3 hX
          have y0 := HS3.out.c0; have y1 := HS3.out.c1; have y2 := HS3.out.c2; have y3 := HS3.out.c3; have r2 := HS3.out.f2; have r3 := HS3.out.f3; have hX := HS3.out.hl
          go_wp2_with (at_builtin; refine wpList_append_rd _ encI_len encI_one (by rfl) _ _ 29 (by rfl) (X + 1) 3 i0 (.int .i64 0) 8 Try.underlying29 hi hz0 hz1 hz2 rfl (by decide) _ _ (by rfl) (HS3.out.ow.below ((Below.refl _ _).alloc (Nat.le_refl _) _)) _ _ [((l : Nat) : Int)] (by rfl) (rd_new (enc := encI) _ ((l : Nat) : Int) _) (by rw [ints_len, HI.out]; unfold maxLen; simp <;> omega) (by rw [ints_len, HI.out]; simp <;> omega) (by simp <;> omega) ?_; intro r9 w9 hown9 hgrow9 hblk9; rw [← ints_snoc] at hown9; have HSA := hide (HS3.out.below (w' := W3.alloc (.cells #[.int .i64 (l : Nat)] 3)) ((Below.refl _ _).alloc (Nat.le_refl _) _)); have HS4 := hide (HSA.out.storeW hgrow9 hown9 (by first | with_reducible exact hblk9 | (rw [World.size_alloc]; exact hblk9) | exact hblk9)); have HBG := hide (Own.belowGrown (B := X) HSA.out.ow hgrow9 (by omega) (by simp <;> omega)); obtain ⟨A9, c9, rfl, hc9, hc9m⟩ := own_slice encI_len hown9 (N := i + 1) (by rw [ints_len]; simp [HI.out]); obtain ⟨u0, u1, u2, u3, s2, s3⟩ := HSA.out.grown hgrow9 HSA.out.nw; have hX9 : X < w9.heap.size := (by have := hgrow9.size; (try simp at this); omega))
          have HB4 := hide (show Below X w (w9.setCell ⟨X, 3, none⟩ (.slice A9 (i + 1) c9)) from below_store ((HB3.out.alloc (by omega) _).trans HBG.out) (Nat.le_refl _))
          refine (HIH.out (ws ++ [l]) ((gs ++ [0]).set l Z) _ _ _ (by rw [List.length_append, List.length_singleton, HI.out]; exact HDN.out) HPUT.out HS4.out (HRD.out.below HB4.out)).mono ?_
          rintro e w5 ⟨b, vg5, vw5, gs5, ws5, rfl, hst5, hb5, htr5, hfa5⟩
          have HB5 := hide (HB4.out.trans hb5)
          clear HS4 HSA HBG HB4 HB3 HS3 u0 u1 u2 u3 s2 s3 hX9 hb5 y0 y1 y2 y3 r2 r3 hX
          cases b with
          | true =>
            have HS5 := hide hst5; have HTT := hide (htr5 rfl)
            clear hst5 htr5 hfa5
            go_wp2
            go_ret
            exact ⟨true, vg5, vw5, gs5, ws5, rfl, HS5.out, HB5.out, (fun _ => HTT.out), (fun h => by cases h)⟩
          | false =>
            obtain ⟨rfl, rfl, hnx⟩ := hfa5 rfl
            have HS5 := hide hst5; have HNX := hide hnx
            clear hst5 htr5 hfa5 hnx
            obtain ⟨A5, c5, rfl, hc5, hc5m⟩ := own_slice encI_len HS5.out.ow (N := i + 1) (by rw [ints_len]; simp [HI.out])
            obtain ⟨b5, cap5, rfl, hb50, hb51, hcp5, hcp5m⟩ := own_slot HS5.out.og (N := K) (by rw [ints_len, List.length_set]; exact HGK.out) (by omega)
            unfold maxLen at hc5m
            have y0 := HS5.out.c0; have y1 := HS5.out.c1; have y2 := HS5.out.c2; have y3 := HS5.out.c3; have r2 := HS5.out.f2; have r3 := HS5.out.f3; have hX := HS5.out.hl
            have hi5 : (i : Int) ≤ (c5 : Int) := by omega
            have hi5n : i ≤ c5 := by omega
            have hc50 : ¬ c5 = 0 := by omega
            go_upto_region 15 with fail
            obtain ⟨W6, hW6⟩ : ∃ W, World.setCell w5 ⟨X, 3, none⟩ (.slice A5 i c5) = W := ⟨_, rfl⟩
            have HS6 := hide (show CvSt W6 X (.slice (some ⟨b1, o1, none⟩) n c1) (.slice (some ⟨b5, 0, none⟩) K cap5) (.slice A5 i c5) m ((gs ++ [0]).set l Z) ws by have := HS5.out.cutW (k := i) (by simp [HI.out]) (by omega); rw [← hW6]; rwa [show (ws ++ [l]).take i = ws by rw [← HI.out]; simp] at this)
            have HB6 := hide (show Below X w W6 by rw [← hW6]; exact below_store HB5.out (Nat.le_refl _))
            rw [hW6]
            clear hW6 HS5 HB5 hb51 y0 y1 y2 y3 r2 r3 hX
            have y0 := HS6.out.c0; have y1 := HS6.out.c1; have y2 := HS6.out.c2; have y3 := HS6.out.c3; have r2 := HS6.out.f2; have r3 := HS6.out.f3; have hX := HS6.out.hl
            have hg := ownU_cell HS6.out.og (by rw [List.length_set]; exact HGK.out) hqK
            rw [HZD.out] at hg
            have g0 := hg.1; have g1 := hg.2; have hb5w := (World.ownsRow.lt HS6.out.og b5 rfl)
            have hb5x : b5 ≠ X := by omega
            clear hg
            go_still_tail 11, (by kernel_rfl)
            change wpList _ _ _ _ _ W6.drew
            have HSD := hide (HS6.out.below (Below.drew (Below.refl _ _)))
            have HBD := hide (Below.drew HB6.out)
            generalize World.drew W6 = W7 at HSD HBD ⊢
            clear g0 g1 hb5w y0 y1 y2 y3 r2 r3 hX
            have y0 := HSD.out.c0; have y1 := HSD.out.c1; have y2 := HSD.out.c2; have y3 := HSD.out.c3; have r2 := HSD.out.f2; have r3 := HSD.out.f3; have hX := HSD.out.hl
            have hg := ownU_cell HSD.out.og (by rw [List.length_set]; exact HGK.out) hqK
            rw [HZD.out] at hg
            have g0 := hg.1; have g1 := hg.2; have hb5w := (World.ownsRow.lt HSD.out.og b5 rfl)
            clear hg
            go_upto_region 16 with fail
            obtain ⟨W8, hW8⟩ : ∃ W, World.setCell W7 ⟨b5, l, none⟩ (.int .u64 (g : Nat)) = W := ⟨_, rfl⟩
            have HS8 := hide (show CvSt W8 X (.slice (some ⟨b1, o1, none⟩) n c1) (.slice (some ⟨b5, 0, none⟩) K cap5) (.slice A5 i c5) m (gs ++ [0]) ws by have := HSD.out.gset (by rw [List.length_set]; exact HGK.out) hqK g; rw [HSS.out] at this; rwa [hW8] at this)
            have HB8 := hide (show Below X w W8 by rw [← hW8]; exact below_store HBD.out (by omega))
            rw [hW8]
            clear hW8 HSD HBD g0 g1 hb5w HS6 HB6 y0 y1 y2 y3 r2 r3 hX
            have y0 := HS8.out.c0; have y1 := HS8.out.c1; have y2 := HS8.out.c2; have y3 := HS8.out.c3; have r2 := HS8.out.f2; have r3 := HS8.out.f3; have hX := HS8.out.hl
            have hg := ownU_cell HS8.out.og HGK.out hqK
            rw [HGD.out] at hg
            have g0 := hg.1; have hb5w := (World.ownsRow.lt HS8.out.og b5 rfl)
            clear hg
            have HNO := hide (HGI.out.none (n := n) (by rw [HI.out]; exact hin) (fun r h1 h2 => by rw [HL.out] at h1; by_cases e : r = l; (rw [e]; exact HNX.out); exact HTR.out r (by omega) h2))
            have hqc5 : l ≤ cap5 := by omega
            have hqc5' : (l : Int) ≤ (cap5 : Int) := by omega
            have hc5z : ¬ cap5 = 0 := by omega
            go_wp2
            go_ret
            refine ⟨false, .slice (some ⟨b5, 0, none⟩) l cap5, .slice A5 i c5, gs, ws, rfl, ?_, below_store HB8.out (Nat.le_refl _), (fun h => by cases h), (fun _ => ⟨rfl, rfl, HNO.out⟩)⟩
            have := HS8.out.cutG (k := l) HGK.out (by omega)
            have htk : (gs ++ [0]).take l = gs := by rw [← HL.out]; simp
            rw [htk] at this
            exact this
      · have hqm' : ¬ (q : Int) < m := by omega
        have HNO := hide (HGI.out.none (n := n) (by rw [HI.out]; exact hin) (fun r h1 h2 => HTR.out r (by omega) h2))
        obtain ⟨A2, c2, rfl, hc2, hc2m⟩ := own_slice encU_len HST.out.og (N := l) (by rw [ints_len]; exact HL.out)
        clear hX
        have y0 := HST.out.c0; have y1 := HST.out.c1; have y2 := HST.out.c2; have y3 := HST.out.c3; have r2 := HST.out.f2; have r3 := HST.out.f3; have hX := HST.out.hl
        go_wp2
        go_ret
        exact ⟨false, _, _, gs, ws, rfl, HST.out, HB.out, (fun h => by cases h), (fun _ => ⟨rfl, rfl, HNO.out⟩)⟩
end Go.Proofs.Ytdbpgfbbkejljaa
