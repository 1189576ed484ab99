/- The law FnExactIsChain: for every input it returns true and leaves its arguments as they were. No condition. -/
import Derived.Test.YtefidlecandnlaaChain
import Derived.Test.YtefidlecandnlaaLaw2
namespace Go.Proofs.Ytefidlecandnlaa
open Go.RowKit Go.WideShapes Go.ChangeShapes Go.ChangeAt Go.Joins Go.Deep
set_option linter.unusedVariables false
set_option maxRecDepth 100000 in
set_option maxHeartbeats 4000000 in
theorem FnExactIsChain_walk (w : World) (vc1 vc2 : Value) (c : ChartD) (rc : RdChart w w.heap.size vc1 vc2 c) (hokc : ∀ x ∈ c.points, x.name.size ≤ maxLen) (hoksc : ∀ x ∈ c.segs, x.ok) (va : Value) (a : List PassageD) (ra : RdPassage w va a) (hoka : ∀ x ∈ a, x.ok) :
    Calls Try.prog 8 #[.agg #[vc1, vc2], va] w fun e w' => e = .returned (.bool true) ∧ Below w.heap.size w w' := by
  obtain ⟨Ac, cc, Bc, dc, rfl, rfl⟩ : ∃ Az cz Bz dz, vc1 = .slice Az c.points.length cz ∧ vc2 = .slice Bz c.segs.length dz := by obtain ⟨⟨Az, cz, h, _⟩, ⟨Bz, dz, h2, _⟩⟩ := rc; exact ⟨Az, cz, Bz, dz, h, h2⟩
  go_enter Try.func8, Try.ntmps8
  go_wp2_with fail
  generalize hW0 : (w.alloc (.cells #[.slice Ac c.points.length cc, .slice Bc c.segs.length dc] 25)) = W0
  have hB0 : Below w.heap.size w W0 := by rw [← hW0]; exact (by repeat (first | exact Below.refl _ _ | assumption | refine Below.setCell ?_ (by first | omega | (simp <;> omega)) _ | refine Below.alloc ?_ (by first | omega | (simp <;> omega)) _ | refine below_drewN ?_ _ | refine Below.drew ?_ | refine Below.trans ?_ (Below.mono (by assumption) (by first | omega | (simp <;> omega)))))
  have hl0 : w.heap.size < W0.heap.size := by rw [← hW0]; simp <;> omega
  have hx0_0 : W0.cell? ⟨w.heap.size, 0, none⟩ = some (.slice Ac c.points.length cc) := by rw [← hW0]; simp [go_sem]
  have hx0_1 : W0.cell? ⟨w.heap.size, 1, none⟩ = some (.slice Bc c.segs.length dc) := by rw [← hW0]; simp [go_sem]
  have s0 := hB0.size
  clear hW0
  replace rc := rc.keep hB0 (by omega)
  replace ra := ra.keep hB0 (by omega)
  have hBB0 := Below.refl W0.heap.size W0
  obtain ⟨hc0, hf0⟩ := bcell hBB0
  go_wp2_with fail
  refine (szChart_any _ _ c 1048576 _ (rc.mono (by omega)) hokc (by omega) (by omega)).mono ?_; rintro e w1 ⟨z1, rfl, hz1, hm1, hb1⟩
  have s1 := hb1.size
  replace rc := rc.keep hb1 (by omega)
  replace ra := ra.keep hb1 (by omega)
  have hB1 := bnext hB0 hb1 (Nat.le_refl _)
  have hBB0_1 := bnext hBB0 hb1 (Nat.le_refl _)
  clear hc0 hf0; obtain ⟨hc0, hf0⟩ := bcell hBB0_1
  have hm0_0 : w.heap.size < w1.heap.size := by omega
  by_cases hn1 : z1 < 0
  · clear hz1
    go_wp2_with fail
    go_ret
    exact ⟨rfl, hB1⟩
  obtain ⟨p1, q1⟩ := hz1 (by omega)
  have hpc : c.points.length ≤ 1048576 := by omega
  have hsc : c.segs.length ≤ 1048576 := by omega
  go_wp2_with fail
  refine (szPassageS_any _ _ z1 _ (ra.mono (by omega)) (by omega) (by omega)).mono ?_; rintro e w2 ⟨z2, rfl, hz2, hm2, hb2⟩
  have s2 := hb2.size
  replace rc := rc.keep hb2 (by omega)
  replace ra := ra.keep hb2 (by omega)
  have hB2 := bnext hB1 hb2 (Nat.le_refl _)
  have hBB0_2 := bnext hBB0_1 hb2 (Nat.le_refl _)
  clear hc0 hf0; obtain ⟨hc0, hf0⟩ := bcell hBB0_2
  have hm0_0 : w.heap.size < w2.heap.size := by omega
  by_cases hn2 : z2 < 0
  · clear hz2
    go_wp2_with fail
    go_ret
    exact ⟨rfl, hB2⟩
  obtain ⟨p2, q2⟩ := hz2 (by omega)
  go_wp2_with fail
  refine (toChart_any _ _ c _ (rc.mono (by omega)) hpc hsc).mono ?_; rintro e w3 ⟨g1n, g2n, rfl, rn, hb3⟩
  have s3 := hb3.size
  replace rc := rc.keep hb3 (by omega)
  replace ra := ra.keep hb3 (by omega)
  have hB3 := bnext hB2 hb3 (Nat.le_refl _)
  have hBB0_3 := bnext hBB0_2 hb3 (Nat.le_refl _)
  clear hc0 hf0; obtain ⟨hc0, hf0⟩ := bcell hBB0_3
  have hm0_0 : w.heap.size < w3.heap.size := by omega
  go_wp2_with fail
  refine (toPassageS_any _ _ _ (ra.mono (by omega)) (by omega)).mono ?_; rintro e w4 ⟨v4, rfl, ho4, hb4⟩
  have s4 := hb4.size
  replace rc := rc.keep hb4 (by omega)
  replace ra := ra.keep hb4 (by omega)
  replace rn := rn.keep hb4 (by omega)
  have hB4 := bnext hB3 hb4 (Nat.le_refl _)
  have hBB0_4 := bnext hBB0_3 hb4 (Nat.le_refl _)
  clear hc0 hf0; obtain ⟨hc0, hf0⟩ := bcell hBB0_4
  have hm0_0 : w.heap.size < w4.heap.size := by omega
  have om := ho4.b
  have rm := om.rdB PassageD.enc_len
  clear ho4
  clear om
  go_wp2_with fail
  refine (spec_IsChain_any _ _ _ c a _ (rn.mono (by omega)) (rm.mono (by omega)) hokc).mono ?_; rintro e w5 ⟨rfl, hb5⟩
  have s5 := hb5.size
  replace rc := rc.keep hb5 (by omega)
  replace ra := ra.keep hb5 (by omega)
  replace rn := rn.keep hb5 (by omega)
  replace rm := rm.keep hb5 (by omega)
  have hB5 := bnext hB4 hb5 (Nat.le_refl _)
  have hBB0_5 := bnext hBB0_4 hb5 (Nat.le_refl _)
  clear hc0 hf0; obtain ⟨hc0, hf0⟩ := bcell hBB0_5
  have hm0_0 : w.heap.size < w5.heap.size := by omega
  clear rn
  clear rm
  go_wp2_with fail
  refine (toChart_any _ _ c _ (rc.mono (by omega)) hpc hsc).mono ?_; rintro e w6 ⟨g1d, g2d, rfl, rd, hb6⟩
  have s6 := hb6.size
  replace rc := rc.keep hb6 (by omega)
  replace ra := ra.keep hb6 (by omega)
  have hB6 := bnext hB5 hb6 (Nat.le_refl _)
  have hBB0_6 := bnext hBB0_5 hb6 (Nat.le_refl _)
  clear hc0 hf0; obtain ⟨hc0, hf0⟩ := bcell hBB0_6
  have hm0_0 : w.heap.size < w6.heap.size := by omega
  go_wp2_with fail
  generalize hW7 : w6.alloc (.cells #[.slice (some ⟨g1d, 0, none⟩) c.points.length c.points.length, .slice (some ⟨g2d, 0, none⟩) c.segs.length c.segs.length] 34) = w7
  have hb7 : Below w6.heap.size w6 w7 := by rw [← hW7]; exact (Below.refl _ _).alloc (Nat.le_refl _) _
  have hl1x : w6.heap.size < w7.heap.size := by rw [← hW7]; simp
  have hz1_0 : w7.cell? ⟨w6.heap.size, 0, none⟩ = some (.slice (some ⟨g1d, 0, none⟩) c.points.length c.points.length) := by rw [← hW7]; simp [go_sem]
  have hz1_1 : w7.cell? ⟨w6.heap.size, 1, none⟩ = some (.slice (some ⟨g2d, 0, none⟩) c.segs.length c.segs.length) := by rw [← hW7]; simp [go_sem]
  clear hW7
  have s7 := hb7.size
  replace rc := rc.keep hb7 (by omega)
  replace ra := ra.keep hb7 (by omega)
  replace rd := rd.keep hb7 (by omega)
  have hB7 := bnext hB6 hb7 (Nat.le_refl _)
  have hBB0_7 := bnext hBB0_6 hb7 (Nat.le_refl _)
  clear hc0 hf0; obtain ⟨hc0, hf0⟩ := bcell hBB0_7
  have hm0_0 : w.heap.size < w7.heap.size := by omega
  have hBB1 := Below.refl w7.heap.size w7
  obtain ⟨hc1, hf1⟩ := bcell hBB1
  go_wp2_with fail
  refine (toPassageS_any _ _ _ (ra.mono (by omega)) (by omega)).mono ?_; rintro e w8 ⟨v8, rfl, ho8, hb8⟩
  have s8 := hb8.size
  replace rc := rc.keep hb8 (by omega)
  replace ra := ra.keep hb8 (by omega)
  replace rd := rd.keep hb8 (by omega)
  have hB8 := bnext hB7 hb8 (Nat.le_refl _)
  have hBB0_8 := bnext hBB0_7 hb8 (Nat.le_refl _)
  clear hc0 hf0; obtain ⟨hc0, hf0⟩ := bcell hBB0_8
  have hm0_0 : w.heap.size < w8.heap.size := by omega
  have hBB1_8 := bnext hBB1 hb8 (Nat.le_refl _)
  clear hc1 hf1; obtain ⟨hc1, hf1⟩ := bcell hBB1_8
  have hm1_0 : w6.heap.size < w8.heap.size := by omega
  have oe := ho8.b
  have re := oe.rdB PassageD.enc_len
  clear ho8
  clear oe
  go_wp2_with fail
  refine (impl_IsChain_any _ _ _ c a _ (rd.mono (by omega)) (re.mono (by omega)) hokc).mono ?_; rintro e w9 ⟨rfl, hb9⟩
  have s9 := hb9.size
  replace rc := rc.keep hb9 (by omega)
  replace ra := ra.keep hb9 (by omega)
  replace rd := rd.keep hb9 (by omega)
  replace re := re.keep hb9 (by omega)
  have hB9 := bnext hB8 hb9 (Nat.le_refl _)
  have hBB0_9 := bnext hBB0_8 hb9 (Nat.le_refl _)
  clear hc0 hf0; obtain ⟨hc0, hf0⟩ := bcell hBB0_9
  have hm0_0 : w.heap.size < w9.heap.size := by omega
  have hBB1_9 := bnext hBB1_8 hb9 (Nat.le_refl _)
  clear hc1 hf1; obtain ⟨hc1, hf1⟩ := bcell hBB1_9
  have hm1_0 : w6.heap.size < w9.heap.size := by omega
  have hy0_0_0 : w9.cell? ⟨w.heap.size, 0, none⟩ = some (.slice Ac c.points.length cc) := by rw [hBB0_9.cell (p := ⟨w.heap.size, 0, none⟩) (by omega)]; exact hx0_0
  have hy0_0_1 : w9.cell? ⟨w.heap.size, 1, none⟩ = some (.slice Bc c.segs.length dc) := by rw [hBB0_9.cell (p := ⟨w.heap.size, 1, none⟩) (by omega)]; exact hx0_1
  have hy1_0_0 : w9.cell? ⟨w6.heap.size, 0, none⟩ = some (.slice (some ⟨g1d, 0, none⟩) c.points.length c.points.length) := by rw [hBB1_9.cell (p := ⟨w6.heap.size, 0, none⟩) (by omega)]; exact hz1_0
  have hy1_0_1 : w9.cell? ⟨w6.heap.size, 1, none⟩ = some (.slice (some ⟨g2d, 0, none⟩) c.segs.length c.segs.length) := by rw [hBB1_9.cell (p := ⟨w6.heap.size, 1, none⟩) (by omega)]; exact hz1_1
  clear hc0 hf0 hc1 hf1
  have hlw0 : w.heap.size < w9.heap.size := by omega
  have hlw1 : w6.heap.size < w9.heap.size := by omega
  have urc := rc.mono (show _ ≤ w9.heap.size by omega)
  have urd := rd.mono (show _ ≤ w9.heap.size by omega)
  go_wp2_with fail
  go_region_held3 (fun w' => w'.cell? ⟨w.heap.size, 0, none⟩ = some (.slice Ac c.points.length cc) ∧ w'.cell? ⟨w.heap.size, 1, none⟩ = some (.slice Bc c.segs.length dc) ∧ w'.cell? ⟨w6.heap.size, 0, none⟩ = some (.slice (some ⟨g1d, 0, none⟩) c.points.length c.points.length) ∧ w'.cell? ⟨w6.heap.size, 1, none⟩ = some (.slice (some ⟨g2d, 0, none⟩) c.segs.length c.segs.length) ∧ w.heap.size < w'.heap.size ∧ w6.heap.size < w'.heap.size ∧ Below w9.heap.size w9 w')
    (first | exact ⟨hy0_0_0, hy0_0_1, hy1_0_0, hy1_0_1, hlw0, hlw1, Below.drew (Below.refl _ _)⟩ | exact ⟨cellKeepL hb' g0_0_0 hlz0, cellKeepL hb' g0_0_1 hlz0, cellKeepL hb' g1_0_0 hlz1, cellKeepL hb' g1_0_1 hlz1, Nat.lt_of_lt_of_le hlz0 hb'.size, Nat.lt_of_lt_of_le hlz1 hb'.size, hBz⟩ | ((repeat' apply And.intro) <;> first | assumption | omega | (rw [hc _ _ (by omega)]; assumption) | (simp [*]; done) | exact Below.drew (Below.refl _ _)))
    (first | (go_at_call 18; obtain ⟨g0_0_0, g0_0_1, g1_0_0, g1_0_1, hlz0, hlz1, hBz⟩ := (by with_reducible assumption : _ ∧ _); with_reducible refine (toChart_any _ _ c _ ((urc.keep hBz (Nat.le_refl _)).mono hBz.size) hpc hsc).mono ?_; rintro e wz ⟨gz1, gz2, rfl, hrc, hb'⟩; obtain ⟨hc, hf⟩ := bcell hb'; have hBz := bnext hBz hb' (Nat.le_refl _); (try replace hr0 := Rd.below hr0 hb'); (try replace hr0 := RdChart.below hr0 hb'); have hr0 := hrc) | (go_at_call 21; obtain ⟨g0_0_0, g0_0_1, g1_0_0, g1_0_1, hlz0, hlz1, hBz⟩ := (by with_reducible assumption : _ ∧ _); with_reducible refine (eqChart_any _ _ _ _ c c _ ((urd.keep hBz (Nat.le_refl _)).mono hBz.size) hr0).mono ?_; rintro e wz ⟨rfl, hb'⟩; obtain ⟨hc, hf⟩ := bcell hb'; have hBz := bnext hBz hb' (Nat.le_refl _); (try replace hr0 := Rd.below hr0 hb'); (try replace hr0 := RdChart.below hr0 hb')))
  rename World => w10
  have hb10 := hBz
  clear hc hf hBz urc urd
  have s10 := hb10.size
  replace rc := rc.keep hb10 (by omega)
  replace ra := ra.keep hb10 (by omega)
  replace rd := rd.keep hb10 (by omega)
  replace re := re.keep hb10 (by omega)
  have hB10 := bnext hB9 hb10 (Nat.le_refl _)
  have hBB0_10 := bnext hBB0_9 hb10 (Nat.le_refl _)
  obtain ⟨hc0, hf0⟩ := bcell hBB0_10
  have hm0_0 : w.heap.size < w10.heap.size := by omega
  have hBB1_10 := bnext hBB1_9 hb10 (Nat.le_refl _)
  obtain ⟨hc1, hf1⟩ := bcell hBB1_10
  have hm1_0 : w6.heap.size < w10.heap.size := by omega
  try rw [decide_eq_true rfl]
  go_wp2_with fail
  refine (toPassageS_any _ _ _ (ra.mono (by omega)) (by omega)).mono ?_; rintro e w11 ⟨v11, rfl, ho11, hb11⟩
  have s11 := hb11.size
  replace rc := rc.keep hb11 (by omega)
  replace ra := ra.keep hb11 (by omega)
  replace rd := rd.keep hb11 (by omega)
  replace re := re.keep hb11 (by omega)
  have hB11 := bnext hB10 hb11 (Nat.le_refl _)
  have hBB0_11 := bnext hBB0_10 hb11 (Nat.le_refl _)
  clear hc0 hf0; obtain ⟨hc0, hf0⟩ := bcell hBB0_11
  have hm0_0 : w.heap.size < w11.heap.size := by omega
  have hBB1_11 := bnext hBB1_10 hb11 (Nat.le_refl _)
  clear hc1 hf1; obtain ⟨hc1, hf1⟩ := bcell hBB1_11
  have hm1_0 : w6.heap.size < w11.heap.size := by omega
  have of := ho11.b
  have rf := of.rdB PassageD.enc_len
  clear ho11
  clear of
  go_wp2_with fail
  refine (eqPassageS_any _ _ _ _ _ (re.mono (by omega)) (rf.mono (by omega))).mono ?_; rintro e w12 ⟨rfl, hb12⟩
  have s12 := hb12.size
  replace rc := rc.keep hb12 (by omega)
  replace ra := ra.keep hb12 (by omega)
  replace rd := rd.keep hb12 (by omega)
  replace re := re.keep hb12 (by omega)
  replace rf := rf.keep hb12 (by omega)
  have hB12 := bnext hB11 hb12 (Nat.le_refl _)
  have hBB0_12 := bnext hBB0_11 hb12 (Nat.le_refl _)
  clear hc0 hf0; obtain ⟨hc0, hf0⟩ := bcell hBB0_12
  have hm0_0 : w.heap.size < w12.heap.size := by omega
  have hBB1_12 := bnext hBB1_11 hb12 (Nat.le_refl _)
  clear hc1 hf1; obtain ⟨hc1, hf1⟩ := bcell hBB1_12
  have hm1_0 : w6.heap.size < w12.heap.size := by omega
  go_wp2_with fail
  go_ret
  exact ⟨rfl, hB12⟩
namespace fnExactIsChain
set_option maxRecDepth 100000 in
theorem lifted (os : Os) (started : os.Started) (H : Type) (enc : TypeId × Value → H) :
    ReturnsInHanded {} Try.checked os 8 .any (Rows.fnExactIsChainSpec.pre6 enc Try.prog Try.f8 Rows.fnExactIsChainRow.domain false) (Rows.fnExactIsChainSpec.post enc Try.prog Try.f8 false true false false) := by
  refine returnsInHanded_of_change (C := Try.checked) own started (by kernel_rfl) Try.func8
    (ChangeSpec.witness6 (enc := enc) (C := Try.checked) false ⟨#[], #[.agg #[.slice none 0 0, .slice none 0 0], .slice none 0 0], []⟩ 8 (by kernel_rfl) (by kernel_rfl) (by kernel_rfl) (by kernel_rfl)) ?_
  intro W base args ds gs before hval0 hW hcnd _
  have hval : ∀ (j : Nat) t v, Try.f8.params[j]? = some t → args[j]? = some v → Value.okWide Try.prog W .any base t v := hval0
  have hW' := hW
  obtain ⟨p, q, hA0, hV, hbef, hfz, hnd⟩ := hW
  have hA : DataW.TrodAll enc Try.prog W 0 (fun _ => true) true Try.f8.params.toList args.toList ds p := hA0
  rw [Try.params8] at hA hval
  obtain ⟨v0, vs0, d0, ds0, p0, q0, hargs, rfl, hp0, h0, r0⟩ := trodAll_cons hA
  obtain ⟨v1, vs1, d1, ds1, p1, q1, rfl, rfl, hp1, h1, r1⟩ := trodAll_cons r0
  obtain ⟨rfl, rfl, hpn⟩ := trodAll_nil r1
  obtain rfl : args = #[v0, v1] := by cases args; simp_all
  obtain ⟨rfl, rfl⟩ := trodVars_none hV
  obtain ⟨b0, c0, a0, rfl, g0, w0, x0⟩ := openChart (hval 0 25 v0 rfl rfl) h0
  obtain ⟨a1, g1, w1⟩ := openPassageS (hval 1 57 v1 rfl rfl) h1
  refine (FnExactIsChain_walk W b0 c0 a0 g0 w0 x0 _ a1 g1 w1).mono fun e W' ⟨he, hg⟩ => ?_
  subst he
  exact ⟨_, rfl, post_law laidOut (by kernel_rfl) rfl Try.underlying4 rfl ⟨rfl, rfl, rfl⟩ hW' hg⟩
theorem proved : Rows.FnExactIsChainSaid :=
  OpenClaim.holds_of_wide 8 Try.f8 rfl rfl rfl rfl rfl rfl rfl ⟨rfl, rfl, rfl, rfl, rfl⟩ rfl rfl rfl rfl rfl (by kernel_rfl) Try.func8 (by kernel_rfl)
    (of_decide_eq_true (by kernel_rfl)) (by unfold Func.isWrapper; first | (rw [if_pos (by decide +kernel)]; kernel_rfl) | (rw [if_neg (by decide +kernel)]; exact ⟨rfl, rfl⟩))
    (fun os started H enc _ => lifted os started H enc)
end fnExactIsChain
end Go.Proofs.Ytefidlecandnlaa
