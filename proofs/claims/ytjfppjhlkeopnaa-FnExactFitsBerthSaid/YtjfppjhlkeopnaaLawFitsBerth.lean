/- The law FnExactFitsBerth: for every input it returns true and leaves its arguments as they were. No condition. -/
import Derived.Test.YtjfppjhlkeopnaaBerth
namespace Go.Proofs.Ytjfppjhlkeopnaa
open Go.RowKit Go.WideShapes Go.ChangeShapes Go.ChangeAt Go.Joins Go.Deep
set_option linter.unusedVariables false
set_option maxRecDepth 100000 in
set_option maxHeartbeats 4000000 in
theorem FnExactFitsBerth_walk (w : World) (a : BerthD) (hoka : a.ok) (b : ShipD) (hokb : b.ok) :
    Calls Try.prog 3 #[a.val, b.val] w fun e w' => e = .returned (.bool true) ∧ Below w.heap.size w w' := by
  go_enter Try.func3, Try.ntmps3
  go_wp2_with fail
  generalize hW0 : ((w.alloc (.cells #[.string a.name, .int .i64 a.length, .int .i64 a.depth] 23)).alloc (.cells #[.string b.name, .int .i64 b.length, .int .i64 b.draught, .int .i64 b.line, .int .i64 b.tugs, .bool b.slow] 25)) = W0
  have hB0 : Below w.heap.size w W0 := by rw [← hW0]; exact (by repeat (first | exact Below.refl _ _ | assumption | refine Below.setCell ?_ (by first | omega | (simp <;> omega)) _ | refine Below.alloc ?_ (by first | omega | (simp <;> omega)) _ | refine below_drewN ?_ _ | refine Below.drew ?_ | refine Below.trans ?_ (Below.mono (by assumption) (by first | omega | (simp <;> omega)))))
  have hl0 : w.heap.size < W0.heap.size := by rw [← hW0]; simp <;> omega
  have hx0_0 : W0.cell? ⟨w.heap.size, 0, none⟩ = some (.string a.name) := by rw [← hW0]; simp
  have hx0_1 : W0.cell? ⟨w.heap.size, 1, none⟩ = some (.int .i64 a.length) := by rw [← hW0]; simp
  have hx0_2 : W0.cell? ⟨w.heap.size, 2, none⟩ = some (.int .i64 a.depth) := by rw [← hW0]; simp
  have hl1 : w.heap.size + 1 < W0.heap.size := by rw [← hW0]; simp <;> omega
  have hx1_0 : W0.cell? ⟨w.heap.size + 1, 0, none⟩ = some (.string b.name) := by rw [← hW0]; simp
  have hx1_1 : W0.cell? ⟨w.heap.size + 1, 1, none⟩ = some (.int .i64 b.length) := by rw [← hW0]; simp
  have hx1_2 : W0.cell? ⟨w.heap.size + 1, 2, none⟩ = some (.int .i64 b.draught) := by rw [← hW0]; simp
  have hx1_3 : W0.cell? ⟨w.heap.size + 1, 3, none⟩ = some (.int .i64 b.line) := by rw [← hW0]; simp
  have hx1_4 : W0.cell? ⟨w.heap.size + 1, 4, none⟩ = some (.int .i64 b.tugs) := by rw [← hW0]; simp
  have hx1_5 : W0.cell? ⟨w.heap.size + 1, 5, none⟩ = some (.bool b.slow) := by rw [← hW0]; simp
  have s0 := hB0.size
  clear hW0
  have hBB0 := Below.refl W0.heap.size W0
  obtain ⟨hc, hf⟩ := bcell hBB0
  go_wp2_with fail
  refine (szBerth_any a.name a.length a.depth 1048576 _ (BerthD.ok_size hoka) (by omega) (by omega)).mono ?_; rintro e w1 ⟨z1, rfl, hz1, hm1, hb1⟩
  have s1 := hb1.size
  have hB1 := bnext hB0 hb1 (Nat.le_refl _)
  have hBB1 := bnext hBB0 hb1 (Nat.le_refl _)
  clear hc hf
  obtain ⟨hc, hf⟩ := bcell hBB1
  have hm0 : w.heap.size < w1.heap.size := by omega
  have hm1 : w.heap.size + 1 < w1.heap.size := by omega
  by_cases hn1 : z1 < 0
  · clear hz1
    go_wp2_with fail
    go_ret
    exact ⟨rfl, hB1⟩
  obtain ⟨p1, q1⟩ := hz1 (by omega)
  go_wp2_with fail
  refine (szShip_any b.name b.length b.draught b.line b.tugs b.slow z1 _ (ShipD.ok_size hokb) (by omega) (by omega)).mono ?_; rintro e w2 ⟨z2, rfl, hz2, hm2, hb2⟩
  have s2 := hb2.size
  have hB2 := bnext hB1 hb2 (Nat.le_refl _)
  have hBB2 := bnext hBB1 hb2 (Nat.le_refl _)
  clear hc hf
  obtain ⟨hc, hf⟩ := bcell hBB2
  have hm0 : w.heap.size < w2.heap.size := by omega
  have hm1 : w.heap.size + 1 < w2.heap.size := by omega
  by_cases hn2 : z2 < 0
  · clear hz2
    go_wp2_with fail
    go_ret
    exact ⟨rfl, hB2⟩
  obtain ⟨p2, q2⟩ := hz2 (by omega)
  go_wp2_with fail
  refine wp_region_below (Below.refl w2.heap.size _) (by kernel_rfl) (by kernel_rfl) ?_
  repeat (first
    | (refine BigFrame.wpQuiet_skip ?_ ?_
       · rfl
       simp only [Act.put, List.setIfInBounds_toArray, List.set_cons_zero, List.set_cons_succ])
    | (refine BigFrame.wpQuiet_want ?_ (fun K hK => ?_)
       · rfl
       first
         | (refine quiet_value ?_; apply Exists.intro
            refine ⟨fun wq hq => ?_, hK _ ?_⟩
            · (obtain ⟨hc, hf⟩ := bcell hq; go_simp; first | done | rfl))
         | (refine quiet_call ?_; apply Exists.intro; apply Exists.intro; apply Exists.intro
            refine ⟨fun wq hq => ?_, fun wq hq => ?_, hK _ ?_⟩
            · (obtain ⟨hc, hf⟩ := bcell hq; go_simp; exact ⟨rfl, rfl⟩)
            · (first | exact (toBerth_any _ _ _ _).mono fun e w'' ⟨he, hb'⟩ => ⟨he, bnext hq hb'⟩ | exact (toBerth_any _ _ _ _).mono fun e w'' ⟨he, hw⟩ => ⟨he, hw ▸ hq⟩ | exact (toShip_any _ _ _ _ _ _ _).mono fun e w'' ⟨he, hb'⟩ => ⟨he, bnext hq hb'⟩ | exact (toShip_any _ _ _ _ _ _ _).mono fun e w'' ⟨he, hw⟩ => ⟨he, hw ▸ hq⟩ | exact (spec_FitsBerth_any a b _ (ShipD.ok_size hokb)).mono fun e w'' ⟨he, hb'⟩ => ⟨he, bnext hq hb'⟩ | exact (spec_FitsBerth_any a b _ (ShipD.ok_size hokb)).mono fun e w'' ⟨he, hw⟩ => ⟨he, hw ▸ hq⟩))
       clear hK K
       simp only [Act.put, List.setIfInBounds_toArray, List.set_cons_zero, List.set_cons_succ]))
  refine wpQuiet_nil (fun w3 hb3 => ?_)
  have s3 := hb3.size
  have hB3 := bnext hB2 hb3 (Nat.le_refl _)
  have hBB3 := bnext hBB2 hb3 (Nat.le_refl _)
  clear hc hf
  obtain ⟨hc, hf⟩ := bcell hBB3
  have hm0 : w.heap.size < w3.heap.size := by omega
  have hm1 : w.heap.size + 1 < w3.heap.size := by omega
  go_wp2_with fail
  refine wp_region_below (Below.refl w3.heap.size _) (by kernel_rfl) (by kernel_rfl) ?_
  repeat (first
    | (refine BigFrame.wpQuiet_skip ?_ ?_
       · rfl
       simp only [Act.put, List.setIfInBounds_toArray, List.set_cons_zero, List.set_cons_succ])
    | (refine BigFrame.wpQuiet_want ?_ (fun K hK => ?_)
       · rfl
       first
         | (refine quiet_value ?_; apply Exists.intro
            refine ⟨fun wq hq => ?_, hK _ ?_⟩
            · (obtain ⟨hc, hf⟩ := bcell hq; go_simp; first | done | rfl))
         | (refine quiet_call ?_; apply Exists.intro; apply Exists.intro; apply Exists.intro
            refine ⟨fun wq hq => ?_, fun wq hq => ?_, hK _ ?_⟩
            · (obtain ⟨hc, hf⟩ := bcell hq; go_simp; exact ⟨rfl, rfl⟩)
            · (first | exact (toBerth_any _ _ _ _).mono fun e w'' ⟨he, hb'⟩ => ⟨he, bnext hq hb'⟩ | exact (toBerth_any _ _ _ _).mono fun e w'' ⟨he, hw⟩ => ⟨he, hw ▸ hq⟩ | exact (toShip_any _ _ _ _ _ _ _).mono fun e w'' ⟨he, hb'⟩ => ⟨he, bnext hq hb'⟩ | exact (toShip_any _ _ _ _ _ _ _).mono fun e w'' ⟨he, hw⟩ => ⟨he, hw ▸ hq⟩ | exact (impl_FitsBerth_any a b _ (ShipD.ok_size hokb)).mono fun e w'' ⟨he, hb'⟩ => ⟨he, bnext hq hb'⟩ | exact (impl_FitsBerth_any a b _ (ShipD.ok_size hokb)).mono fun e w'' ⟨he, hw⟩ => ⟨he, hw ▸ hq⟩))
       clear hK K
       simp only [Act.put, List.setIfInBounds_toArray, List.set_cons_zero, List.set_cons_succ]))
  refine wpQuiet_nil (fun w4 hb4 => ?_)
  have s4 := hb4.size
  have hB4 := bnext hB3 hb4 (Nat.le_refl _)
  have hBB4 := bnext hBB3 hb4 (Nat.le_refl _)
  clear hc hf
  obtain ⟨hc, hf⟩ := bcell hBB4
  have hm0 : w.heap.size < w4.heap.size := by omega
  have hm1 : w.heap.size + 1 < w4.heap.size := by omega
  go_wp2_with fail
  go_ret
  exact ⟨rfl, hB4⟩
namespace fnExactFitsBerth
set_option maxRecDepth 100000 in
theorem lifted (os : Os) (started : os.Started) (H : Type) (enc : TypeId × Value → H) :
    ReturnsInHanded {} Try.checked os 3 .any (Rows.fnExactFitsBerthSpec.pre6 enc Try.prog Try.f3 Rows.fnExactFitsBerthRow.domain false) (Rows.fnExactFitsBerthSpec.post enc Try.prog Try.f3 false true false false) := by
  refine returnsInHanded_of_change (C := Try.checked) own started (by kernel_rfl) Try.func3
    (ChangeSpec.witness6 (enc := enc) (C := Try.checked) false ⟨#[], #[.agg #[.string ⟨#[]⟩, .int .i64 0, .int .i64 0], .agg #[.string ⟨#[]⟩, .int .i64 0, .int .i64 0, .int .i64 0, .int .i64 0, .bool false]], []⟩ 8 (by kernel_rfl) (by kernel_rfl) (by kernel_rfl) (by kernel_rfl)) ?_
  intro W base args ds gs before hval0 hW hcnd _
  have hval : ∀ (j : Nat) t v, Try.f3.params[j]? = some t → args[j]? = some v → Value.okWide Try.prog W .any base t v := hval0
  have hW' := hW
  obtain ⟨p, q, hA0, hV, hbef, hfz, hnd⟩ := hW
  have hA : DataW.TrodAll enc Try.prog W 0 (fun _ => true) true Try.f3.params.toList args.toList ds p := hA0
  rw [Try.params3] at hA hval
  obtain ⟨v0, vs0, d0, ds0, p0, q0, hargs, rfl, hp0, h0, r0⟩ := trodAll_cons hA
  obtain ⟨v1, vs1, d1, ds1, p1, q1, rfl, rfl, hp1, h1, r1⟩ := trodAll_cons r0
  obtain ⟨rfl, rfl, hpn⟩ := trodAll_nil r1
  obtain rfl : args = #[v0, v1] := by cases args; simp_all
  obtain ⟨rfl, rfl⟩ := trodVars_none hV
  obtain ⟨a0, rfl, w0⟩ := openBerth (hval 0 23 v0 rfl rfl) h0
  obtain ⟨a1, rfl, w1⟩ := openShip (hval 1 25 v1 rfl rfl) h1
  refine (FnExactFitsBerth_walk W a0 w0 a1 w1).mono fun e W' ⟨he, hg⟩ => ?_
  subst he
  exact ⟨_, rfl, post_law laidOut (by kernel_rfl) rfl Try.underlying4 rfl ⟨rfl, rfl, rfl⟩ hW' hg⟩
theorem proved : Rows.FnExactFitsBerthSaid :=
  OpenClaim.holds_of_wide 3 Try.f3 rfl rfl rfl rfl rfl rfl rfl ⟨rfl, rfl, rfl, rfl, rfl⟩ rfl rfl rfl rfl rfl (by kernel_rfl) Try.func3 (by kernel_rfl)
    (of_decide_eq_true (by kernel_rfl)) (by unfold Func.isWrapper; first | (rw [if_pos (by decide +kernel)]; kernel_rfl) | (rw [if_neg (by decide +kernel)]; exact ⟨rfl, rfl⟩))
    (fun os started H enc _ => lifted os started H enc)
end fnExactFitsBerth
end Go.Proofs.Ytjfppjhlkeopnaa
