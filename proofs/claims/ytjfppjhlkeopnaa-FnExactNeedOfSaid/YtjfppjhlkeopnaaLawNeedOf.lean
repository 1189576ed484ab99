/- The law FnExactNeedOf: for every input it returns true and leaves its arguments as they were. No condition. -/
import Derived.Test.YtjfppjhlkeopnaaNeed
namespace Go.Proofs.Ytjfppjhlkeopnaa
open Go.RowKit Go.WideShapes Go.ChangeShapes Go.ChangeAt Go.Joins Go.Deep
set_option linter.unusedVariables false
set_option maxRecDepth 100000 in
set_option maxHeartbeats 4000000 in
theorem FnExactNeedOf_walk (w : World) (a : ShipD) (hoka : a.ok) :
    Calls Try.prog 6 #[a.val] w fun e w' => e = .returned (.bool true) ∧ Below w.heap.size w w' := by
  go_enter Try.func6, Try.ntmps6
  go_wp2_with fail
  generalize hW0 : (w.alloc (.cells #[.string a.name, .int .i64 a.length, .int .i64 a.draught, .int .i64 a.line, .int .i64 a.tugs, .bool a.slow] 25)) = W0
  have hB0 : Below w.heap.size w W0 := by rw [← hW0]; exact (by repeat (first | exact Below.refl _ _ | assumption | refine Below.setCell ?_ (by first | omega | (simp <;> omega)) _ | refine Below.alloc ?_ (by first | omega | (simp <;> omega)) _ | refine below_drewN ?_ _ | refine Below.drew ?_ | refine Below.trans ?_ (Below.mono (by assumption) (by first | omega | (simp <;> omega)))))
  have hl0 : w.heap.size < W0.heap.size := by rw [← hW0]; simp <;> omega
  have hx0_0 : W0.cell? ⟨w.heap.size, 0, none⟩ = some (.string a.name) := by rw [← hW0]; simp
  have hx0_1 : W0.cell? ⟨w.heap.size, 1, none⟩ = some (.int .i64 a.length) := by rw [← hW0]; simp
  have hx0_2 : W0.cell? ⟨w.heap.size, 2, none⟩ = some (.int .i64 a.draught) := by rw [← hW0]; simp
  have hx0_3 : W0.cell? ⟨w.heap.size, 3, none⟩ = some (.int .i64 a.line) := by rw [← hW0]; simp
  have hx0_4 : W0.cell? ⟨w.heap.size, 4, none⟩ = some (.int .i64 a.tugs) := by rw [← hW0]; simp
  have hx0_5 : W0.cell? ⟨w.heap.size, 5, none⟩ = some (.bool a.slow) := by rw [← hW0]; simp
  have s0 := hB0.size
  clear hW0
  have hBB0 := Below.refl W0.heap.size W0
  obtain ⟨hc, hf⟩ := bcell hBB0
  go_wp2_with fail
  refine (szShip_any a.name a.length a.draught a.line a.tugs a.slow 1048576 _ (ShipD.ok_size hoka) (by omega) (by omega)).mono ?_; rintro e w1 ⟨z1, rfl, hz1, hm1, hb1⟩
  have s1 := hb1.size
  have hB1 := bnext hB0 hb1 (Nat.le_refl _)
  have hBB1 := bnext hBB0 hb1 (Nat.le_refl _)
  clear hc hf
  obtain ⟨hc, hf⟩ := bcell hBB1
  have hm0 : w.heap.size < w1.heap.size := by omega
  by_cases hn1 : z1 < 0
  · clear hz1
    go_wp2_with fail
    go_ret
    exact ⟨rfl, hB1⟩
  obtain ⟨p1, q1⟩ := hz1 (by omega)
  go_wp2_with fail
  refine (toShip_any _ _ _ _ _ _ _).mono ?_; rintro e w2 ⟨rfl, hb2⟩
  have s2 := hb2.size
  have hB2 := bnext hB1 hb2 (Nat.le_refl _)
  have hBB2 := bnext hBB1 hb2 (Nat.le_refl _)
  clear hc hf
  obtain ⟨hc, hf⟩ := bcell hBB2
  have hm0 : w.heap.size < w2.heap.size := by omega
  go_wp2_with fail
  refine (spec_NeedOf_any _ _ _ _ _ _ _ (ShipD.ok_size hoka)).mono ?_; rintro e w3 ⟨rfl, hb3⟩
  have s3 := hb3.size
  have hB3 := bnext hB2 hb3 (Nat.le_refl _)
  have hBB3 := bnext hBB2 hb3 (Nat.le_refl _)
  clear hc hf
  obtain ⟨hc, hf⟩ := bcell hBB3
  have hm0 : w.heap.size < w3.heap.size := by omega
  go_wp2_with fail
  refine (toShip_any _ _ _ _ _ _ _).mono ?_; rintro e w4 ⟨rfl, hb4⟩
  have s4 := hb4.size
  have hB4 := bnext hB3 hb4 (Nat.le_refl _)
  have hBB4 := bnext hBB3 hb4 (Nat.le_refl _)
  clear hc hf
  obtain ⟨hc, hf⟩ := bcell hBB4
  have hm0 : w.heap.size < w4.heap.size := by omega
  go_wp2_with fail
  refine (impl_NeedOf_any _ _ _ _ _ _ _ (ShipD.ok_size hoka)).mono ?_; rintro e w5 ⟨rfl, hb5⟩
  have s5 := hb5.size
  have hB5 := bnext hB4 hb5 (Nat.le_refl _)
  have hBB5 := bnext hBB4 hb5 (Nat.le_refl _)
  clear hc hf
  obtain ⟨hc, hf⟩ := bcell hBB5
  have hm0 : w.heap.size < w5.heap.size := by omega
  go_wp2_with fail
  go_ret
  exact ⟨rfl, hB5⟩
namespace fnExactNeedOf
set_option maxRecDepth 100000 in
theorem lifted (os : Os) (started : os.Started) (H : Type) (enc : TypeId × Value → H) :
    ReturnsInHanded {} Try.checked os 6 .any (Rows.fnExactNeedOfSpec.pre6 enc Try.prog Try.f6 Rows.fnExactNeedOfRow.domain false) (Rows.fnExactNeedOfSpec.post enc Try.prog Try.f6 false true false false) := by
  refine returnsInHanded_of_change (C := Try.checked) own started (by kernel_rfl) Try.func6
    (ChangeSpec.witness6 (enc := enc) (C := Try.checked) false ⟨#[], #[.agg #[.string ⟨#[]⟩, .int .i64 0, .int .i64 0, .int .i64 0, .int .i64 0, .bool false]], []⟩ 8 (by kernel_rfl) (by kernel_rfl) (by kernel_rfl) (by kernel_rfl)) ?_
  intro W base args ds gs before hval0 hW hcnd _
  have hval : ∀ (j : Nat) t v, Try.f6.params[j]? = some t → args[j]? = some v → Value.okWide Try.prog W .any base t v := hval0
  have hW' := hW
  obtain ⟨p, q, hA0, hV, hbef, hfz, hnd⟩ := hW
  have hA : DataW.TrodAll enc Try.prog W 0 (fun _ => true) true Try.f6.params.toList args.toList ds p := hA0
  rw [Try.params6] at hA hval
  obtain ⟨v0, vs0, d0, ds0, p0, q0, hargs, rfl, hp0, h0, r0⟩ := trodAll_cons hA
  obtain ⟨rfl, rfl, hpn⟩ := trodAll_nil r0
  obtain rfl : args = #[v0] := by cases args; simp_all
  obtain ⟨rfl, rfl⟩ := trodVars_none hV
  obtain ⟨a0, rfl, w0⟩ := openShip (hval 0 25 v0 rfl rfl) h0
  refine (FnExactNeedOf_walk W a0 w0).mono fun e W' ⟨he, hg⟩ => ?_
  subst he
  exact ⟨_, rfl, post_law laidOut (by kernel_rfl) rfl Try.underlying4 rfl ⟨rfl, rfl, rfl⟩ hW' hg⟩
theorem proved : Rows.FnExactNeedOfSaid :=
  OpenClaim.holds_of_wide 6 Try.f6 rfl rfl rfl rfl rfl rfl rfl ⟨rfl, rfl, rfl, rfl, rfl⟩ rfl rfl rfl rfl rfl (by kernel_rfl) Try.func6 (by kernel_rfl)
    (of_decide_eq_true (by kernel_rfl)) (by unfold Func.isWrapper; first | (rw [if_pos (by decide +kernel)]; kernel_rfl) | (rw [if_neg (by decide +kernel)]; exact ⟨rfl, rfl⟩))
    (fun os started H enc _ => lifted os started H enc)
end fnExactNeedOf
end Go.Proofs.Ytjfppjhlkeopnaa
