/- A voyage under construction: three slices in one struct. The program's voyage of a ship on a route. The program's sailing of a voyage from a minute. SailRoute and FirstSail: the program's text. Sailing a route: the contracts with their results named. No condition. -/
import Derived.Test.YtpbcbdjjpkenjaaGreatSailAll
import Derived.Test.YtpbcbdjjpkenjaaGreatStepCall
import Derived.Test.YtpbcbdjjpkenjaaGreatUntil
namespace Go.Proofs.YtpbcbdjjpkenjaaGreat
open Go.RowKit
set_option linter.unusedVariables false
abbrev encBo : Bool → List Value := fun b => [.bool b]
theorem encBo_len (b : Bool) : (encBo b).length = 1 := rfl
theorem encBo_one (x : Bool) : ∀ u ∈ encBo x, u.oneCell' = true := by intro u hu; simp at hu; subst hu; rfl
theorem boolV_info : (Tryz.prog.info? 4).map (fun i => (i.zero, i.size, i.bytes)) = some (some (.bool false), 1, 1) := by kernel_rfl
structure VoySt (w : World) (X P : Nat) (vw vm vs : Value) (ws : List Bool) (ms : List Int) (rs : List WinR) : Prop where
  c0 : w.cell? ⟨X, 0, none⟩ = some vw
  c1 : w.cell? ⟨X, 1, none⟩ = some vm
  c2 : w.cell? ⟨X, 2, none⟩ = some vs
  f0 : w.frozen? ⟨X, 0, none⟩ = false
  f1 : w.frozen? ⟨X, 1, none⟩ = false
  f2 : w.frozen? ⟨X, 2, none⟩ = false
  hX : X < P
  hl : P ≤ w.heap.size
  ow : Own w P 4 1 encBo vw ws
  om : Own w P 3 1 encI vm ms
  os : OwnWW w P vs rs
theorem VoySt.below {w w' : World} {X P : Nat} {vw vm vs : Value} {ws : List Bool} {ms : List Int} {rs : List WinR} (h : VoySt w X P vw vm vs ws ms rs) (hb : Below w.heap.size w w') : VoySt w' X P vw vm vs ws ms rs :=
  have hx := Nat.lt_of_lt_of_le h.hX h.hl
  ⟨cellKeep hb h.c0 hx, cellKeep hb h.c1 hx, cellKeep hb h.c2 hx, frozenKeep hb h.f0 hx, frozenKeep hb h.f1 hx, frozenKeep hb h.f2 hx, h.hX, Nat.le_trans h.hl hb.size, h.ow.below hb, h.om.below hb, h.os.below hb⟩
theorem Own.neX {α : Type} {w : World} {X P sz : Nat} {T : TypeId} {enc : α → List Value} {v : Value} {xs : List α} (h : Own w P T sz enc v xs) (hX : X < P) : v.ownBlock ≠ some X := fun e => by have := (World.ownsRow.lt h X e).1; omega
theorem OwnWW.setFar {w : World} {X P : Nat} {v : Value} {rs : List WinR} (h : OwnWW w P v rs) (hX : X < P) (o : Nat) (u : Value) : OwnWW (w.setCell ⟨X, o, none⟩ u) P v rs :=
  ⟨h.1.setFar (h.1.neX hX) u, fun r hr => (h.2 r hr).setFar ((h.2 r hr).neX hX) u⟩
theorem OwnWW.kept {w w' : World} {base : Nat} {v : Value} {rs : List WinR} {row : Option Nat} (h : OwnWW w base v rs) (hg : w.grownBy w' row) (h1 : ∀ g, v.ownBlock = some g → row ≠ some g) (h2 : ∀ r ∈ rs, ∀ g, r.v.ownBlock = some g → row ≠ some g) : OwnWW w' base v rs :=
  ⟨rowKeepW h.1 hg h1, fun r hr => rowKeepW (h.2 r hr) hg (h2 r hr)⟩
theorem VoySt.cells {w w' : World} {X P : Nat} {vw vm vs : Value} {ws : List Bool} {ms : List Int} {rs : List WinR} (h : VoySt w X P vw vm vs ws ms rs) (hb : Below P w w') :
    w'.cell? ⟨X, 0, none⟩ = some vw ∧ w'.cell? ⟨X, 1, none⟩ = some vm ∧ w'.cell? ⟨X, 2, none⟩ = some vs ∧ w'.frozen? ⟨X, 0, none⟩ = false ∧ w'.frozen? ⟨X, 1, none⟩ = false ∧ w'.frozen? ⟨X, 2, none⟩ = false :=
  ⟨cellKeep hb h.c0 h.hX, cellKeep hb h.c1 h.hX, cellKeep hb h.c2 h.hX, frozenKeep hb h.f0 h.hX, frozenKeep hb h.f1 h.hX, frozenKeep hb h.f2 h.hX⟩
theorem VoySt.addW {w w' : World} {X P : Nat} {vw vm vs v' : Value} {ws ws' : List Bool} {ms : List Int} {rs : List WinR} (h : VoySt w X P vw vm vs ws ms rs) (hg : w.grownBy w' vw.ownBlock) (ho : Own w' P 4 1 encBo v' ws') : Below P w w' ∧ VoySt (w'.setCell ⟨X, 0, none⟩ v') X P v' vm vs ws' ms rs := by
  have hl := h.hl
  have hb : Below P w w' := Own.belowGrown (B := P) h.ow hg (Nat.le_refl _) (by omega)
  obtain ⟨y0, y1, y2, r0, r1, r2⟩ := h.cells hb
  refine ⟨hb, by simp [go_sem, y0], by simp [go_sem, y1], by simp [go_sem, y2], by simp [go_sem, r0], by simp [go_sem, r1], by simp [go_sem, r2], h.hX, by have := hb.size; simp [World.setCell]; omega, ho.setFar (ho.neX h.hX) _, ?_, ?_⟩
  · have := (show Own w' P 3 1 encI vm ms from rowKeepW h.om hg (types_neW h.om h.ow (by decide)))
    exact this.setFar (this.neX h.hX) _
  · exact (h.os.kept hg (types_neW h.os.1 h.ow (by decide)) (fun r hr => types_neW (h.os.2 r hr) h.ow (by decide))).setFar h.hX _ _
theorem VoySt.addM {w w' : World} {X P : Nat} {vw vm vs v' : Value} {ws : List Bool} {ms ms' : List Int} {rs : List WinR} (h : VoySt w X P vw vm vs ws ms rs) (hg : w.grownBy w' vm.ownBlock) (ho : Own w' P 3 1 encI v' ms') : Below P w w' ∧ VoySt (w'.setCell ⟨X, 1, none⟩ v') X P vw v' vs ws ms' rs := by
  have hl := h.hl
  have hb : Below P w w' := Own.belowGrown (B := P) h.om hg (Nat.le_refl _) (by omega)
  obtain ⟨y0, y1, y2, r0, r1, r2⟩ := h.cells hb
  refine ⟨hb, by simp [go_sem, y0], by simp [go_sem, y1], by simp [go_sem, y2], by simp [go_sem, r0], by simp [go_sem, r1], by simp [go_sem, r2], h.hX, by have := hb.size; simp [World.setCell]; omega, ?_, ho.setFar (ho.neX h.hX) _, ?_⟩
  · have := (show Own w' P 4 1 encBo vw ws from rowKeepW h.ow hg (types_neW h.ow h.om (by decide)))
    exact this.setFar (this.neX h.hX) _
  · exact (h.os.kept hg (types_neW h.os.1 h.om (by decide)) (fun r hr => types_neW (h.os.2 r hr) h.om (by decide))).setFar h.hX _ _
theorem VoySt.addS {w w' : World} {X P : Nat} {vw vm vs v' : Value} {ws : List Bool} {ms : List Int} {rs : List WinR} {r : WinR} (h : VoySt w X P vw vm vs ws ms rs) (hr : Own w P 94 2 WindowD.enc r.v r.xs) (hg : w.grownBy w' vs.ownBlock) (ho : Own w' P 37 1 WinR.enc v' (rs ++ [r])) : Below P w w' ∧ VoySt (w'.setCell ⟨X, 2, none⟩ v') X P vw vm v' ws ms (rs ++ [r]) := by
  have hl := h.hl
  have hb : Below P w w' := Own.belowGrown (B := P) h.os.1 hg (Nat.le_refl _) (by omega)
  obtain ⟨y0, y1, y2, r0, r1, r2⟩ := h.cells hb
  refine ⟨hb, by simp [go_sem, y0], by simp [go_sem, y1], by simp [go_sem, y2], by simp [go_sem, r0], by simp [go_sem, r1], by simp [go_sem, r2], h.hX, by have := hb.size; simp [World.setCell]; omega, ?_, ?_, ?_⟩
  · have := (show Own w' P 4 1 encBo vw ws from rowKeepW h.ow hg (types_neW h.ow h.os.1 (by decide)))
    exact this.setFar (this.neX h.hX) _
  · have := (show Own w' P 3 1 encI vm ms from rowKeepW h.om hg (types_neW h.om h.os.1 (by decide)))
    exact this.setFar (this.neX h.hX) _
  · exact (h.os.snoc hr ho hg).setFar h.hX _ _
theorem CurW.setX {X : Nat} {w w' : World} (h : CurW X w w') (o : Nat) (u : Value) : CurW X w (w'.setCell ⟨X, o, none⟩ u) :=
  ⟨h.os, h.tape, h.output, by simpa [World.setCell] using h.size, fun q hq hn => (Below.heap_setCell w' ⟨X, o, none⟩ u q (fun e => hn (by rw [e]))).trans (h.block q hq hn)⟩
def mapR {α : Type} (g : Nat → α) (n : Nat) : List α := (List.range n).map g
theorem mapR_succ {α : Type} (g : Nat → α) (n : Nat) : mapR g (n + 1) = mapR g n ++ [g n] := by simp [mapR, List.range_succ]
theorem mapR_len {α : Type} (g : Nat → α) (n : Nat) : (mapR g n).length = n := by simp [mapR]
theorem mapR_at {α : Type} (g : Nat → α) {n i : Nat} (h : i < (mapR g n).length) : (mapR g n)[i] = g i := by simp [mapR]
def VoyRes (f : ForeD) (c : ChartD) (s : ShipD) (p : Int) (r : List Int) (w : World) (e : Ending) (w' : World) : Prop :=
  (sailOk f c s p r = false ∧ e = .returned (.tuple #[.agg #[.slice none 0 0, .slice none 0 0, .slice none 0 0], .bool false]) ∧ Below w.heap.size w w') ∨
  (sailOk f c s p r = true ∧ ∃ vw vm vs rs, e = .returned (.tuple #[.agg #[vw, vm, vs], .bool true]) ∧ Own w' w.heap.size 4 1 encBo vw (mapR (rWait c (routePts c p r)) r.length) ∧ Own w' w.heap.size 3 1 encI vm (mapR (rMins c s r) r.length) ∧ OwnWW w' w.heap.size vs rs ∧ StartsIs f c s r r.length rs ∧ Below w.heap.size w w')
set_option maxRecDepth 100000 in
set_option maxHeartbeats 32000000 in
theorem impl_voyageOf_any (v1 v2 v3 v4 v5 : Value) (f : ForeD) (c : ChartD) (s : ShipD) (p : Int) (r : List Int) (w : World) (h : RdFore w w.heap.size v1 v2 f) (hch : RdChart w w.heap.size v3 v4 c) (hr : RdI w v5 r) (hn : r.length ≤ 1048576) (hokp : ∀ x ∈ c.points, x.name.size ≤ maxLen) (hs : s.name.size ≤ maxLen) :
    Calls Tryz.prog 71 #[.agg #[.int .i64 f.m0, v1, v2], .agg #[v3, v4], s.val, .int .i64 p, v5] w (VoyRes f c s p r w) := by
  have HFR := hide h; have HCR := hide hch; have HRR := hide hr; have HOKP := hide hokp; have HN := hide hn
  obtain ⟨m0, ps, ss⟩ := f
  obtain ⟨x0, x1, x2, x3, x4, x5⟩ := s
  obtain ⟨h1, h2⟩ := h
  obtain ⟨h3, h4⟩ := hch
  simp only at h1 h2 hs HFR ⊢
  have HS := hide hs
  obtain ⟨A1, c1, rfl, -, -, -⟩ := h1
  obtain ⟨A2, c2, rfl, -, -, -⟩ := h2
  obtain ⟨A3, c3, rfl, -, -, -⟩ := h3
  obtain ⟨A4, c4, rfl, -, -, -⟩ := h4
  obtain ⟨A5, c5, rfl, hc5, hm5, -⟩ := hr
  unfold maxLen at hm5
  clear hokp hs
  go_enter Tryz.func71, Tryz.ntmps71
  go_wp2_with fail
  obtain ⟨W0, hW0⟩ : ∃ W, ((((w.alloc (.cells #[.int .i64 m0, .slice A1 ps.length c1, .slice A2 ss.length c2] 44)).alloc (.cells #[.slice A3 c.points.length c3, .slice A4 c.segs.length c4] 49)).alloc (.cells #[.string x0, .int .i64 x1, .int .i64 x2, .int .i64 x3, .int .i64 x4, .bool x5] 51)).alloc (.cells #[.slice none 0 0, .slice none 0 0, .slice none 0 0] 114)) = W := ⟨_, rfl⟩
  have hb0 : Below w.heap.size w W0 := by rw [← hW0]; exact (by repeat (first | exact Below.refl _ _ | assumption | refine Below.setCell ?_ (by first | omega | (simp <;> omega)) _ | refine Below.alloc ?_ (by first | omega | (simp <;> omega)) _ | refine below_drewN ?_ _ | refine Below.drew ?_ | refine Below.trans ?_ (Below.mono (by assumption) (by first | omega | (simp <;> omega)))))
  have hl0 : w.heap.size + 4 ≤ W0.heap.size := by rw [← hW0]; simp
  have z0 : W0.cell? ⟨w.heap.size, 0, none⟩ = some (.int .i64 m0) := by rw [← hW0]; simp [go_sem]
  have z1 : W0.cell? ⟨w.heap.size, 1, none⟩ = some (.slice A1 ps.length c1) := by rw [← hW0]; simp [go_sem]
  have z2 : W0.cell? ⟨w.heap.size, 2, none⟩ = some (.slice A2 ss.length c2) := by rw [← hW0]; simp [go_sem]
  have z3 : W0.cell? ⟨w.heap.size + 1, 0, none⟩ = some (.slice A3 c.points.length c3) := by rw [← hW0]; simp [go_sem]
  have z4 : W0.cell? ⟨w.heap.size + 1, 1, none⟩ = some (.slice A4 c.segs.length c4) := by rw [← hW0]; simp [go_sem]
  have z5 : W0.cell? ⟨w.heap.size + 2, 0, none⟩ = some (.string x0) := by rw [← hW0]; simp [go_sem]
  have z6 : W0.cell? ⟨w.heap.size + 2, 1, none⟩ = some (.int .i64 x1) := by rw [← hW0]; simp [go_sem]
  have z7 : W0.cell? ⟨w.heap.size + 2, 2, none⟩ = some (.int .i64 x2) := by rw [← hW0]; simp [go_sem]
  have z8 : W0.cell? ⟨w.heap.size + 2, 3, none⟩ = some (.int .i64 x3) := by rw [← hW0]; simp [go_sem]
  have z9 : W0.cell? ⟨w.heap.size + 2, 4, none⟩ = some (.int .i64 x4) := by rw [← hW0]; simp [go_sem]
  have z10 : W0.cell? ⟨w.heap.size + 2, 5, none⟩ = some (.bool x5) := by rw [← hW0]; simp [go_sem]
  have ZR := hide (show (W0.cell? ⟨w.heap.size + 3, 0, none⟩ = some (.slice none 0 0) ∧ W0.cell? ⟨w.heap.size + 3, 1, none⟩ = some (.slice none 0 0) ∧ W0.cell? ⟨w.heap.size + 3, 2, none⟩ = some (.slice none 0 0)) ∧ W0.frozen? ⟨w.heap.size + 3, 0, none⟩ = false ∧ W0.frozen? ⟨w.heap.size + 3, 1, none⟩ = false ∧ W0.frozen? ⟨w.heap.size + 3, 2, none⟩ = false by rw [← hW0]; exact ⟨⟨by simp [go_sem], by simp [go_sem], by simp [go_sem]⟩, by simp [go_sem], by simp [go_sem], by simp [go_sem]⟩)
  rw [hW0]
  clear hW0
  have Z := hide (show W0.cell? ⟨w.heap.size, 0, none⟩ = some (.int .i64 m0) ∧ W0.cell? ⟨w.heap.size, 1, none⟩ = some (.slice A1 ps.length c1) ∧ W0.cell? ⟨w.heap.size, 2, none⟩ = some (.slice A2 ss.length c2) ∧ W0.cell? ⟨w.heap.size + 1, 0, none⟩ = some (.slice A3 c.points.length c3) ∧ W0.cell? ⟨w.heap.size + 1, 1, none⟩ = some (.slice A4 c.segs.length c4) ∧ W0.cell? ⟨w.heap.size + 2, 0, none⟩ = some (.string x0) ∧ W0.cell? ⟨w.heap.size + 2, 1, none⟩ = some (.int .i64 x1) ∧ W0.cell? ⟨w.heap.size + 2, 2, none⟩ = some (.int .i64 x2) ∧ W0.cell? ⟨w.heap.size + 2, 3, none⟩ = some (.int .i64 x3) ∧ W0.cell? ⟨w.heap.size + 2, 4, none⟩ = some (.int .i64 x4) ∧ W0.cell? ⟨w.heap.size + 2, 5, none⟩ = some (.bool x5) from ⟨z0, z1, z2, z3, z4, z5, z6, z7, z8, z9, z10⟩)
  have HB0 := hide (Below.refl W0.heap.size W0)
  clear z0 z1 z2 z3 z4 z5 z6 z7 z8 z9 z10
  have HBW0 := hide hb0
  rcases hok : sailOk ⟨m0, ps, ss⟩ c ⟨x0, x1, x2, x3, x4, x5⟩ p r with _ | _
  · have HNOK := hide (show sailOk ⟨m0, ps, ss⟩ c ⟨x0, x1, x2, x3, x4, x5⟩ p r = false from by exact hok)
    have hcase := sailOk_no hok
    clear hok
    rcases hcase with g1 | ⟨g1, g2⟩ | ⟨g1, g2, g3⟩ | ⟨g1, g2, g3, g4⟩
    · have G1 := hide g1; clear g1
      refine (impl_ForecastOk_any _ _ ⟨m0, ps, ss⟩ _ ((HFR.out.keep HBW0.out (Nat.le_refl _)).mono HBW0.out.size)).mono ?_
      rintro e w1 ⟨rfl, hb1⟩
      rw [G1.out]
      have HB1 := hide (bnext HB0.out hb1 (Nat.le_refl _))
      have HBW1 := hide (hb0.trans (HB1.out.mono (show w.heap.size ≤ W0.heap.size by omega)))
      have s1 := HB1.out.size
      clear hb1
      have y0 := cellKeep HB1.out Z.out.1 (by omega)
      have y1 := cellKeep HB1.out Z.out.2.1 (by omega)
      have y2 := cellKeep HB1.out Z.out.2.2.1 (by omega)
      have y3 := cellKeep HB1.out Z.out.2.2.2.1 (by omega)
      have y4 := cellKeep HB1.out Z.out.2.2.2.2.1 (by omega)
      have y5 := cellKeep HB1.out Z.out.2.2.2.2.2.1 (by omega)
      have y6 := cellKeep HB1.out Z.out.2.2.2.2.2.2.1 (by omega)
      have y7 := cellKeep HB1.out Z.out.2.2.2.2.2.2.2.1 (by omega)
      have y8 := cellKeep HB1.out Z.out.2.2.2.2.2.2.2.2.1 (by omega)
      have y9 := cellKeep HB1.out Z.out.2.2.2.2.2.2.2.2.2.1 (by omega)
      have y10 := cellKeep HB1.out Z.out.2.2.2.2.2.2.2.2.2.2 (by omega)
      have rc0 := cellKeep HB1.out ZR.out.1.1 (by omega); have rf0 := frozenKeep HB1.out ZR.out.2.1 (by omega)
      have rc1 := cellKeep HB1.out ZR.out.1.2.1 (by omega); have rf1 := frozenKeep HB1.out ZR.out.2.2.1 (by omega)
      have rc2 := cellKeep HB1.out ZR.out.1.2.2 (by omega); have rf2 := frozenKeep HB1.out ZR.out.2.2.2 (by omega)
      go_wp2
      have hwx : w.heap.size + 3 < w1.heap.size := by omega
      exact bodyPost_ret (v := .tuple #[.agg #[.slice none 0 0, .slice none 0 0, .slice none 0 0], .bool false]) (by simp [results, Tryz.results71, go_sem, rc0, rc1, rc2]) rfl (.inl ⟨HNOK.out, rfl, ((HBW1.out.setCell (by simp <;> omega) _).setCell (by simp <;> omega) _).setCell (by simp <;> omega) _⟩)
    · have G1 := hide g1; have G2 := hide g2; clear g1 g2
      refine (impl_ForecastOk_any _ _ ⟨m0, ps, ss⟩ _ ((HFR.out.keep HBW0.out (Nat.le_refl _)).mono HBW0.out.size)).mono ?_
      rintro e w1 ⟨rfl, hb1⟩
      rw [G1.out]
      have HB1 := hide (bnext HB0.out hb1 (Nat.le_refl _))
      have HBW1 := hide (hb0.trans (HB1.out.mono (show w.heap.size ≤ W0.heap.size by omega)))
      have s1 := HB1.out.size
      clear hb1
      have y0 := cellKeep HB1.out Z.out.1 (by omega)
      have y1 := cellKeep HB1.out Z.out.2.1 (by omega)
      have y2 := cellKeep HB1.out Z.out.2.2.1 (by omega)
      have y3 := cellKeep HB1.out Z.out.2.2.2.1 (by omega)
      have y4 := cellKeep HB1.out Z.out.2.2.2.2.1 (by omega)
      have y5 := cellKeep HB1.out Z.out.2.2.2.2.2.1 (by omega)
      have y6 := cellKeep HB1.out Z.out.2.2.2.2.2.2.1 (by omega)
      have y7 := cellKeep HB1.out Z.out.2.2.2.2.2.2.2.1 (by omega)
      have y8 := cellKeep HB1.out Z.out.2.2.2.2.2.2.2.2.1 (by omega)
      have y9 := cellKeep HB1.out Z.out.2.2.2.2.2.2.2.2.2.1 (by omega)
      have y10 := cellKeep HB1.out Z.out.2.2.2.2.2.2.2.2.2.2 (by omega)
      go_wp2_with fail
      refine (impl_ShipOk_any _ _ _ _ _ _ _ HS.out).mono ?_
      rintro e w2 ⟨rfl, hb2⟩
      rw [G2.out]
      have HB2 := hide (bnext HB1.out hb2 (Nat.le_refl _))
      have HBW2 := hide (hb0.trans (HB2.out.mono (show w.heap.size ≤ W0.heap.size by omega)))
      have s2 := HB2.out.size
      clear hb2 y0 y1 y2 y3 y4 y5 y6 y7 y8 y9 y10
      have y0 := cellKeep HB2.out Z.out.1 (by omega)
      have y1 := cellKeep HB2.out Z.out.2.1 (by omega)
      have y2 := cellKeep HB2.out Z.out.2.2.1 (by omega)
      have y3 := cellKeep HB2.out Z.out.2.2.2.1 (by omega)
      have y4 := cellKeep HB2.out Z.out.2.2.2.2.1 (by omega)
      have y5 := cellKeep HB2.out Z.out.2.2.2.2.2.1 (by omega)
      have y6 := cellKeep HB2.out Z.out.2.2.2.2.2.2.1 (by omega)
      have y7 := cellKeep HB2.out Z.out.2.2.2.2.2.2.2.1 (by omega)
      have y8 := cellKeep HB2.out Z.out.2.2.2.2.2.2.2.2.1 (by omega)
      have y9 := cellKeep HB2.out Z.out.2.2.2.2.2.2.2.2.2.1 (by omega)
      have y10 := cellKeep HB2.out Z.out.2.2.2.2.2.2.2.2.2.2 (by omega)
      have rc0 := cellKeep HB2.out ZR.out.1.1 (by omega); have rf0 := frozenKeep HB2.out ZR.out.2.1 (by omega)
      have rc1 := cellKeep HB2.out ZR.out.1.2.1 (by omega); have rf1 := frozenKeep HB2.out ZR.out.2.2.1 (by omega)
      have rc2 := cellKeep HB2.out ZR.out.1.2.2 (by omega); have rf2 := frozenKeep HB2.out ZR.out.2.2.2 (by omega)
      go_wp2
      have hwx : w.heap.size + 3 < w2.heap.size := by omega
      exact bodyPost_ret (v := .tuple #[.agg #[.slice none 0 0, .slice none 0 0, .slice none 0 0], .bool false]) (by simp [results, Tryz.results71, go_sem, rc0, rc1, rc2]) rfl (.inl ⟨HNOK.out, rfl, ((HBW2.out.setCell (by simp <;> omega) _).setCell (by simp <;> omega) _).setCell (by simp <;> omega) _⟩)
    · have G1 := hide g1; have G2 := hide g2; have G3 := hide g3; clear g1 g2 g3
      refine (impl_ForecastOk_any _ _ ⟨m0, ps, ss⟩ _ ((HFR.out.keep HBW0.out (Nat.le_refl _)).mono HBW0.out.size)).mono ?_
      rintro e w1 ⟨rfl, hb1⟩
      rw [G1.out]
      have HB1 := hide (bnext HB0.out hb1 (Nat.le_refl _))
      have HBW1 := hide (hb0.trans (HB1.out.mono (show w.heap.size ≤ W0.heap.size by omega)))
      have s1 := HB1.out.size
      clear hb1
      have y0 := cellKeep HB1.out Z.out.1 (by omega)
      have y1 := cellKeep HB1.out Z.out.2.1 (by omega)
      have y2 := cellKeep HB1.out Z.out.2.2.1 (by omega)
      have y3 := cellKeep HB1.out Z.out.2.2.2.1 (by omega)
      have y4 := cellKeep HB1.out Z.out.2.2.2.2.1 (by omega)
      have y5 := cellKeep HB1.out Z.out.2.2.2.2.2.1 (by omega)
      have y6 := cellKeep HB1.out Z.out.2.2.2.2.2.2.1 (by omega)
      have y7 := cellKeep HB1.out Z.out.2.2.2.2.2.2.2.1 (by omega)
      have y8 := cellKeep HB1.out Z.out.2.2.2.2.2.2.2.2.1 (by omega)
      have y9 := cellKeep HB1.out Z.out.2.2.2.2.2.2.2.2.2.1 (by omega)
      have y10 := cellKeep HB1.out Z.out.2.2.2.2.2.2.2.2.2.2 (by omega)
      go_wp2_with fail
      refine (impl_ShipOk_any _ _ _ _ _ _ _ HS.out).mono ?_
      rintro e w2 ⟨rfl, hb2⟩
      rw [G2.out]
      have HB2 := hide (bnext HB1.out hb2 (Nat.le_refl _))
      have HBW2 := hide (hb0.trans (HB2.out.mono (show w.heap.size ≤ W0.heap.size by omega)))
      have s2 := HB2.out.size
      clear hb2 y0 y1 y2 y3 y4 y5 y6 y7 y8 y9 y10
      have y0 := cellKeep HB2.out Z.out.1 (by omega)
      have y1 := cellKeep HB2.out Z.out.2.1 (by omega)
      have y2 := cellKeep HB2.out Z.out.2.2.1 (by omega)
      have y3 := cellKeep HB2.out Z.out.2.2.2.1 (by omega)
      have y4 := cellKeep HB2.out Z.out.2.2.2.2.1 (by omega)
      have y5 := cellKeep HB2.out Z.out.2.2.2.2.2.1 (by omega)
      have y6 := cellKeep HB2.out Z.out.2.2.2.2.2.2.1 (by omega)
      have y7 := cellKeep HB2.out Z.out.2.2.2.2.2.2.2.1 (by omega)
      have y8 := cellKeep HB2.out Z.out.2.2.2.2.2.2.2.2.1 (by omega)
      have y9 := cellKeep HB2.out Z.out.2.2.2.2.2.2.2.2.2.1 (by omega)
      have y10 := cellKeep HB2.out Z.out.2.2.2.2.2.2.2.2.2.2 (by omega)
      go_wp2_with fail
      refine (impl_RouteOk_any _ _ _ c p r _ ((HCR.out.keep HBW2.out (Nat.le_refl _)).mono HBW2.out.size) ((RdB.keep HRR.out HBW2.out (Nat.le_refl _)).mono HBW2.out.size) HN.out HOKP.out).mono ?_
      rintro e w3 ⟨rfl, hb3⟩
      rw [G3.out]
      have HB3 := hide (bnext HB2.out hb3 (Nat.le_refl _))
      have HBW3 := hide (hb0.trans (HB3.out.mono (show w.heap.size ≤ W0.heap.size by omega)))
      have s3 := HB3.out.size
      clear hb3 y0 y1 y2 y3 y4 y5 y6 y7 y8 y9 y10
      have y0 := cellKeep HB3.out Z.out.1 (by omega)
      have y1 := cellKeep HB3.out Z.out.2.1 (by omega)
      have y2 := cellKeep HB3.out Z.out.2.2.1 (by omega)
      have y3 := cellKeep HB3.out Z.out.2.2.2.1 (by omega)
      have y4 := cellKeep HB3.out Z.out.2.2.2.2.1 (by omega)
      have y5 := cellKeep HB3.out Z.out.2.2.2.2.2.1 (by omega)
      have y6 := cellKeep HB3.out Z.out.2.2.2.2.2.2.1 (by omega)
      have y7 := cellKeep HB3.out Z.out.2.2.2.2.2.2.2.1 (by omega)
      have y8 := cellKeep HB3.out Z.out.2.2.2.2.2.2.2.2.1 (by omega)
      have y9 := cellKeep HB3.out Z.out.2.2.2.2.2.2.2.2.2.1 (by omega)
      have y10 := cellKeep HB3.out Z.out.2.2.2.2.2.2.2.2.2.2 (by omega)
      have rc0 := cellKeep HB3.out ZR.out.1.1 (by omega); have rf0 := frozenKeep HB3.out ZR.out.2.1 (by omega)
      have rc1 := cellKeep HB3.out ZR.out.1.2.1 (by omega); have rf1 := frozenKeep HB3.out ZR.out.2.2.1 (by omega)
      have rc2 := cellKeep HB3.out ZR.out.1.2.2 (by omega); have rf2 := frozenKeep HB3.out ZR.out.2.2.2 (by omega)
      go_wp2
      have hwx : w.heap.size + 3 < w3.heap.size := by omega
      exact bodyPost_ret (v := .tuple #[.agg #[.slice none 0 0, .slice none 0 0, .slice none 0 0], .bool false]) (by simp [results, Tryz.results71, go_sem, rc0, rc1, rc2]) rfl (.inl ⟨HNOK.out, rfl, ((HBW3.out.setCell (by simp <;> omega) _).setCell (by simp <;> omega) _).setCell (by simp <;> omega) _⟩)
    · have G1 := hide g1; have G2 := hide g2; have G3 := hide g3; clear g1 g2 g3
      have hl01 : ((r.length : Int) == 0) = true := by simp [g4]
      have hl02 : (r.length : Int) = 0 := by omega
      have HR0 := hide g4; clear g4
      refine (impl_ForecastOk_any _ _ ⟨m0, ps, ss⟩ _ ((HFR.out.keep HBW0.out (Nat.le_refl _)).mono HBW0.out.size)).mono ?_
      rintro e w1 ⟨rfl, hb1⟩
      rw [G1.out]
      have HB1 := hide (bnext HB0.out hb1 (Nat.le_refl _))
      have HBW1 := hide (hb0.trans (HB1.out.mono (show w.heap.size ≤ W0.heap.size by omega)))
      have s1 := HB1.out.size
      clear hb1
      have y0 := cellKeep HB1.out Z.out.1 (by omega)
      have y1 := cellKeep HB1.out Z.out.2.1 (by omega)
      have y2 := cellKeep HB1.out Z.out.2.2.1 (by omega)
      have y3 := cellKeep HB1.out Z.out.2.2.2.1 (by omega)
      have y4 := cellKeep HB1.out Z.out.2.2.2.2.1 (by omega)
      have y5 := cellKeep HB1.out Z.out.2.2.2.2.2.1 (by omega)
      have y6 := cellKeep HB1.out Z.out.2.2.2.2.2.2.1 (by omega)
      have y7 := cellKeep HB1.out Z.out.2.2.2.2.2.2.2.1 (by omega)
      have y8 := cellKeep HB1.out Z.out.2.2.2.2.2.2.2.2.1 (by omega)
      have y9 := cellKeep HB1.out Z.out.2.2.2.2.2.2.2.2.2.1 (by omega)
      have y10 := cellKeep HB1.out Z.out.2.2.2.2.2.2.2.2.2.2 (by omega)
      go_wp2_with fail
      refine (impl_ShipOk_any _ _ _ _ _ _ _ HS.out).mono ?_
      rintro e w2 ⟨rfl, hb2⟩
      rw [G2.out]
      have HB2 := hide (bnext HB1.out hb2 (Nat.le_refl _))
      have HBW2 := hide (hb0.trans (HB2.out.mono (show w.heap.size ≤ W0.heap.size by omega)))
      have s2 := HB2.out.size
      clear hb2 y0 y1 y2 y3 y4 y5 y6 y7 y8 y9 y10
      have y0 := cellKeep HB2.out Z.out.1 (by omega)
      have y1 := cellKeep HB2.out Z.out.2.1 (by omega)
      have y2 := cellKeep HB2.out Z.out.2.2.1 (by omega)
      have y3 := cellKeep HB2.out Z.out.2.2.2.1 (by omega)
      have y4 := cellKeep HB2.out Z.out.2.2.2.2.1 (by omega)
      have y5 := cellKeep HB2.out Z.out.2.2.2.2.2.1 (by omega)
      have y6 := cellKeep HB2.out Z.out.2.2.2.2.2.2.1 (by omega)
      have y7 := cellKeep HB2.out Z.out.2.2.2.2.2.2.2.1 (by omega)
      have y8 := cellKeep HB2.out Z.out.2.2.2.2.2.2.2.2.1 (by omega)
      have y9 := cellKeep HB2.out Z.out.2.2.2.2.2.2.2.2.2.1 (by omega)
      have y10 := cellKeep HB2.out Z.out.2.2.2.2.2.2.2.2.2.2 (by omega)
      go_wp2_with fail
      refine (impl_RouteOk_any _ _ _ c p r _ ((HCR.out.keep HBW2.out (Nat.le_refl _)).mono HBW2.out.size) ((RdB.keep HRR.out HBW2.out (Nat.le_refl _)).mono HBW2.out.size) HN.out HOKP.out).mono ?_
      rintro e w3 ⟨rfl, hb3⟩
      rw [G3.out]
      have HB3 := hide (bnext HB2.out hb3 (Nat.le_refl _))
      have HBW3 := hide (hb0.trans (HB3.out.mono (show w.heap.size ≤ W0.heap.size by omega)))
      have s3 := HB3.out.size
      clear hb3 y0 y1 y2 y3 y4 y5 y6 y7 y8 y9 y10
      have y0 := cellKeep HB3.out Z.out.1 (by omega)
      have y1 := cellKeep HB3.out Z.out.2.1 (by omega)
      have y2 := cellKeep HB3.out Z.out.2.2.1 (by omega)
      have y3 := cellKeep HB3.out Z.out.2.2.2.1 (by omega)
      have y4 := cellKeep HB3.out Z.out.2.2.2.2.1 (by omega)
      have y5 := cellKeep HB3.out Z.out.2.2.2.2.2.1 (by omega)
      have y6 := cellKeep HB3.out Z.out.2.2.2.2.2.2.1 (by omega)
      have y7 := cellKeep HB3.out Z.out.2.2.2.2.2.2.2.1 (by omega)
      have y8 := cellKeep HB3.out Z.out.2.2.2.2.2.2.2.2.1 (by omega)
      have y9 := cellKeep HB3.out Z.out.2.2.2.2.2.2.2.2.2.1 (by omega)
      have y10 := cellKeep HB3.out Z.out.2.2.2.2.2.2.2.2.2.2 (by omega)
      have rc0 := cellKeep HB3.out ZR.out.1.1 (by omega); have rf0 := frozenKeep HB3.out ZR.out.2.1 (by omega)
      have rc1 := cellKeep HB3.out ZR.out.1.2.1 (by omega); have rf1 := frozenKeep HB3.out ZR.out.2.2.1 (by omega)
      have rc2 := cellKeep HB3.out ZR.out.1.2.2 (by omega); have rf2 := frozenKeep HB3.out ZR.out.2.2.2 (by omega)
      go_wp2
      have hwx : w.heap.size + 3 < w3.heap.size := by omega
      exact bodyPost_ret (v := .tuple #[.agg #[.slice none 0 0, .slice none 0 0, .slice none 0 0], .bool false]) (by simp [results, Tryz.results71, go_sem, rc0, rc1, rc2]) rfl (.inl ⟨HNOK.out, rfl, ((HBW3.out.setCell (by simp <;> omega) _).setCell (by simp <;> omega) _).setCell (by simp <;> omega) _⟩)
  · obtain ⟨g1, g2, g3, g4⟩ := sailOk_iff hok
    have HOK := hide hok
    have G1 := hide g1; have G2 := hide g2; have G3 := hide g3
    have hl00 : ((r.length : Int) == 0) = false := by simp; intro e; subst e; simp at g4
    have hl02 : ¬ (r.length : Int) = 0 := by omega
    have hr0 : 1 ≤ r.length := g4
    clear g1 g2 g3 g4 hok
    refine (impl_ForecastOk_any _ _ ⟨m0, ps, ss⟩ _ ((HFR.out.keep HBW0.out (Nat.le_refl _)).mono HBW0.out.size)).mono ?_
    rintro e w1 ⟨rfl, hb1⟩
    rw [G1.out]
    have HB1 := hide (bnext HB0.out hb1 (Nat.le_refl _))
    have HBW1 := hide (hb0.trans (HB1.out.mono (show w.heap.size ≤ W0.heap.size by omega)))
    have s1 := HB1.out.size
    clear hb1
    have y0 := cellKeep HB1.out Z.out.1 (by omega)
    have y1 := cellKeep HB1.out Z.out.2.1 (by omega)
    have y2 := cellKeep HB1.out Z.out.2.2.1 (by omega)
    have y3 := cellKeep HB1.out Z.out.2.2.2.1 (by omega)
    have y4 := cellKeep HB1.out Z.out.2.2.2.2.1 (by omega)
    have y5 := cellKeep HB1.out Z.out.2.2.2.2.2.1 (by omega)
    have y6 := cellKeep HB1.out Z.out.2.2.2.2.2.2.1 (by omega)
    have y7 := cellKeep HB1.out Z.out.2.2.2.2.2.2.2.1 (by omega)
    have y8 := cellKeep HB1.out Z.out.2.2.2.2.2.2.2.2.1 (by omega)
    have y9 := cellKeep HB1.out Z.out.2.2.2.2.2.2.2.2.2.1 (by omega)
    have y10 := cellKeep HB1.out Z.out.2.2.2.2.2.2.2.2.2.2 (by omega)
    go_wp2_with fail
    refine (impl_ShipOk_any _ _ _ _ _ _ _ HS.out).mono ?_
    rintro e w2 ⟨rfl, hb2⟩
    rw [G2.out]
    have HB2 := hide (bnext HB1.out hb2 (Nat.le_refl _))
    have HBW2 := hide (hb0.trans (HB2.out.mono (show w.heap.size ≤ W0.heap.size by omega)))
    have s2 := HB2.out.size
    clear hb2 y0 y1 y2 y3 y4 y5 y6 y7 y8 y9 y10
    have y0 := cellKeep HB2.out Z.out.1 (by omega)
    have y1 := cellKeep HB2.out Z.out.2.1 (by omega)
    have y2 := cellKeep HB2.out Z.out.2.2.1 (by omega)
    have y3 := cellKeep HB2.out Z.out.2.2.2.1 (by omega)
    have y4 := cellKeep HB2.out Z.out.2.2.2.2.1 (by omega)
    have y5 := cellKeep HB2.out Z.out.2.2.2.2.2.1 (by omega)
    have y6 := cellKeep HB2.out Z.out.2.2.2.2.2.2.1 (by omega)
    have y7 := cellKeep HB2.out Z.out.2.2.2.2.2.2.2.1 (by omega)
    have y8 := cellKeep HB2.out Z.out.2.2.2.2.2.2.2.2.1 (by omega)
    have y9 := cellKeep HB2.out Z.out.2.2.2.2.2.2.2.2.2.1 (by omega)
    have y10 := cellKeep HB2.out Z.out.2.2.2.2.2.2.2.2.2.2 (by omega)
    go_wp2_with fail
    refine (impl_RouteOk_any _ _ _ c p r _ ((HCR.out.keep HBW2.out (Nat.le_refl _)).mono HBW2.out.size) ((RdB.keep HRR.out HBW2.out (Nat.le_refl _)).mono HBW2.out.size) HN.out HOKP.out).mono ?_
    rintro e w3 ⟨rfl, hb3⟩
    rw [G3.out]
    have HB3 := hide (bnext HB2.out hb3 (Nat.le_refl _))
    have HBW3 := hide (hb0.trans (HB3.out.mono (show w.heap.size ≤ W0.heap.size by omega)))
    have s3 := HB3.out.size
    clear hb3 y0 y1 y2 y3 y4 y5 y6 y7 y8 y9 y10
    have y0 := cellKeep HB3.out Z.out.1 (by omega)
    have y1 := cellKeep HB3.out Z.out.2.1 (by omega)
    have y2 := cellKeep HB3.out Z.out.2.2.1 (by omega)
    have y3 := cellKeep HB3.out Z.out.2.2.2.1 (by omega)
    have y4 := cellKeep HB3.out Z.out.2.2.2.2.1 (by omega)
    have y5 := cellKeep HB3.out Z.out.2.2.2.2.2.1 (by omega)
    have y6 := cellKeep HB3.out Z.out.2.2.2.2.2.2.1 (by omega)
    have y7 := cellKeep HB3.out Z.out.2.2.2.2.2.2.2.1 (by omega)
    have y8 := cellKeep HB3.out Z.out.2.2.2.2.2.2.2.2.1 (by omega)
    have y9 := cellKeep HB3.out Z.out.2.2.2.2.2.2.2.2.2.1 (by omega)
    have y10 := cellKeep HB3.out Z.out.2.2.2.2.2.2.2.2.2.2 (by omega)
    go_upto_region 4 with fail
    obtain ⟨hck, hpl, hri⟩ := route_ok G3.out
    have HCK := hide hck; have HPL := hide hpl; have HRI := hide hri; have HPI := hide (route_pts G3.out)
    clear hck hpl hri
    have HWT := hide (show ∀ k (hk : k < (routePts c p r).length), rWait c (routePts c p r) k = (c.points.getD (routePts c p r)[k].toNat default).wait from fun k hk => by unfold rWait; rw [getD_at hk])
    have HMS := hide (show ∀ k (hk : k < r.length), rMins c ⟨x0, x1, x2, x3, x4, x5⟩ r k = shipMinutes (segAt c r[k]) ⟨x0, x1, x2, x3, x4, x5⟩ from fun k hk => by unfold rMins; rw [getD_at hk])
    obtain ⟨W4, hW4⟩ : ∃ W, w3.alloc (.cells #[.slice none 0 0, .slice none 0 0, .slice none 0 0] 114) = W := ⟨_, rfl⟩
    have hb4 : Below w3.heap.size w3 W4 := by rw [← hW4]; exact (Below.refl _ _).alloc (Nat.le_refl _) _
    have hs4 : w3.heap.size < W4.heap.size := by rw [← hW4]; simp
    have V4 := hide (show (W4.cell? ⟨w3.heap.size, 0, none⟩ = some (.slice none 0 0) ∧ W4.cell? ⟨w3.heap.size, 1, none⟩ = some (.slice none 0 0) ∧ W4.cell? ⟨w3.heap.size, 2, none⟩ = some (.slice none 0 0)) ∧ W4.frozen? ⟨w3.heap.size, 0, none⟩ = false ∧ W4.frozen? ⟨w3.heap.size, 1, none⟩ = false ∧ W4.frozen? ⟨w3.heap.size, 2, none⟩ = false by rw [← hW4]; exact ⟨⟨by simp [go_sem], by simp [go_sem], by simp [go_sem]⟩, by simp [go_sem], by simp [go_sem], by simp [go_sem]⟩)
    rw [hW4]
    clear hW4
    have HB4 := hide (HB3.out.trans (hb4.mono s3))
    have HBW4 := hide (hb0.trans (HB4.out.mono (show w.heap.size ≤ W0.heap.size by omega)))
    clear hb4 y0 y1 y2 y3 y4 y5 y6 y7 y8 y9 y10
    have y3 := cellKeep HB4.out Z.out.2.2.2.1 (by omega)
    have y4 := cellKeep HB4.out Z.out.2.2.2.2.1 (by omega)
    go_wp2_with fail
    clear y3 y4
    refine (impl_RoutePoints_any _ _ _ c p r _ ((HCR.out.keep HBW4.out (Nat.le_refl _)).mono HBW4.out.size) ((RdB.keep HRR.out HBW4.out (Nat.le_refl _)).mono HBW4.out.size) HN.out HOKP.out).mono ?_
    rintro e w5 ⟨v5, rfl, ho5, hb5⟩
    have hs5 := hb5.size
    obtain ⟨X, hX⟩ : ∃ X, w3.heap.size = X := ⟨_, rfl⟩
    rw [hX] at hs4 V4 s3 ⊢
    have ho5' : Own w5 (X + 1) 3 1 encI v5 (routePts c p r) := ho5.mono (by omega)
    have VO := hide (show VoySt w5 X w5.heap.size (.slice none 0 0) (.slice none 0 0) (.slice none 0 0) (mapR (rWait c (routePts c p r)) 0) (mapR (rMins c ⟨x0, x1, x2, x3, x4, x5⟩ r) 0) [] from
      ⟨cellKeep hb5 V4.out.1.1 hs4, cellKeep hb5 V4.out.1.2.1 hs4, cellKeep hb5 V4.out.1.2.2 hs4, frozenKeep hb5 V4.out.2.1 hs4, frozenKeep hb5 V4.out.2.2.1 hs4, frozenKeep hb5 V4.out.2.2.2 hs4, by omega, Nat.le_refl _, Own.nil_, Own.nil_, ⟨Own.nil_, fun r hr => by cases hr⟩⟩)
    have HST := hide (show StartsIs ⟨m0, ps, ss⟩ c ⟨x0, x1, x2, x3, x4, x5⟩ r 0 [] from ⟨rfl, fun i h => by simp at h⟩)
    have HB5 := hide (HB4.out.trans (hb5.mono (show W0.heap.size ≤ W4.heap.size by omega)))
    have HX := hide hX
    have hlen5 := HPL.out
    obtain ⟨A6, c6, rfl, hc6, hm6, -⟩ := Own.rd encI_len ho5'
    unfold maxLen at hm6
    have HO5 := hide ho5'
    have hc6' : (r.length : Int) ≤ c6 := by omega
    have hc6n : ¬ c6 = 0 := by omega
    have hXW : W0.heap.size ≤ X := s3
    have hr0I : (0 : Int) ≤ (r.length : Int) := by omega
    clear ho5 ho5' hb5 V4 HB4 HBW4 hX HB3 HBW3 s3
    have HL5 := hide hlen5; clear hlen5
    go_wp2_with fail
    obtain ⟨P, hP⟩ : ∃ P, w5.heap.size = P := ⟨_, rfl⟩
    rw [hP] at VO
    have HP := hide hP
    have hXP : X < P := by omega
    clear hs5 hs4 hP
    go_loopw [45] (fun iv wr => ∃ (k : Nat) (vw vm vs : Value) (rs : List WinR), iv = .int .i64 k ∧ k ≤ r.length ∧ Hid (VoySt wr X P vw vm vs (mapR (rWait c (routePts c p r)) k) (mapR (rMins c ⟨x0, x1, x2, x3, x4, x5⟩ r) k) rs) ∧ Hid (StartsIs ⟨m0, ps, ss⟩ c ⟨x0, x1, x2, x3, x4, x5⟩ r k rs) ∧ Hid (CurW X w5 wr)) (fun iv _ => r.length - (intOf iv).toNat)
    case atStart => exact ⟨0, _, _, _, [], rfl, Nat.zero_le _, VO, HST, hide (CurW.refl _ _)⟩
    case round =>
      clear VO HST
      obtain ⟨k, vw, vm, vs, rs, rfl, hk, VO, HST, HCW⟩ := hrel
      obtain ⟨wo, rfl⟩ : ∃ wo : World, wo = wr := ⟨_, rfl⟩
      have HBO := hide (HB5.out.trans (HCW.out.below hXW (by have := HP.out; omega)))
      have HBWO := hide (hb0.trans (HBO.out.mono (show w.heap.size ≤ W0.heap.size by omega)))
      have hXo : X < wo.heap.size := Nat.lt_of_lt_of_le hXP VO.out.hl
      have hWo : W0.heap.size ≤ wo.heap.size := HBO.out.size
      obtain ⟨Aw, cw, rfl, -, -, -⟩ := Own.rd encBo_len VO.out.ow
      obtain ⟨Am, cm, rfl, -, -, -⟩ := Own.rd encI_len VO.out.om
      obtain ⟨As, cs, rfl, -, -, -⟩ := Own.rd WinR.enc_len VO.out.os.1
      by_cases hlt : k < r.length
      · have hlt' : (k : Int) < r.length := by omega
        have HPO := hide (HO5.out.curw HCW.out (Nat.lt_succ_self X))
        have hpl := HPL.out
        have hkp : k < (routePts c p r).length := by omega
        obtain ⟨A6', c6', e6, -, -, h6⟩ := Own.rd encI_len HPO.out
        obtain ⟨b6, o6, e6', hb6, hcell6⟩ := h6 (by omega)
        obtain ⟨rfl, rfl⟩ : A6 = A6' ∧ c6 = c6' := by injection e6 with e1 _ e3; exact ⟨e1, e3⟩
        subst e6'
        have hpin := HPI.out ((routePts c p r)[k]) (List.getElem_mem hkp)
        obtain ⟨pn, hpn⟩ : ∃ n : Nat, (routePts c p r)[k] = n := ⟨((routePts c p r)[k]).toNat, by omega⟩
        have hpl2 : pn < c.points.length := by omega
        have q6 : wo.cell? ⟨b6, o6 + k, none⟩ = some (.int .i64 (pn : Int)) := by have := hcell6 k ((routePts c p r)[k]) (List.getElem?_eq_getElem hkp) 0 _ rfl; rw [← hpn]; simpa using this
        have hwtk : (rWait c (routePts c p r)) k = (c.points[pn]).wait := by rw [HWT.out _ hkp, hpn, Int.toNat_natCast, getD_at hpl2]
        obtain ⟨A3', c3', e3, -, -, h3⟩ := HCR.out.1
        obtain ⟨b1, o1, e3', hb1', hcell1⟩ := h3 (by omega)
        obtain ⟨rfl, rfl⟩ : A3 = A3' ∧ c3 = c3' := by injection e3 with e1 _ e3; exact ⟨e1, e3⟩
        subst e3'
        have q1p : wo.cell? ⟨b1, o1 + pn * 2 + 1, none⟩ = some (.bool ((rWait c (routePts c p r)) k)) := by
          have := hcell1 pn c.points[pn] (List.getElem?_eq_getElem hpl2) 1 _ rfl
          rw [hwtk]; exact cellKeep HBWO.out (by simpa using this) hb1'
        have hb1X : b1 < X := by omega
        have hpI : (pn : Int) < c.points.length := by omega
        have hkp' : (k : Int) < (routePts c p r).length := by omega
        obtain ⟨wt, hwt⟩ : ∃ b, (rWait c (routePts c p r)) k = b := ⟨_, rfl⟩
        rw [hwt] at q1p
        have HWTK := hide hwt
        have hw1X : w.heap.size + 1 < X := by omega
        have hkL := hide (show k ≤ 1048576 by have := HN.out; omega)
        clear hwt hwtk hpn hpin hcell1 hcell6 h3 h6 e3 e6 hpl
        have y3 := cellKeep HBO.out Z.out.2.2.2.1 (by omega)
        go_wp2_with fail
        go_cut [] (fun wx => ∃ vw' : Value, Hid (VoySt wx X P vw' (.slice Am (mapR (rMins c ⟨x0, x1, x2, x3, x4, x5⟩ r) k).length cm) (.slice As rs.length cs) (mapR (rWait c (routePts c p r)) (k + 1)) (mapR (rMins c ⟨x0, x1, x2, x3, x4, x5⟩ r) k) rs) ∧ Hid (CurW X w5 wx))
        case first =>
          have y3D : wo.drew.cell? ⟨w.heap.size + 1, 0, none⟩ = some (.slice (some ⟨b1, o1, none⟩) c.points.length c3) := y3
          have qD : wo.drew.cell? ⟨b1, o1 + pn * 2 + 1, none⟩ = some (.bool wt) := q1p
          have zE : wo.cell? ⟨X, 0, none⟩ = some (.slice Aw (mapR (rWait c (routePts c p r)) k).length cw) := VO.out.c0
          have nE := World.new_ne wo _ zE
          have zD : wo.drew.cell? ⟨X, 0, none⟩ = some (.slice Aw (mapR (rWait c (routePts c p r)) k).length cw) := VO.out.c0
          have zDa : ∀ o, (wo.drew.alloc o).cell? ⟨X, 0, none⟩ = some (.slice Aw (mapR (rWait c (routePts c p r)) k).length cw) := fun o => (VO.out.below ((Below.drew (Below.refl _ _)).alloc (by simp) o)).c0
          have STA := hide (fun o => VO.out.below (show Below wo.heap.size wo (wo.drew.alloc o) from (Below.drew (Below.refl _ _)).alloc (by simp) o))
          obtain ⟨j0, hj, hjz0, hjz1, hjz2⟩ := info_parts boolV_info
          have hsX := VO.out.hl
          go_region_law ((refine step_append_rd _ encBo_len encBo_one (by rfl) _ _ 112 (by rfl) P 4 j0 (.bool false) 1 Tryz.underlying112 hj hjz0 hjz1 hjz2 rfl (by decide) (.slice Aw (mapR (rWait c (routePts c p r)) k).length cw) (mapR (rWait c (routePts c p r)) k) (by rfl) (STA.out _).ow _ (.slice (some ⟨_, 0, none⟩) 1 1) [wt] (by rfl) (rd_new (enc := encBo) wo.drew wt 4) (by have := hkL.out; rw [mapR_len]; unfold maxLen; simp; omega) (by have := hkL.out; rw [mapR_len]; simp; omega) (by simp; omega) ?_; intro v7 w7 hown7 hgrow7 hblk7; obtain ⟨l7, hl7⟩ : ∃ l, mapR (rWait c (routePts c p r)) k ++ [wt] = l := ⟨_, rfl⟩; rw [hl7] at hown7; have HL7 := hide hl7; clear hl7; obtain ⟨A7, c7, rfl, -, -, -⟩ := Own.rd encBo_len hown7; have hadd := (STA.out _).addW hgrow7 hown7; have HAD := hide hadd; have hcl := (STA.out _).cells hadd.1; have hy7 := hcl.1; have hr7 := hcl.2.2.2.1; have HBw7P := hide (show Below P wo w7 from ((Below.drew (Below.refl _ _)).alloc hsX _).trans hadd.1); clear hown7 hgrow7 hblk7 hadd hcl))
          all_goals
            go_wp2_with fail
            go_meet
            exact ⟨_, hide (by rw [mapR_succ, HWTK.out, HL7.out]; exact HAD.out.2), hide ((HCW.out.fresh (by rw [HP.out]; exact HBw7P.out)).setX _ _)⟩
        case rest =>
          clear VO HCW HBO HBWO hXo hWo y3 q6 q1p HPO hb6
          obtain ⟨vx, VO, HCW⟩ := hcut
          obtain ⟨wa, rfl⟩ : ∃ q : World, q = wc := ⟨_, rfl⟩
          have HBO := hide (HB5.out.trans (HCW.out.below hXW (by have := HP.out; omega)))
          have HBWO := hide (hb0.trans (HBO.out.mono (show w.heap.size ≤ W0.heap.size by omega)))
          have hXo : X < wa.heap.size := Nat.lt_of_lt_of_le hXP VO.out.hl
          have hWo : W0.heap.size ≤ wa.heap.size := HBO.out.size
          have hPo : P ≤ wa.heap.size := VO.out.hl
          obtain ⟨Ax, cx, rfl, -, -, -⟩ := Own.rd encBo_len VO.out.ow
          obtain ⟨A5', c5', e5, -, -, h5⟩ := HRR.out
          obtain ⟨b5, o5, e5', hb5, hcell5⟩ := h5 (by omega)
          obtain ⟨rfl, rfl⟩ : A5 = A5' ∧ c5 = c5' := by injection e5 with e1 _ e3; exact ⟨e1, e3⟩
          subst e5'
          obtain ⟨g, hg, hgl⟩ := idx_nat (HRI.out k hlt)
          have q5w : w.cell? ⟨b5, o5 + k, none⟩ = some (.int .i64 (g : Int)) := by have := hcell5 k (r[k]) (List.getElem?_eq_getElem hlt) 0 _ rfl; rw [← hg]; simpa using this
          have q5 := cellKeep HBWO.out q5w hb5
          have hgr : r[k] = (g : Int) := hg
          have HGR := hide hgr
          have hms : (rMins c ⟨x0, x1, x2, x3, x4, x5⟩ r) k = shipMinutes c.segs[g] ⟨x0, x1, x2, x3, x4, x5⟩ := by rw [HMS.out k hlt, hg, segAt_nat hgl]
          obtain ⟨-, -, -, -, -, -, -, hq1, hq2⟩ := chart_seg HCK.out hgl
          have hmr := shipMinutes_range (s := ⟨x0, x1, x2, x3, x4, x5⟩) hq1 hq2
          obtain ⟨A4', c4', e4, -, -, h4⟩ := HCR.out.2
          obtain ⟨b2, o2, e4', hb2, hcell2⟩ := h4 (by omega)
          obtain ⟨rfl, rfl⟩ : A4 = A4' ∧ c4 = c4' := by injection e4 with e1 _ e3; exact ⟨e1, e3⟩
          subst e4'
          have hbwk := HBWO.out
          have u0 : wa.cell? ⟨b2, o2 + g * 5, none⟩ = some (.int .i64 c.segs[g].a) := by
            rw [hbwk.cell (p := ⟨b2, _, none⟩) hb2]; have := hcell2 g c.segs[g] (List.getElem?_eq_getElem hgl) 0 _ rfl; simpa using this
          have u1 : wa.cell? ⟨b2, o2 + g * 5 + 1, none⟩ = some (.int .i64 c.segs[g].b) := by
            rw [hbwk.cell (p := ⟨b2, _, none⟩) hb2]; have := hcell2 g c.segs[g] (List.getElem?_eq_getElem hgl) 1 _ rfl; simpa using this
          have u2 : wa.cell? ⟨b2, o2 + g * 5 + 2, none⟩ = some (.int .i64 c.segs[g].depth) := by
            rw [hbwk.cell (p := ⟨b2, _, none⟩) hb2]; have := hcell2 g c.segs[g] (List.getElem?_eq_getElem hgl) 2 _ rfl; simpa using this
          have u3 : wa.cell? ⟨b2, o2 + g * 5 + 3, none⟩ = some (.int .i64 c.segs[g].minutes) := by
            rw [hbwk.cell (p := ⟨b2, _, none⟩) hb2]; have := hcell2 g c.segs[g] (List.getElem?_eq_getElem hgl) 3 _ rfl; simpa using this
          have u4 : wa.cell? ⟨b2, o2 + g * 5 + 4, none⟩ = some (.bool c.segs[g].meet) := by
            rw [hbwk.cell (p := ⟨b2, _, none⟩) hb2]; have := hcell2 g c.segs[g] (List.getElem?_eq_getElem hgl) 4 _ rfl; simpa using this
          obtain ⟨gs, hgs⟩ : ∃ x, c.segs[g] = x := ⟨_, rfl⟩
          rw [hgs] at u0 u1 u2 u3 u4 hq1 hq2 hmr hms
          obtain ⟨mn, hmn⟩ : ∃ x, shipMinutes gs ⟨x0, x1, x2, x3, x4, x5⟩ = x := ⟨_, rfl⟩
          rw [hmn] at hmr hms
          have HMN := hide hmn; have HMSK := hide hms
          have hglI : (g : Int) < c.segs.length := by omega
          have hg0 : (0 : Int) ≤ (g : Int) := by omega
          have hk0 : (0 : Int) ≤ (k : Int) := by omega
          have hb5P : b5 < P := by omega
          have hb2P : b2 < P := by omega
          have hw2P : w.heap.size + 2 < P := by omega
          clear hgs hmn hms hbwk hcell2 hcell5 h5 h4 e5 e4 hg hmr hgr
          have y4 := cellKeep HBO.out Z.out.2.2.2.2.1 (by omega)
          have y5 := cellKeep HBO.out Z.out.2.2.2.2.2.1 (by omega)
          have y6 := cellKeep HBO.out Z.out.2.2.2.2.2.2.1 (by omega)
          have y7 := cellKeep HBO.out Z.out.2.2.2.2.2.2.2.1 (by omega)
          have y8 := cellKeep HBO.out Z.out.2.2.2.2.2.2.2.2.1 (by omega)
          have y9 := cellKeep HBO.out Z.out.2.2.2.2.2.2.2.2.2.1 (by omega)
          have y10 := cellKeep HBO.out Z.out.2.2.2.2.2.2.2.2.2.2 (by omega)
          go_wp2_with fail
          go_cut [] (fun wx => ∃ vm' : Value, Hid (VoySt wx X P (.slice Ax (mapR (rWait c (routePts c p r)) (k + 1)).length cx) vm' (.slice As rs.length cs) (mapR (rWait c (routePts c p r)) (k + 1)) (mapR (rMins c ⟨x0, x1, x2, x3, x4, x5⟩ r) (k + 1)) rs) ∧ Hid (CurW X w5 wx))
          case first =>
            have keepS : ∀ w', Below P wa w' → (w'.cell? ⟨X, 1, none⟩ = some (.slice Am (mapR (rMins c ⟨x0, x1, x2, x3, x4, x5⟩ r) k).length cm) ∧ w'.cell? ⟨w.heap.size + 2, 0, none⟩ = some (.string x0) ∧ w'.cell? ⟨w.heap.size + 2, 1, none⟩ = some (.int .i64 x1) ∧ w'.cell? ⟨w.heap.size + 2, 2, none⟩ = some (.int .i64 x2) ∧ w'.cell? ⟨w.heap.size + 2, 3, none⟩ = some (.int .i64 x3) ∧ w'.cell? ⟨w.heap.size + 2, 4, none⟩ = some (.int .i64 x4) ∧ w'.cell? ⟨w.heap.size + 2, 5, none⟩ = some (.bool x5) ∧ w'.cell? ⟨w.heap.size + 1, 1, none⟩ = some (.slice (some ⟨b2, o2, none⟩) c.segs.length c4) ∧ w'.cell? ⟨b5, o5 + k, none⟩ = some (.int .i64 (g : Int)) ∧ w'.cell? ⟨b2, o2 + g * 5, none⟩ = some (.int .i64 gs.a) ∧ w'.cell? ⟨b2, o2 + g * 5 + 1, none⟩ = some (.int .i64 gs.b) ∧ w'.cell? ⟨b2, o2 + g * 5 + 2, none⟩ = some (.int .i64 gs.depth) ∧ w'.cell? ⟨b2, o2 + g * 5 + 3, none⟩ = some (.int .i64 gs.minutes) ∧ w'.cell? ⟨b2, o2 + g * 5 + 4, none⟩ = some (.bool gs.meet)) := fun w' hB => ⟨cellKeep hB VO.out.c1 hXP, cellKeep hB y5 (by omega), cellKeep hB y6 (by omega), cellKeep hB y7 (by omega), cellKeep hB y8 (by omega), cellKeep hB y9 (by omega), cellKeep hB y10 (by omega), cellKeep hB y4 (by omega), cellKeep hB q5 hb5P, cellKeep hB u0 hb2P, cellKeep hB u1 hb2P, cellKeep hB u2 hb2P, cellKeep hB u3 hb2P, cellKeep hB u4 hb2P⟩
            obtain ⟨i0, hi, hz0, hz1, hz2⟩ := info_parts int_info
            refine wp_region_until 15 (fun w' => w'.cell? ⟨X, 1, none⟩ = some (.slice Am (mapR (rMins c ⟨x0, x1, x2, x3, x4, x5⟩ r) k).length cm) ∧ w'.cell? ⟨w.heap.size + 2, 0, none⟩ = some (.string x0) ∧ w'.cell? ⟨w.heap.size + 2, 1, none⟩ = some (.int .i64 x1) ∧ w'.cell? ⟨w.heap.size + 2, 2, none⟩ = some (.int .i64 x2) ∧ w'.cell? ⟨w.heap.size + 2, 3, none⟩ = some (.int .i64 x3) ∧ w'.cell? ⟨w.heap.size + 2, 4, none⟩ = some (.int .i64 x4) ∧ w'.cell? ⟨w.heap.size + 2, 5, none⟩ = some (.bool x5) ∧ w'.cell? ⟨w.heap.size + 1, 1, none⟩ = some (.slice (some ⟨b2, o2, none⟩) c.segs.length c4) ∧ w'.cell? ⟨b5, o5 + k, none⟩ = some (.int .i64 (g : Int)) ∧ w'.cell? ⟨b2, o2 + g * 5, none⟩ = some (.int .i64 gs.a) ∧ w'.cell? ⟨b2, o2 + g * 5 + 1, none⟩ = some (.int .i64 gs.b) ∧ w'.cell? ⟨b2, o2 + g * 5 + 2, none⟩ = some (.int .i64 gs.depth) ∧ w'.cell? ⟨b2, o2 + g * 5 + 3, none⟩ = some (.int .i64 gs.minutes) ∧ w'.cell? ⟨b2, o2 + g * 5 + 4, none⟩ = some (.bool gs.meet)) (by kernel_rfl) ?_
            have hS := keepS wa.drew (Below.drew (Below.refl _ _))
            refine untilR.takeD (i := 0) (v := ?_) rfl (by kernel_rfl) (by kernel_rfl) (by kernel_rfl) (by kernel_rfl) (fun _ _ _ h => h) (.inl ⟨by rfl, ?_⟩) hS ?_
            rotate_left
            · (intro w' hSw; go_simp; first | done | with_reducible rfl)
            try simp only [Act.put, List.setIfInBounds_toArray, List.set_cons_zero, List.set_cons_succ]
            refine untilR.takeD (i := 1) (v := ?_) rfl (by kernel_rfl) (by kernel_rfl) (by kernel_rfl) (by kernel_rfl) (fun _ _ _ h => h) (.inl ⟨by rfl, ?_⟩) hS ?_
            rotate_left
            · (intro w' hSw; go_simp; first | done | with_reducible rfl)
            try simp only [Act.put, List.setIfInBounds_toArray, List.set_cons_zero, List.set_cons_succ]
            refine untilR.takeD (i := 2) (v := ?_) rfl (by kernel_rfl) (by kernel_rfl) (by kernel_rfl) (by kernel_rfl) (fun _ _ _ h => h) (.inl ⟨by rfl, ?_⟩) hS ?_
            rotate_left
            · (intro w' hSw; go_simp; first | done | with_reducible rfl)
            try simp only [Act.put, List.setIfInBounds_toArray, List.set_cons_zero, List.set_cons_succ]
            refine untilR.takeD (i := 3) (v := ?_) rfl (by kernel_rfl) (by kernel_rfl) (by kernel_rfl) (by kernel_rfl) (fun _ _ _ h => h) (.inl ⟨by rfl, ?_⟩) hS ?_
            rotate_left
            · (intro w' hSw; go_simp; first | done | with_reducible rfl)
            try simp only [Act.put, List.setIfInBounds_toArray, List.set_cons_zero, List.set_cons_succ]
            refine untilR.takeD (i := 4) (v := ?_) rfl (by kernel_rfl) (by kernel_rfl) (by kernel_rfl) (by kernel_rfl) (fun _ _ _ h => h) (.inl ⟨by rfl, ?_⟩) hS ?_
            rotate_left
            · (intro w' hSw; go_simp; first | done | with_reducible rfl)
            try simp only [Act.put, List.setIfInBounds_toArray, List.set_cons_zero, List.set_cons_succ]
            refine untilR.takeD (i := 5) (v := ?_) rfl (by kernel_rfl) (by kernel_rfl) (by kernel_rfl) (by kernel_rfl) (fun _ _ _ h => h) (.inl ⟨by rfl, ?_⟩) hS ?_
            rotate_left
            · (intro w' hSw; go_simp; first | done | with_reducible rfl)
            try simp only [Act.put, List.setIfInBounds_toArray, List.set_cons_zero, List.set_cons_succ]
            refine untilR.takeD (i := 6) (v := ?_) rfl (by kernel_rfl) (by kernel_rfl) (by kernel_rfl) (by kernel_rfl) (fun _ _ _ h => h) (.inl ⟨by rfl, ?_⟩) hS ?_
            rotate_left
            · (intro w' hSw; go_simp; first | done | with_reducible rfl)
            try simp only [Act.put, List.setIfInBounds_toArray, List.set_cons_zero, List.set_cons_succ]
            refine untilR.takeD (i := 7) (v := ?_) rfl (by kernel_rfl) (by kernel_rfl) (by kernel_rfl) (by kernel_rfl) (fun _ _ _ h => h) (.inl ⟨by rfl, ?_⟩) hS ?_
            rotate_left
            · (intro w' hSw; go_simp; first | done | with_reducible rfl)
            try simp only [Act.put, List.setIfInBounds_toArray, List.set_cons_zero, List.set_cons_succ]
            refine untilR.takeD (i := 8) (v := ?_) rfl (by kernel_rfl) (by kernel_rfl) (by kernel_rfl) (by kernel_rfl) (fun _ _ _ h => h) (.inl ⟨by rfl, ?_⟩) hS ?_
            rotate_left
            · (intro w' hSw; go_simp; first | done | with_reducible rfl)
            try simp only [Act.put, List.setIfInBounds_toArray, List.set_cons_zero, List.set_cons_succ]
            refine untilR.takeD (i := 9) (v := ?_) rfl (by kernel_rfl) (by kernel_rfl) (by kernel_rfl) (by kernel_rfl) (fun _ _ _ h => h) (.inl ⟨by rfl, ?_⟩) hS ?_
            rotate_left
            · (intro w' hSw; go_simp; first | done | with_reducible rfl)
            try simp only [Act.put, List.setIfInBounds_toArray, List.set_cons_zero, List.set_cons_succ]
            refine untilR.takeD (i := 10) (v := ?_) rfl (by kernel_rfl) (by kernel_rfl) (by kernel_rfl) (by kernel_rfl) (fun _ _ _ h => h) (.inl ⟨by rfl, ?_⟩) hS ?_
            rotate_left
            · (intro w' hSw; go_simp; first | done | with_reducible rfl)
            try simp only [Act.put, List.setIfInBounds_toArray, List.set_cons_zero, List.set_cons_succ]
            refine untilR.oneD (i := 11) (by kernel_rfl) rfl rfl (fun K hK => ?_)
            refine wp_call (f := 96) (args := #[(⟨x0, x1, x2, x3, x4, x5⟩ : ShipD).val, gs.val]) (by first | (go_simp; done) | (go_simp; exact ⟨rfl, rfl⟩)) (calls_v (calls_int (minutes_any gs ⟨x0, x1, x2, x3, x4, x5⟩ _ hq1 hq2) HMN.out)) ?_
            rintro _ w8 ⟨rfl, hb8⟩
            have HB8 := hide (show Below P wa w8 from (Below.drew (Below.refl _ _)).trans (hb8.mono hPo))
            have VO8 := hide (VO.out.below ((Below.drew (Below.refl _ _)).trans hb8))
            have hs8 : P ≤ w8.heap.size := VO8.out.hl
            refine hK.out _ _ (fun _ => keepS _ HB8.out) ?_
            clear hK K hS hb8
            simp only [Act.put, List.setIfInBounds_toArray, List.set_cons_zero, List.set_cons_succ]
            refine untilR.oneD (i := 12) (by kernel_rfl) rfl rfl (fun K hK => ?_)
            go_simp
            refine hK.out _ _ (fun _ => keepS _ (HB8.out.alloc hs8 _)) ?_
            clear hK K
            try simp only [Act.put, List.setIfInBounds_toArray, List.set_cons_zero, List.set_cons_succ]
            have STA := hide (fun o => VO8.out.below ((Below.refl _ _).alloc (Nat.le_refl _) o))
            refine untilR.oneD (i := 13) (by kernel_rfl) rfl rfl (fun K hK => ?_)
            refine wp_append_rd _ encI_len encI_one _ _ 71 (by rfl) P 3 i0 (.int .i64 0) 8 Tryz.underlying71 hi hz0 hz1 hz2 rfl (by decide) (.slice Am (mapR (rMins c ⟨x0, x1, x2, x3, x4, x5⟩ r) k).length cm) (mapR (rMins c ⟨x0, x1, x2, x3, x4, x5⟩ r) k) (by rfl) (STA.out _).om _ (.slice (some ⟨w8.heap.size, 0, none⟩) 1 1) [mn] (by rfl) (rd_new (enc := encI) w8 mn 3) (by have := hkL.out; rw [mapR_len]; unfold maxLen; simp; omega) (by have := hkL.out; rw [mapR_len]; simp; omega) (by simp; omega) ?_
            intro v9 w9 hown9 hgrow9 hblk9
            obtain ⟨l9, hl9⟩ : ∃ l, mapR (rMins c ⟨x0, x1, x2, x3, x4, x5⟩ r) k ++ [mn] = l := ⟨_, rfl⟩
            rw [hl9] at hown9
            have HL9 := hide hl9
            clear hl9
            obtain ⟨A9, c9, rfl, -, -, -⟩ := Own.rd encI_len hown9
            have hadd := (STA.out _).addM hgrow9 hown9
            have HAD := hide hadd
            have hcl := (STA.out _).cells hadd.1
            have hy9 := hcl.2.1
            have hr9 := hcl.2.2.2.2.1
            have HB9 := hide (show Below P wa w9 from (HB8.out.alloc hs8 _).trans hadd.1)
            clear hown9 hgrow9 hblk9 hadd hcl
            refine hK.out _ _ (fun _ => keepS _ HB9.out) ?_
            clear hK K
            try simp only [Act.put, List.setIfInBounds_toArray, List.set_cons_zero, List.set_cons_succ]
            have hS := keepS _ HB9.out
            refine untilR.takeD (i := 14) (v := ?_) rfl (by kernel_rfl) (by kernel_rfl) (by kernel_rfl) (by kernel_rfl) (fun _ _ _ h => h) (.inl ⟨by rfl, ?_⟩) hS ?_
            rotate_left
            · (intro w' hSw; go_simp; first | done | with_reducible rfl)
            try simp only [Act.put, List.setIfInBounds_toArray, List.set_cons_zero, List.set_cons_succ]
            refine untilR.oneD (i := 15) (by kernel_rfl) rfl rfl (fun K hK => ?_)
            go_simp
            refine hK.out _ _ (fun h => absurd rfl h) ?_
            clear hK K
            try simp only [Act.put, List.setIfInBounds_toArray, List.set_cons_zero, List.set_cons_succ]
            refine untilR.done (by kernel_rfl) ?_ _
            go_wp2_with fail
            go_meet
            exact ⟨_, hide (by rw [mapR_succ (rMins c ⟨x0, x1, x2, x3, x4, x5⟩ r) k, HMSK.out, HL9.out]; exact HAD.out.2), hide ((HCW.out.fresh (by rw [HP.out]; exact HB9.out)).setX _ _)⟩
          case rest =>
            clear VO HCW HBO HBWO hXo hWo hPo u0 u1 u2 u3 u4 y4 y5 y6 y7 y8 y9 y10 q5
            obtain ⟨vy, VO, HCW⟩ := hcut
            obtain ⟨wb, rfl⟩ : ∃ q : World, q = wc := ⟨_, rfl⟩
            have HBO := hide (HB5.out.trans (HCW.out.below hXW (by have := HP.out; omega)))
            have HBWO := hide (hb0.trans (HBO.out.mono (show w.heap.size ≤ W0.heap.size by omega)))
            have hXo : X < wb.heap.size := Nat.lt_of_lt_of_le hXP VO.out.hl
            have hWo : W0.heap.size ≤ wb.heap.size := HBO.out.size
            have hPo : P ≤ wb.heap.size := VO.out.hl
            obtain ⟨Ay, cy, rfl, -, -, -⟩ := Own.rd encI_len VO.out.om
            have q5 := cellKeep HBWO.out q5w hb5
            have y0 := cellKeep HBO.out Z.out.1 (by omega)
            have y1 := cellKeep HBO.out Z.out.2.1 (by omega)
            have y2 := cellKeep HBO.out Z.out.2.2.1 (by omega)
            have y3 := cellKeep HBO.out Z.out.2.2.2.1 (by omega)
            have y4 := cellKeep HBO.out Z.out.2.2.2.2.1 (by omega)
            have y5 := cellKeep HBO.out Z.out.2.2.2.2.2.1 (by omega)
            have y6 := cellKeep HBO.out Z.out.2.2.2.2.2.2.1 (by omega)
            have y7 := cellKeep HBO.out Z.out.2.2.2.2.2.2.2.1 (by omega)
            have y8 := cellKeep HBO.out Z.out.2.2.2.2.2.2.2.2.1 (by omega)
            have y9 := cellKeep HBO.out Z.out.2.2.2.2.2.2.2.2.2.1 (by omega)
            have y10 := cellKeep HBO.out Z.out.2.2.2.2.2.2.2.2.2.2 (by omega)
            go_wp2_with fail
            skip
            have keepS : ∀ w', Below P wb w' → (w'.cell? ⟨X, 2, none⟩ = some (.slice As rs.length cs) ∧ w'.cell? ⟨w.heap.size + 2, 0, none⟩ = some (.string x0) ∧ w'.cell? ⟨w.heap.size + 2, 1, none⟩ = some (.int .i64 x1) ∧ w'.cell? ⟨w.heap.size + 2, 2, none⟩ = some (.int .i64 x2) ∧ w'.cell? ⟨w.heap.size + 2, 3, none⟩ = some (.int .i64 x3) ∧ w'.cell? ⟨w.heap.size + 2, 4, none⟩ = some (.int .i64 x4) ∧ w'.cell? ⟨w.heap.size + 2, 5, none⟩ = some (.bool x5) ∧ w'.cell? ⟨w.heap.size, 0, none⟩ = some (.int .i64 m0) ∧ w'.cell? ⟨w.heap.size, 1, none⟩ = some (.slice A1 ps.length c1) ∧ w'.cell? ⟨w.heap.size, 2, none⟩ = some (.slice A2 ss.length c2) ∧ w'.cell? ⟨w.heap.size + 1, 0, none⟩ = some (.slice (some ⟨b1, o1, none⟩) c.points.length c3) ∧ w'.cell? ⟨w.heap.size + 1, 1, none⟩ = some (.slice (some ⟨b2, o2, none⟩) c.segs.length c4) ∧ w'.cell? ⟨b5, o5 + k, none⟩ = some (.int .i64 (g : Int))) := fun w' hB => ⟨cellKeep hB VO.out.c2 hXP, cellKeep hB y5 (by omega), cellKeep hB y6 (by omega), cellKeep hB y7 (by omega), cellKeep hB y8 (by omega), cellKeep hB y9 (by omega), cellKeep hB y10 (by omega), cellKeep hB y0 (by omega), cellKeep hB y1 (by omega), cellKeep hB y2 (by omega), cellKeep hB y3 (by omega), cellKeep hB y4 (by omega), cellKeep hB q5 hb5P⟩
            obtain ⟨i0, hi, hz0, hz1, hz2⟩ := info_parts winr_info
            refine wp_region_until 13 (fun w' => w'.cell? ⟨X, 2, none⟩ = some (.slice As rs.length cs) ∧ w'.cell? ⟨w.heap.size + 2, 0, none⟩ = some (.string x0) ∧ w'.cell? ⟨w.heap.size + 2, 1, none⟩ = some (.int .i64 x1) ∧ w'.cell? ⟨w.heap.size + 2, 2, none⟩ = some (.int .i64 x2) ∧ w'.cell? ⟨w.heap.size + 2, 3, none⟩ = some (.int .i64 x3) ∧ w'.cell? ⟨w.heap.size + 2, 4, none⟩ = some (.int .i64 x4) ∧ w'.cell? ⟨w.heap.size + 2, 5, none⟩ = some (.bool x5) ∧ w'.cell? ⟨w.heap.size, 0, none⟩ = some (.int .i64 m0) ∧ w'.cell? ⟨w.heap.size, 1, none⟩ = some (.slice A1 ps.length c1) ∧ w'.cell? ⟨w.heap.size, 2, none⟩ = some (.slice A2 ss.length c2) ∧ w'.cell? ⟨w.heap.size + 1, 0, none⟩ = some (.slice (some ⟨b1, o1, none⟩) c.points.length c3) ∧ w'.cell? ⟨w.heap.size + 1, 1, none⟩ = some (.slice (some ⟨b2, o2, none⟩) c.segs.length c4) ∧ w'.cell? ⟨b5, o5 + k, none⟩ = some (.int .i64 (g : Int))) (by kernel_rfl) ?_
            have hS := keepS wb.drew (Below.drew (Below.refl _ _))
            refine untilR.takeD (i := 0) (v := ?_) rfl (by kernel_rfl) (by kernel_rfl) (by kernel_rfl) (by kernel_rfl) (fun _ _ _ h => h) (.inl ⟨by rfl, ?_⟩) hS ?_
            rotate_left
            · (intro w' hSw; go_simp; first | done | with_reducible rfl)
            try simp only [Act.put, List.setIfInBounds_toArray, List.set_cons_zero, List.set_cons_succ]
            refine untilR.takeD (i := 1) (v := ?_) rfl (by kernel_rfl) (by kernel_rfl) (by kernel_rfl) (by kernel_rfl) (fun _ _ _ h => h) (.inl ⟨by rfl, ?_⟩) hS ?_
            rotate_left
            · (intro w' hSw; go_simp; first | done | with_reducible rfl)
            try simp only [Act.put, List.setIfInBounds_toArray, List.set_cons_zero, List.set_cons_succ]
            refine untilR.takeD (i := 2) (v := ?_) rfl (by kernel_rfl) (by kernel_rfl) (by kernel_rfl) (by kernel_rfl) (fun _ _ _ h => h) (.inl ⟨by rfl, ?_⟩) hS ?_
            rotate_left
            · (intro w' hSw; go_simp; first | done | with_reducible rfl)
            try simp only [Act.put, List.setIfInBounds_toArray, List.set_cons_zero, List.set_cons_succ]
            refine untilR.takeD (i := 3) (v := ?_) rfl (by kernel_rfl) (by kernel_rfl) (by kernel_rfl) (by kernel_rfl) (fun _ _ _ h => h) (.inl ⟨by rfl, ?_⟩) hS ?_
            rotate_left
            · (intro w' hSw; go_simp; first | done | with_reducible rfl)
            try simp only [Act.put, List.setIfInBounds_toArray, List.set_cons_zero, List.set_cons_succ]
            refine untilR.takeD (i := 4) (v := ?_) rfl (by kernel_rfl) (by kernel_rfl) (by kernel_rfl) (by kernel_rfl) (fun _ _ _ h => h) (.inl ⟨by rfl, ?_⟩) hS ?_
            rotate_left
            · (intro w' hSw; go_simp; first | done | with_reducible rfl)
            try simp only [Act.put, List.setIfInBounds_toArray, List.set_cons_zero, List.set_cons_succ]
            refine untilR.takeD (i := 5) (v := ?_) rfl (by kernel_rfl) (by kernel_rfl) (by kernel_rfl) (by kernel_rfl) (fun _ _ _ h => h) (.inl ⟨by rfl, ?_⟩) hS ?_
            rotate_left
            · (intro w' hSw; go_simp; first | done | with_reducible rfl)
            try simp only [Act.put, List.setIfInBounds_toArray, List.set_cons_zero, List.set_cons_succ]
            refine untilR.takeD (i := 6) (v := ?_) rfl (by kernel_rfl) (by kernel_rfl) (by kernel_rfl) (by kernel_rfl) (fun _ _ _ h => h) (.inl ⟨by rfl, ?_⟩) hS ?_
            rotate_left
            · (intro w' hSw; go_simp; first | done | with_reducible rfl)
            try simp only [Act.put, List.setIfInBounds_toArray, List.set_cons_zero, List.set_cons_succ]
            refine untilR.takeD (i := 7) (v := ?_) rfl (by kernel_rfl) (by kernel_rfl) (by kernel_rfl) (by kernel_rfl) (fun _ _ _ h => h) (.inl ⟨by rfl, ?_⟩) hS ?_
            rotate_left
            · (intro w' hSw; go_simp; first | done | with_reducible rfl)
            try simp only [Act.put, List.setIfInBounds_toArray, List.set_cons_zero, List.set_cons_succ]
            refine untilR.takeD (i := 8) (v := ?_) rfl (by kernel_rfl) (by kernel_rfl) (by kernel_rfl) (by kernel_rfl) (fun _ _ _ h => h) (.inl ⟨by rfl, ?_⟩) hS ?_
            rotate_left
            · (intro w' hSw; go_simp; first | done | with_reducible rfl)
            try simp only [Act.put, List.setIfInBounds_toArray, List.set_cons_zero, List.set_cons_succ]
            refine untilR.oneD (i := 9) (by kernel_rfl) rfl rfl (fun K hK => ?_)
            refine wp_call (f := 14) (args := #[.agg #[.int .i64 m0, .slice A1 ps.length c1, .slice A2 ss.length c2], .agg #[.slice (some ⟨b1, o1, none⟩) c.points.length c3, .slice (some ⟨b2, o2, none⟩) c.segs.length c4], .int .i64 (g : Int), (⟨x0, x1, x2, x3, x4, x5⟩ : ShipD).val]) (by first | (go_simp; done) | (go_simp; exact ⟨rfl, rfl⟩)) ((impl_SureStarts_any _ _ _ _ ⟨m0, ps, ss⟩ c (g : Int) ⟨x0, x1, x2, x3, x4, x5⟩ _ ((HFR.out.keep (HBWO.out.trans (Below.drew (Below.refl _ _))) (Nat.le_refl _)).mono ((HBWO.out.trans (Below.drew (Below.refl _ _)))).size) ((HCR.out.keep (HBWO.out.trans (Below.drew (Below.refl _ _))) (Nat.le_refl _)).mono ((HBWO.out.trans (Below.drew (Below.refl _ _)))).size) HOKP.out HS.out).mono (fun e w' hh => hh)) ?_
            rintro v8 w8 ⟨ho8, hb8⟩
            obtain ⟨A8, c8, rfl, -, -, -⟩ := Own.rd WindowD.enc_len ho8
            have HO8 := hide (ho8.mono (base' := P) hPo)
            have HB8 := hide (show Below P wb w8 from (Below.drew (Below.refl _ _)).trans (hb8.mono hPo))
            have VO8 := hide (VO.out.below ((Below.drew (Below.refl _ _)).trans hb8))
            have hs8 : P ≤ w8.heap.size := VO8.out.hl
            refine hK.out _ _ (fun _ => keepS _ HB8.out) ?_
            clear hK K hS hb8 ho8
            simp only [Act.put, List.setIfInBounds_toArray, List.set_cons_zero, List.set_cons_succ]
            refine untilR.oneD (i := 10) (by kernel_rfl) rfl rfl (fun K hK => ?_)
            go_simp
            refine hK.out _ _ (fun _ => keepS _ (HB8.out.alloc hs8 _)) ?_
            clear hK K
            try simp only [Act.put, List.setIfInBounds_toArray, List.set_cons_zero, List.set_cons_succ]
            have STA := hide (fun o => VO8.out.below ((Below.refl _ _).alloc (Nat.le_refl _) o))
            have HRL := hide HST.out.1
            refine untilR.oneD (i := 11) (by kernel_rfl) rfl rfl (fun K hK => ?_)
            refine wp_append_in _ WinR.enc_len _ _ 110 (by rfl) P 37 i0 (.slice none 0 0) 24 Tryz.underlying110 hi hz0 hz1 hz2 rfl (by decide) (.slice As rs.length cs) rs (by rfl) (STA.out _).os.1 _ (.slice (some ⟨w8.heap.size, 0, none⟩) 1 1) [(⟨.slice A8 (startsOf false ⟨m0, ps, ss⟩ c (g : Int) ⟨x0, x1, x2, x3, x4, x5⟩).length c8, startsOf false ⟨m0, ps, ss⟩ c (g : Int) ⟨x0, x1, x2, x3, x4, x5⟩⟩ : WinR)] (by rfl) (rd_new (enc := WinR.enc) w8 (⟨.slice A8 (startsOf false ⟨m0, ps, ss⟩ c (g : Int) ⟨x0, x1, x2, x3, x4, x5⟩).length c8, startsOf false ⟨m0, ps, ss⟩ c (g : Int) ⟨x0, x1, x2, x3, x4, x5⟩⟩ : WinR) 37) (fun y hy => winr_one y (by simp at hy; subst hy; exact ⟨_, _, _, rfl⟩)) (by have := hkL.out; have := HRL.out; unfold maxLen; simp; omega) (by have := hkL.out; have := HRL.out; simp; omega) (by simp; omega) ?_
            intro v9 w9 hown9 hgrow9 hblk9
            have hadd := (STA.out _).addS (HO8.out.below ((Below.refl _ _).alloc (Nat.le_refl _) _)) hgrow9 hown9
            have hsn := HST.out.snoc (v := .slice A8 (startsOf false ⟨m0, ps, ss⟩ c (g : Int) ⟨x0, x1, x2, x3, x4, x5⟩).length c8) hlt HGR.out
            obtain ⟨l9, hl9⟩ : ∃ l, rs ++ [(⟨.slice A8 (startsOf false ⟨m0, ps, ss⟩ c (g : Int) ⟨x0, x1, x2, x3, x4, x5⟩).length c8, startsOf false ⟨m0, ps, ss⟩ c (g : Int) ⟨x0, x1, x2, x3, x4, x5⟩⟩ : WinR)] = l := ⟨_, rfl⟩
            rw [hl9] at hown9 hadd hsn
            have HSN := hide hsn
            clear hl9 hsn
            obtain ⟨A9, c9, rfl, -, -, -⟩ := Own.rd WinR.enc_len hown9
            have HAD := hide hadd
            have hcl := (STA.out (.cells #[.slice A8 (startsOf false ⟨m0, ps, ss⟩ c (g : Int) ⟨x0, x1, x2, x3, x4, x5⟩).length c8] 37)).cells hadd.1
            have hy9 := hcl.2.2.1
            have hr9 := hcl.2.2.2.2.2
            have HB9 := hide (show Below P wb w9 from (HB8.out.alloc hs8 _).trans hadd.1)
            clear hown9 hgrow9 hblk9 hadd hcl
            refine hK.out _ _ (fun _ => keepS _ HB9.out) ?_
            clear hK K
            try simp only [Act.put, List.setIfInBounds_toArray, List.set_cons_zero, List.set_cons_succ]
            have hS := keepS _ HB9.out
            refine untilR.takeD (i := 12) (v := ?_) rfl (by kernel_rfl) (by kernel_rfl) (by kernel_rfl) (by kernel_rfl) (fun _ _ _ h => h) (.inl ⟨by rfl, ?_⟩) hS ?_
            rotate_left
            · (intro w' hSw; go_simp; first | done | with_reducible rfl)
            try simp only [Act.put, List.setIfInBounds_toArray, List.set_cons_zero, List.set_cons_succ]
            refine untilR.oneD (i := 13) (by kernel_rfl) rfl rfl (fun K hK => ?_)
            go_simp
            refine hK.out _ _ (fun h => absurd rfl h) ?_
            clear hK K
            try simp only [Act.put, List.setIfInBounds_toArray, List.set_cons_zero, List.set_cons_succ]
            refine untilR.done (by kernel_rfl) ?_ _
            go_wp2
            go_roundw
            case rel => exact ⟨k + 1, _, _, _, l9, by first | rfl | go_num, by omega, hide HAD.out.2, HSN, hide ((HCW.out.fresh (by rw [HP.out]; exact HB9.out)).setX _ _)⟩
            case measure => simp [intOf] <;> omega
      · have hlt' : ¬ (k : Int) < r.length := by omega
        have hke : k = r.length := by omega
        subst hke
        have z0 := VO.out.c0; have z1 := VO.out.c1; have z2 := VO.out.c2
        have hrc0 := cellKeep HBO.out ZR.out.1.1 (show w.heap.size + 3 < W0.heap.size by omega); have hrc1 := cellKeep HBO.out ZR.out.1.2.1 (show w.heap.size + 3 < W0.heap.size by omega); have hrc2 := cellKeep HBO.out ZR.out.1.2.2 (show w.heap.size + 3 < W0.heap.size by omega)
        have hrf0 := frozenKeep HBO.out ZR.out.2.1 (show w.heap.size + 3 < W0.heap.size by omega); have hrf1 := frozenKeep HBO.out ZR.out.2.2.1 (show w.heap.size + 3 < W0.heap.size by omega); have hrf2 := frozenKeep HBO.out ZR.out.2.2.2 (show w.heap.size + 3 < W0.heap.size by omega)
        have hwx : w.heap.size + 3 < wo.heap.size := by omega
        go_wp2
        have hw3 : w.heap.size + 3 < P := by omega
        refine bodyPost_ret (v := .tuple #[.agg #[.slice Aw (mapR (rWait c (routePts c p r)) r.length).length cw, .slice Am (mapR (rMins c ⟨x0, x1, x2, x3, x4, x5⟩ r) r.length).length cm, .slice As rs.length cs], .bool true]) (by simp [results, Tryz.results71, go_sem, hrc0, hrc1, hrc2]) rfl (.inr ⟨HOK.out, _, _, _, rs, rfl, ?_, ?_, ?_, HST.out, ?_⟩)
        · refine Own.mono (base := P) ?_ (by omega)
          exact Own.setFar (Own.setFar (Own.setFar VO.out.ow (VO.out.ow.neX hw3) _) (VO.out.ow.neX hw3) _) (VO.out.ow.neX hw3) _
        · refine Own.mono (base := P) ?_ (by omega)
          exact Own.setFar (Own.setFar (Own.setFar VO.out.om (VO.out.om.neX hw3) _) (VO.out.om.neX hw3) _) (VO.out.om.neX hw3) _
        · refine OwnWW.mono (base := P) ?_ (by omega)
          exact OwnWW.setFar (OwnWW.setFar (OwnWW.setFar VO.out.os hw3 _ _) hw3 _ _) hw3 _ _
        · exact ((HBWO.out.setCell (by simp <;> omega) _).setCell (by simp <;> omega) _).setCell (by simp <;> omega) _
set_option maxRecDepth 100000 in
set_option maxHeartbeats 32000000 in
theorem sail_any (v1 v2 v3 : Value) (ws : List Bool) (ms : List Int) (rs : List WinR) (n : Nat) (m : Int) (w : World) (h1 : RdB w w.heap.size 1 encBo v1 ws) (h2 : RdI w v2 ms) (hww : RdWW w w.heap.size v3 rs) (hn : n ≤ 1048576) (hr0 : 1 ≤ n)
    (WS : Nat → List WindowD) (MS : Nat → Int) (WT : Nat → Bool) (hwl : ws.length = n) (hml : ms.length = n) (hrl : rs.length = n) (hws : ∀ i (h : i < rs.length), rs[i].xs = WS i) (hwo : ∀ i, WinOk (WS i) 2881) (hms : ∀ k (hk : k < ms.length), ms[k] = MS k) (hmr : ∀ k, k < n → 1 ≤ MS k ∧ MS k ≤ 480) (hwt : ∀ k (hk : k < ws.length), ws[k] = WT k) :
    Calls Tryz.prog 72 #[.agg #[v1, v2, v3], .int .i64 m] w (SailRes (sailTo WS MS WT m (n - 1)) w) := by
  have HN := hide hn; have HWS := hide hws; have HWO := hide hwo; have HMS := hide hms; have HWT := hide hwt; have HWW := hide hww; have HRL := hide hrl; have HMR := hide hmr
  obtain ⟨A1, c1, rfl, -, -, h1⟩ := h1
  obtain ⟨A2, c2, rfl, -, -, h2⟩ := h2
  obtain ⟨A5, c5, rfl, -, hm5, h5⟩ := hww.1
  obtain ⟨b1, o1, rfl, hb1', hcell1⟩ := h1 (by omega)
  obtain ⟨b2, o2, rfl, hb2', hcell2⟩ := h2 (by omega)
  obtain ⟨b5, o5, rfl, hb5, hcell5⟩ := h5 (by omega)
  have H1 := hide hcell1; have H2 := hide hcell2; have H5 := hide hcell5
  have hl5 : 0 < rs.length := by omega
  have hl5' : (0 : Int) < rs.length := by omega
  have hr5 : rs.length ≤ n := by omega
  have hr6 : n ≤ rs.length := by omega
  have hm6 : n ≤ ms.length := by omega
  have hw6 : n ≤ ws.length := by omega
  obtain ⟨Aw, cw, evw, -, -, -⟩ := hww.2 rs[0] (List.getElem_mem hl5)
  have hcw : w.cell? ⟨b5, o5, none⟩ = some (.slice Aw rs[0].xs.length cw) := by have := hcell5 0 rs[0] (List.getElem?_eq_getElem hl5) 0 _ rfl; rw [evw] at this; simpa using this
  have hwr := hww.2 rs[0] (List.getElem_mem hl5)
  rw [evw] at hwr
  rw [hws 0 hl5] at hcw hwr
  have HW0 := hide hwr
  unfold maxLen at hm5
  clear hww h1 h2 h5 hn hcell1 hcell2 hcell5 hrl evw hwr hws hwo hms hwt hwl hml hmr
  go_enter Tryz.func72, Tryz.ntmps72
  go_wp2_with fail
  obtain ⟨W0, hW0⟩ : ∃ W, w.alloc (.cells #[.slice (some ⟨b1, o1, none⟩) ws.length c1, .slice (some ⟨b2, o2, none⟩) ms.length c2, .slice (some ⟨b5, o5, none⟩) rs.length c5] 114) = W := ⟨_, rfl⟩
  have hb0 : Below w.heap.size w W0 := by rw [← hW0]; exact (by repeat (first | exact Below.refl _ _ | assumption | refine Below.setCell ?_ (by first | omega | (simp <;> omega)) _ | refine Below.alloc ?_ (by first | omega | (simp <;> omega)) _ | refine below_drewN ?_ _ | refine Below.drew ?_ | refine Below.trans ?_ (Below.mono (by assumption) (by first | omega | (simp <;> omega)))))
  have hlw : w.heap.size < W0.heap.size := by rw [← hW0]; simp
  have z0 : W0.cell? ⟨w.heap.size, 0, none⟩ = some (.slice (some ⟨b1, o1, none⟩) ws.length c1) := by rw [← hW0]; simp [go_sem]
  have z1 : W0.cell? ⟨w.heap.size, 1, none⟩ = some (.slice (some ⟨b2, o2, none⟩) ms.length c2) := by rw [← hW0]; simp [go_sem]
  have z2 : W0.cell? ⟨w.heap.size, 2, none⟩ = some (.slice (some ⟨b5, o5, none⟩) rs.length c5) := by rw [← hW0]; simp [go_sem]
  rw [hW0]
  clear hW0
  refine (impl_HasMinute_any _ (WS 0) m _ ((HW0.out.keep hb0 (Nat.le_refl _)).mono hb0.size)).mono ?_
  rintro e w1 ⟨rfl, hb1⟩
  have HB1 := hide hb1
  have hs1 := hb1.size
  clear hb1 hcw
  rcases hhm : hasMin (WS 0) m with _ | _
  · have HNO := hide (sailTo_none (i := 0) (j := n - 1) (show sailTo WS MS WT m 0 = none by rw [sailTo, hhm]; rfl) (Nat.zero_le _))
    clear hhm
    go_wp2
    go_ret2
    exact SailRes.no HNO.out (hb0.trans (HB1.out.mono (by omega)))
  · have HS0 := hide (show sailTo WS MS WT m 0 = some [m] by rw [sailTo, if_pos hhm])
    clear hhm
    go_wp2_with fail
    have hou0 : Own (w1.alloc (.cells #[.int .i64 m] 3)) w1.heap.size 3 1 encI (.slice (some ⟨w1.heap.size, 0, none⟩) 1 1) [m] := own_freshI w1 m
    have HO0 := hide (hou0.mono (base' := W0.heap.size) hs1)
    have HB2 := hide (HB1.out.trans (show Below W0.heap.size w1 (w1.alloc (.cells #[.int .i64 m] 3)) from (by repeat (first | exact Below.refl _ _ | assumption | refine Below.setCell ?_ (by first | omega | (simp <;> omega)) _ | refine Below.alloc ?_ (by first | omega | (simp <;> omega)) _ | refine below_drewN ?_ _ | refine Below.drew ?_ | refine Below.trans ?_ (Below.mono (by assumption) (by first | omega | (simp <;> omega)))))))
    clear hou0
    go_loopw [6, 7] (fun o iv wr => ∃ (k : Nat) (l : List Int), iv = .int .i64 ((k + 1 : Nat) : Int) ∧ k + 1 ≤ n ∧ Hid (sailTo WS MS WT m k = some l) ∧ Hid (Own wr W0.heap.size 3 1 encI o l) ∧ Hid (Below W0.heap.size W0 wr)) (fun _ iv _ => n - (intOf iv).toNat)
    case atStart => exact ⟨0, [m], by first | rfl | go_num, hr0, HS0, HO0, HB2⟩
    case round =>
      clear HS0 HO0 HB1 HB2 hs1
      obtain ⟨k, l, rfl, hk, HS, HO, HB⟩ := hrel
      obtain ⟨wo, rfl⟩ : ∃ wo : World, wo = wr := ⟨_, rfl⟩
      have hsz := HB.out.size
      have HLL := hide (sailTo_len HS.out)
      have HBW := hide (hb0.trans (HB.out.mono (show w.heap.size ≤ W0.heap.size by omega)))
      obtain ⟨A7, c7, rfl, hc7, hm7, h7⟩ := Own.rd encI_len HO.out
      unfold maxLen at hm7
      have hlw' : w.heap.size < wo.heap.size := by omega
      by_cases hlt : k + 1 < n
      · have hlt' : ((k + 1 : Nat) : Int) < n := by omega
        have hlr5 : ((k + 1 : Nat) : Int) < rs.length := by omega
        have hll : l.length = k + 1 := HLL.out
        have hlr := sailTo_range HWO.out HS.out
        rw [lastP_at hll] at hlr
        obtain ⟨b7, o7, rfl, hb7, hc7'⟩ := h7 (by omega)
        have q7 : wo.cell? ⟨b7, o7 + k, none⟩ = some (.int .i64 (l[k]'(by omega))) := by have := hc7' k (l[k]'(by omega)) (List.getElem?_eq_getElem (by omega)) 0 _ rfl; simpa using this
        have hLP := lastP_at hll
        obtain ⟨la, hla⟩ : ∃ x, l[k]'(by omega) = x := ⟨_, rfl⟩
        rw [hla] at q7 hlr hLP
        obtain ⟨la0, la1⟩ := hlr
        have HLP := hide hLP
        have hkm : k < ms.length := by omega
        have q2 : wo.cell? ⟨b2, o2 + k, none⟩ = some (.int .i64 (MS k)) := by
          have := H2.out k ms[k] (List.getElem?_eq_getElem hkm) 0 _ rfl
          rw [HMS.out k hkm] at this
          exact cellKeep HBW.out (by simpa using this) hb2'
        have hmr := HMR.out k (by omega)
        obtain ⟨mn, hmn⟩ : ∃ x, MS k = x := ⟨_, rfl⟩
        rw [hmn] at q2 hmr
        obtain ⟨mn0, mn1⟩ := hmr
        have HMSK := hide hmn
        have hb2w : b2 < wo.heap.size := by have := HBW.out.size; omega
        have hkI : (k : Int) < ms.length := by omega
        have hkL : (k : Int) < l.length := by omega
        have hk0 : (0 : Int) ≤ (k : Int) := by omega
        have hk1 : IntKind.i64.wrap (((k + 1 : Nat) : Int) - 1) = (k : Int) := by rw [IntWalk.i64_in _ (by omega)]; omega
        have hk2 : ((k + 1 : Nat) : Int) - 1 = (k : Int) := by omega
        have hk3 : IntKind.i64.wrap (k : Int) = (k : Int) := IntWalk.i64_in _ (by omega)
        have hk4 : IntKind.i64.wrap (((k : Int) + 1) - 1) = (k : Int) := by rw [IntWalk.i64_in _ (by omega)]; omega
        have hk5 : ((k : Int) + 1) - 1 = (k : Int) := by omega
        have hsum : IntKind.i64.wrap (la + mn) = la + mn := IntWalk.i64_in _ (by omega)
        clear hla hLP hmn hc7' h7 hll
        have y1 := cellKeep HB.out z1 hlw; have y2 := cellKeep HB.out z2 hlw
        go_wp2_with fail
        refine wp_region_below (Below.refl wo.heap.size wo) (by kernel_rfl) (by kernel_rfl) ?_
        repeat (first
          | go_big_quiet_skip
          | (go_big_quiet_want
             first
              | (refine quiet_value ?_; apply Exists.intro
                 refine ⟨fun wq hq => ?_, ?_⟩
                 · (obtain ⟨hc, hf⟩ := bcell hq; go_simp; first | done | rfl)
                 go_big_quiet_on
                 simp only [Act.put, List.setIfInBounds_toArray, List.set_cons_zero, List.set_cons_succ])
              | (go_big_quiet_op; go_big_quiet_on)
             ))
        refine wpQuiet_nil (fun w7 hbq7 => ?_)
        have HB7 := hide (bnext HB.out hbq7 (Nat.le_refl _))
        have HBW7 := hide (hb0.trans (HB7.out.mono (show w.heap.size ≤ W0.heap.size by omega)))
        have HO7 := hide (HO.out.below hbq7)
        have hs7 := hbq7.size
        have hl5k : k + 1 < rs.length := by omega
        obtain ⟨Av, cv, ev, -, -, -⟩ := HWW.out.2 rs[k + 1] (List.getElem_mem hl5k)
        have hwr := HWW.out.2 rs[k + 1] (List.getElem_mem hl5k)
        rw [ev] at hwr
        rw [HWS.out _ hl5k] at hwr
        have q5 : w7.cell? ⟨b5, o5 + (k + 1), none⟩ = some (.slice Av (WS (k + 1)).length cv) := by
          have := H5.out (k + 1) rs[k + 1] (List.getElem?_eq_getElem hl5k) 0 _ rfl
          rw [ev, HWS.out _ hl5k] at this
          exact cellKeep HBW7.out (by simpa using this) hb5
        have HWR := hide hwr
        have hb57 : b5 < w7.heap.size := by omega
        have y3 := cellKeep HB7.out z2 hlw
        clear hbq7 hwr ev q7 q2 y1 y2 hk1 hk2 hk3 hk4 hk5
        go_wp2_with fail
        refine (impl_NextMinute_any _ (WS (k + 1)) _ _ ((HWR.out.keep HBW7.out (Nat.le_refl _)).mono HBW7.out.size) (HWO.out _)).mono ?_
        rintro e w9 ⟨rfl, hb9⟩
        have hNR := nextMin_range (xs := WS (k + 1)) (m := la + mn) (fun x hx => by obtain ⟨j, hj, rfl⟩ := List.getElem_of_mem hx; have := (HWO.out (k + 1)).1 j hj; omega)
        obtain ⟨N, hN⟩ : ∃ n, nextMin (WS (k + 1)) (la + mn) = n := ⟨_, rfl⟩
        rw [hN] at hNR ⊢
        have HNN := hide hN
        have HB9 := hide (bnext HB7.out hb9 (Nat.le_refl _))
        have HBW9 := hide (hb0.trans (HB9.out.mono (show w.heap.size ≤ W0.heap.size by omega)))
        have HO9 := hide (HO7.out.below hb9)
        have hs9 := hb9.size
        have hpk : k + 1 < ws.length := by omega
        have q1 : w9.cell? ⟨b1, o1 + (k + 1), none⟩ = some (.bool (WT (k + 1))) := by
          have := H1.out (k + 1) ws[k + 1] (List.getElem?_eq_getElem hpk) 0 _ rfl
          rw [HWT.out _ hpk] at this
          exact cellKeep HBW9.out (by simpa using this) hb1'
        have y0 := cellKeep HB9.out z0 hlw
        have hpkI : ((k + 1 : Nat) : Int) < ws.length := by omega
        have hpkI2 : (k : Int) + 1 < ws.length := by omega
        have hpk0 : (0 : Int) ≤ (k : Int) + 1 := by omega
        have hpkN : ((k : Int) + 1).toNat = k + 1 := by omega
        obtain ⟨wt, hwt⟩ : ∃ b, WT (k + 1) = b := ⟨_, rfl⟩
        have HWTK := hide hwt
        rw [hwt] at q1
        obtain ⟨i0, hi, hz0, hz1, hz2⟩ := info_parts int_info
        have hW0a : W0.heap.size ≤ w9.heap.size := by omega
        have hll : l.length ≤ 1048576 := by have := HLL.out; have := HN.out; omega
        clear hb9 hN hwt q5 y3
        rcases Int.lt_or_le N 0 with hneg | hneg
        · have HNO := hide (sailTo_none (i := k + 1) (j := n - 1) (show sailTo WS MS WT m (k + 1) = none by rw [sailTo, HS.out]; simp only; rw [HLP.out, HMSK.out, HNN.out, if_pos (.inl hneg)]) (by omega))
          go_wp2
          go_ret2
          exact SailRes.no HNO.out HBW9.out
        · have hneg' : ¬ N < 0 := by omega
          rcases Int.lt_or_le (la + mn) N with hgt | hgt
          · cases wt
            · have HNO := hide (sailTo_none (i := k + 1) (j := n - 1) (show sailTo WS MS WT m (k + 1) = none by rw [sailTo, HS.out]; simp only; rw [HLP.out, HMSK.out, HNN.out, if_pos (.inr ⟨by omega, HWTK.out⟩)]) (by omega))
              go_wp2
              go_ret2
              exact SailRes.no HNO.out HBW9.out
            · have HSN := hide (show sailTo WS MS WT m (k + 1) = some (l ++ [N]) by rw [sailTo, HS.out]; simp only; rw [HLP.out, HMSK.out, HNN.out, if_neg (by rintro (h | ⟨-, h⟩); omega; (rw [HWTK.out] at h; cases h))])
              go_wp2_with (at_builtin; refine wpList_append_rd _ encI_len encI_one (by rfl) _ _ 71 (by rfl) W0.heap.size 3 i0 _ 8 Tryz.underlying71 hi hz0 hz1 hz2 rfl (by decide) _ l (by rfl) (HO9.out.below ((Below.refl _ _).alloc (Nat.le_refl _) _)) _ _ [N] (by rfl) (rd_new (enc := encI) _ N _) (by unfold maxLen; simp; omega) (by simp; omega) (by simp; omega) ?_; intro rb wb hownb hgrowb hblkb)
              all_goals (try (exfalso; omega))
              have ha : Below w9.heap.size w9 (w9.alloc (.cells #[.int .i64 N] 3)) := (Below.refl _ _).alloc (Nat.le_refl _) _
              have hbb : Below W0.heap.size w9 wb := (ha.mono hW0a).trans (Own.belowGrown (B := W0.heap.size) (HO9.out.below ha) hgrowb (Nat.le_refl _) (by simp <;> omega))
              have hke : IntKind.i64.wrap (((k + 1 : Nat) : Int) + 1) = ((k + 1 : Nat) : Int) + 1 := IntWalk.i64_in _ (by omega)
              go_wp2
              go_roundw
              case rel => exact ⟨k + 1, l ++ [N], by first | rfl | go_num | (congr 1; omega), by omega, HSN, hide hownb, hide (HB9.out.trans hbb)⟩
              case measure => simp [intOf] <;> omega
          · have hgt' : ¬ la + mn < N := by omega
            have hgb : decide (la + mn < N) = false := by simp; omega
            have hgq : N ≤ la + mn := by omega
            have HSN := hide (show sailTo WS MS WT m (k + 1) = some (l ++ [N]) by rw [sailTo, HS.out]; simp only; rw [HLP.out, HMSK.out, HNN.out, if_neg (by omega)])
            go_wp2_with (at_builtin; refine wpList_append_rd _ encI_len encI_one (by rfl) _ _ 71 (by rfl) W0.heap.size 3 i0 _ 8 Tryz.underlying71 hi hz0 hz1 hz2 rfl (by decide) _ l (by rfl) (HO9.out.below ((Below.refl _ _).alloc (Nat.le_refl _) _)) _ _ [N] (by rfl) (rd_new (enc := encI) _ N _) (by unfold maxLen; simp; omega) (by simp; omega) (by simp; omega) ?_; intro rb wb hownb hgrowb hblkb)
            all_goals (try (exfalso; omega))
            have ha : Below w9.heap.size w9 (w9.alloc (.cells #[.int .i64 N] 3)) := (Below.refl _ _).alloc (Nat.le_refl _) _
            have hbb : Below W0.heap.size w9 wb := (ha.mono hW0a).trans (Own.belowGrown (B := W0.heap.size) (HO9.out.below ha) hgrowb (Nat.le_refl _) (by simp <;> omega))
            have hke : IntKind.i64.wrap (((k + 1 : Nat) : Int) + 1) = ((k + 1 : Nat) : Int) + 1 := IntWalk.i64_in _ (by omega)
            go_wp2
            go_roundw
            case rel => exact ⟨k + 1, l ++ [N], by first | rfl | go_num | (congr 1; omega), by omega, HSN, hide hownb, hide (HB9.out.trans hbb)⟩
            case measure => simp [intOf] <;> omega
      · have hlt' : ¬ (((k + 1 : Nat) : Int) < n) := by omega
        have hltr : ¬ (((k + 1 : Nat) : Int) < rs.length) := by omega
        have hke : n - 1 = k := by omega
        have HKE := hide hke
        have y2 := cellKeep HB.out z2 hlw
        clear hke h7
        go_wp2
        go_ret2
        exact ⟨_, by rw [HKE.out, HS.out]; rfl, by rw [HKE.out, HS.out]; exact HO.out.mono (by omega), HBW.out⟩
theorem rMins_range {c : ChartD} {s : ShipD} {p : Int} {r : List Int} (h : routeOk c p r = true) : ∀ k, k < r.length → 1 ≤ rMins c s r k ∧ rMins c s r k ≤ 480 := by
  intro k hk
  obtain ⟨hc, -, hri⟩ := route_ok h
  obtain ⟨g, hg, hgl⟩ := idx_nat (hri k hk)
  obtain ⟨-, -, -, -, -, -, -, hq1, hq2⟩ := chart_seg hc hgl
  unfold rMins
  rw [getD_at hk, hg, segAt_nat hgl]
  exact shipMinutes_range hq1 hq2
set_option maxRecDepth 100000 in
set_option maxHeartbeats 32000000 in
theorem impl_SailRoute_any (v1 v2 v3 v4 v5 : Value) (f : ForeD) (c : ChartD) (s : ShipD) (p : Int) (r : List Int) (m : Int) (w : World) (h : RdFore w w.heap.size v1 v2 f) (hch : RdChart w w.heap.size v3 v4 c) (hr : RdI w v5 r) (hn : r.length ≤ 1048576) (hokp : ∀ x ∈ c.points, x.name.size ≤ maxLen) (hs : s.name.size ≤ maxLen) :
    Calls Tryz.prog 30 #[.agg #[.int .i64 f.m0, v1, v2], .agg #[v3, v4], s.val, .int .i64 p, v5, .int .i64 m] w (SailRes (sailRoute f c s p r m) w) := by
  have HFR := hide h; have HCR := hide hch; have HRR := hide hr; have HOKP := hide hokp; have HN := hide hn
  obtain ⟨m0, ps, ss⟩ := f
  obtain ⟨x0, x1, x2, x3, x4, x5⟩ := s
  obtain ⟨h1, h2⟩ := h
  obtain ⟨h3, h4⟩ := hch
  simp only at h1 h2 hs HFR ⊢
  have HS := hide hs
  obtain ⟨A1, c1, rfl, -, -, -⟩ := h1
  obtain ⟨A2, c2, rfl, -, -, -⟩ := h2
  obtain ⟨A3, c3, rfl, -, -, -⟩ := h3
  obtain ⟨A4, c4, rfl, -, -, -⟩ := h4
  obtain ⟨A5, c5, rfl, hc5, hm5, -⟩ := hr
  unfold maxLen at hm5
  clear hokp hs
  go_enter Tryz.func30, Tryz.ntmps30
  go_wp2_with fail
  obtain ⟨W0, hW0⟩ : ∃ W, (((w.alloc (.cells #[.int .i64 m0, .slice A1 ps.length c1, .slice A2 ss.length c2] 44)).alloc (.cells #[.slice A3 c.points.length c3, .slice A4 c.segs.length c4] 49)).alloc (.cells #[.string x0, .int .i64 x1, .int .i64 x2, .int .i64 x3, .int .i64 x4, .bool x5] 51)) = W := ⟨_, rfl⟩
  have hb0 : Below w.heap.size w W0 := by rw [← hW0]; exact (by repeat (first | exact Below.refl _ _ | assumption | refine Below.setCell ?_ (by first | omega | (simp <;> omega)) _ | refine Below.alloc ?_ (by first | omega | (simp <;> omega)) _ | refine below_drewN ?_ _ | refine Below.drew ?_ | refine Below.trans ?_ (Below.mono (by assumption) (by first | omega | (simp <;> omega)))))
  have hl0 : w.heap.size + 3 ≤ W0.heap.size := by rw [← hW0]; simp
  have z0 : W0.cell? ⟨w.heap.size, 0, none⟩ = some (.int .i64 m0) := by rw [← hW0]; simp [go_sem]
  have z1 : W0.cell? ⟨w.heap.size, 1, none⟩ = some (.slice A1 ps.length c1) := by rw [← hW0]; simp [go_sem]
  have z2 : W0.cell? ⟨w.heap.size, 2, none⟩ = some (.slice A2 ss.length c2) := by rw [← hW0]; simp [go_sem]
  have z3 : W0.cell? ⟨w.heap.size + 1, 0, none⟩ = some (.slice A3 c.points.length c3) := by rw [← hW0]; simp [go_sem]
  have z4 : W0.cell? ⟨w.heap.size + 1, 1, none⟩ = some (.slice A4 c.segs.length c4) := by rw [← hW0]; simp [go_sem]
  have z5 : W0.cell? ⟨w.heap.size + 2, 0, none⟩ = some (.string x0) := by rw [← hW0]; simp [go_sem]
  have z6 : W0.cell? ⟨w.heap.size + 2, 1, none⟩ = some (.int .i64 x1) := by rw [← hW0]; simp [go_sem]
  have z7 : W0.cell? ⟨w.heap.size + 2, 2, none⟩ = some (.int .i64 x2) := by rw [← hW0]; simp [go_sem]
  have z8 : W0.cell? ⟨w.heap.size + 2, 3, none⟩ = some (.int .i64 x3) := by rw [← hW0]; simp [go_sem]
  have z9 : W0.cell? ⟨w.heap.size + 2, 4, none⟩ = some (.int .i64 x4) := by rw [← hW0]; simp [go_sem]
  have z10 : W0.cell? ⟨w.heap.size + 2, 5, none⟩ = some (.bool x5) := by rw [← hW0]; simp [go_sem]
  rw [hW0]
  clear hW0
  have Z := hide (show W0.cell? ⟨w.heap.size, 0, none⟩ = some (.int .i64 m0) ∧ W0.cell? ⟨w.heap.size, 1, none⟩ = some (.slice A1 ps.length c1) ∧ W0.cell? ⟨w.heap.size, 2, none⟩ = some (.slice A2 ss.length c2) ∧ W0.cell? ⟨w.heap.size + 1, 0, none⟩ = some (.slice A3 c.points.length c3) ∧ W0.cell? ⟨w.heap.size + 1, 1, none⟩ = some (.slice A4 c.segs.length c4) ∧ W0.cell? ⟨w.heap.size + 2, 0, none⟩ = some (.string x0) ∧ W0.cell? ⟨w.heap.size + 2, 1, none⟩ = some (.int .i64 x1) ∧ W0.cell? ⟨w.heap.size + 2, 2, none⟩ = some (.int .i64 x2) ∧ W0.cell? ⟨w.heap.size + 2, 3, none⟩ = some (.int .i64 x3) ∧ W0.cell? ⟨w.heap.size + 2, 4, none⟩ = some (.int .i64 x4) ∧ W0.cell? ⟨w.heap.size + 2, 5, none⟩ = some (.bool x5) from ⟨z0, z1, z2, z3, z4, z5, z6, z7, z8, z9, z10⟩)
  have HB0 := hide (Below.refl W0.heap.size W0)
  clear z0 z1 z2 z3 z4 z5 z6 z7 z8 z9 z10
  have HBW0 := hide hb0
  refine (impl_voyageOf_any _ _ _ _ _ ⟨m0, ps, ss⟩ c ⟨x0, x1, x2, x3, x4, x5⟩ p r _ ((HFR.out.keep HBW0.out (Nat.le_refl _)).mono HBW0.out.size) ((HCR.out.keep HBW0.out (Nat.le_refl _)).mono HBW0.out.size) ((RdB.keep HRR.out HBW0.out (Nat.le_refl _)).mono HBW0.out.size) HN.out HOKP.out HS.out).mono ?_
  rintro e w1 (⟨hok, rfl, hb1⟩ | ⟨hok, vw, vm, vs, rs, rfl, how, hom, hos, hst, hb1⟩)
  · have HNO := hide (show sailRoute ⟨m0, ps, ss⟩ c ⟨x0, x1, x2, x3, x4, x5⟩ p r m = none from by unfold sailRoute; rw [hok]; rfl)
    have HB1 := hide (hb0.trans (hb1.mono (show w.heap.size ≤ W0.heap.size by omega)))
    clear hok hb1
    go_wp2
    go_ret2
    exact SailRes.no HNO.out (HB1.out.alloc HB1.out.size _)
  · obtain ⟨g1, g2, g3, g4⟩ := sailOk_iff hok
    have G3 := hide g3; have hr0 : 1 ≤ r.length := g4
    have HOK := hide hok
    obtain ⟨Aw, cw, rfl, -, -, -⟩ := Own.rd encBo_len how
    obtain ⟨Am, cm, rfl, -, -, -⟩ := Own.rd encI_len hom
    obtain ⟨As, cs, rfl, -, -, -⟩ := Own.rd WinR.enc_len hos.1
    have HW := hide how; have HM := hide hom; have HO := hide hos; have HST := hide hst
    have HB1 := hide (hb0.trans (hb1.mono (show w.heap.size ≤ W0.heap.size by omega)))
    have s1 := hb1.size
    clear g1 g2 g3 g4 hok how hom hos hst hb1
    have HSR := hide (show sailRoute ⟨m0, ps, ss⟩ c ⟨x0, x1, x2, x3, x4, x5⟩ p r m = sailTo (rWins ⟨m0, ps, ss⟩ c ⟨x0, x1, x2, x3, x4, x5⟩ r) (rMins c ⟨x0, x1, x2, x3, x4, x5⟩ r) (rWait c (routePts c p r)) m (r.length - 1) by unfold sailRoute; rw [if_pos HOK.out]; rfl)
    go_wp2_with fail
    refine (sail_any _ _ _ (mapR (rWait c (routePts c p r)) r.length) (mapR (rMins c ⟨x0, x1, x2, x3, x4, x5⟩ r) r.length) rs r.length m _ (Own.rd encBo_len (HW.out.below ((Below.refl _ _).alloc (Nat.le_refl _) _))) (Own.rd encI_len (HM.out.below ((Below.refl _ _).alloc (Nat.le_refl _) _))) ((HO.out.below ((Below.refl _ _).alloc (Nat.le_refl _) _)).rd) HN.out hr0 (rWins ⟨m0, ps, ss⟩ c ⟨x0, x1, x2, x3, x4, x5⟩ r) (rMins c ⟨x0, x1, x2, x3, x4, x5⟩ r) (rWait c (routePts c p r)) (mapR_len _ _) (mapR_len _ _) HST.out.1 HST.out.2 (fun i => startsOf_ok false _ c _ _) (fun k hk => mapR_at _ hk) (rMins_range G3.out) (fun k hk => mapR_at _ hk)).mono ?_
    rintro e w3 ⟨v3, rfl, ho3, hb3⟩
    have HO3 := hide ho3
    have HB3 := hide ((HB1.out.alloc HB1.out.size _).trans (hb3.mono (by have := HB1.out.size; simp; omega)))
    clear ho3 hb3
    go_wp2
    go_ret2
    exact ⟨v3, by rw [HSR.out]; rfl, by rw [HSR.out]; exact HO3.out.mono (by have := HB1.out.size; simp; omega), HB3.out⟩
set_option maxRecDepth 100000 in
set_option maxHeartbeats 32000000 in
theorem impl_FirstSail_any (v1 v2 v3 v4 v5 : Value) (f : ForeD) (c : ChartD) (s : ShipD) (p : Int) (r : List Int) (m : Int) (w : World) (h : RdFore w w.heap.size v1 v2 f) (hch : RdChart w w.heap.size v3 v4 c) (hr : RdI w v5 r) (hn : r.length ≤ 1048576) (hokp : ∀ x ∈ c.points, x.name.size ≤ maxLen) (hs : s.name.size ≤ maxLen) :
    Calls Tryz.prog 35 #[.agg #[.int .i64 f.m0, v1, v2], .agg #[v3, v4], s.val, .int .i64 p, v5, .int .i64 m] w (SailRes (firstSail f c s p r m) w) := by
  have HFR := hide h; have HCR := hide hch; have HRR := hide hr; have HOKP := hide hokp; have HN := hide hn
  obtain ⟨m0, ps, ss⟩ := f
  obtain ⟨x0, x1, x2, x3, x4, x5⟩ := s
  obtain ⟨h1, h2⟩ := h
  obtain ⟨h3, h4⟩ := hch
  simp only at h1 h2 hs HFR ⊢
  have HS := hide hs
  obtain ⟨A1, c1, rfl, -, -, -⟩ := h1
  obtain ⟨A2, c2, rfl, -, -, -⟩ := h2
  obtain ⟨A3, c3, rfl, -, -, -⟩ := h3
  obtain ⟨A4, c4, rfl, -, -, -⟩ := h4
  obtain ⟨A5, c5, rfl, hc5, hm5, -⟩ := hr
  unfold maxLen at hm5
  clear hokp hs
  go_enter Tryz.func35, Tryz.ntmps35
  go_wp2_with fail
  obtain ⟨W0, hW0⟩ : ∃ W, (((w.alloc (.cells #[.int .i64 m0, .slice A1 ps.length c1, .slice A2 ss.length c2] 44)).alloc (.cells #[.slice A3 c.points.length c3, .slice A4 c.segs.length c4] 49)).alloc (.cells #[.string x0, .int .i64 x1, .int .i64 x2, .int .i64 x3, .int .i64 x4, .bool x5] 51)) = W := ⟨_, rfl⟩
  have hb0 : Below w.heap.size w W0 := by rw [← hW0]; exact (by repeat (first | exact Below.refl _ _ | assumption | refine Below.setCell ?_ (by first | omega | (simp <;> omega)) _ | refine Below.alloc ?_ (by first | omega | (simp <;> omega)) _ | refine below_drewN ?_ _ | refine Below.drew ?_ | refine Below.trans ?_ (Below.mono (by assumption) (by first | omega | (simp <;> omega)))))
  have hl0 : w.heap.size + 3 ≤ W0.heap.size := by rw [← hW0]; simp
  have z0 : W0.cell? ⟨w.heap.size, 0, none⟩ = some (.int .i64 m0) := by rw [← hW0]; simp [go_sem]
  have z1 : W0.cell? ⟨w.heap.size, 1, none⟩ = some (.slice A1 ps.length c1) := by rw [← hW0]; simp [go_sem]
  have z2 : W0.cell? ⟨w.heap.size, 2, none⟩ = some (.slice A2 ss.length c2) := by rw [← hW0]; simp [go_sem]
  have z3 : W0.cell? ⟨w.heap.size + 1, 0, none⟩ = some (.slice A3 c.points.length c3) := by rw [← hW0]; simp [go_sem]
  have z4 : W0.cell? ⟨w.heap.size + 1, 1, none⟩ = some (.slice A4 c.segs.length c4) := by rw [← hW0]; simp [go_sem]
  have z5 : W0.cell? ⟨w.heap.size + 2, 0, none⟩ = some (.string x0) := by rw [← hW0]; simp [go_sem]
  have z6 : W0.cell? ⟨w.heap.size + 2, 1, none⟩ = some (.int .i64 x1) := by rw [← hW0]; simp [go_sem]
  have z7 : W0.cell? ⟨w.heap.size + 2, 2, none⟩ = some (.int .i64 x2) := by rw [← hW0]; simp [go_sem]
  have z8 : W0.cell? ⟨w.heap.size + 2, 3, none⟩ = some (.int .i64 x3) := by rw [← hW0]; simp [go_sem]
  have z9 : W0.cell? ⟨w.heap.size + 2, 4, none⟩ = some (.int .i64 x4) := by rw [← hW0]; simp [go_sem]
  have z10 : W0.cell? ⟨w.heap.size + 2, 5, none⟩ = some (.bool x5) := by rw [← hW0]; simp [go_sem]
  rw [hW0]
  clear hW0
  have Z := hide (show W0.cell? ⟨w.heap.size, 0, none⟩ = some (.int .i64 m0) ∧ W0.cell? ⟨w.heap.size, 1, none⟩ = some (.slice A1 ps.length c1) ∧ W0.cell? ⟨w.heap.size, 2, none⟩ = some (.slice A2 ss.length c2) ∧ W0.cell? ⟨w.heap.size + 1, 0, none⟩ = some (.slice A3 c.points.length c3) ∧ W0.cell? ⟨w.heap.size + 1, 1, none⟩ = some (.slice A4 c.segs.length c4) ∧ W0.cell? ⟨w.heap.size + 2, 0, none⟩ = some (.string x0) ∧ W0.cell? ⟨w.heap.size + 2, 1, none⟩ = some (.int .i64 x1) ∧ W0.cell? ⟨w.heap.size + 2, 2, none⟩ = some (.int .i64 x2) ∧ W0.cell? ⟨w.heap.size + 2, 3, none⟩ = some (.int .i64 x3) ∧ W0.cell? ⟨w.heap.size + 2, 4, none⟩ = some (.int .i64 x4) ∧ W0.cell? ⟨w.heap.size + 2, 5, none⟩ = some (.bool x5) from ⟨z0, z1, z2, z3, z4, z5, z6, z7, z8, z9, z10⟩)
  have HB0 := hide (Below.refl W0.heap.size W0)
  clear z0 z1 z2 z3 z4 z5 z6 z7 z8 z9 z10
  have HBW0 := hide hb0
  refine (impl_voyageOf_any _ _ _ _ _ ⟨m0, ps, ss⟩ c ⟨x0, x1, x2, x3, x4, x5⟩ p r _ ((HFR.out.keep HBW0.out (Nat.le_refl _)).mono HBW0.out.size) ((HCR.out.keep HBW0.out (Nat.le_refl _)).mono HBW0.out.size) ((RdB.keep HRR.out HBW0.out (Nat.le_refl _)).mono HBW0.out.size) HN.out HOKP.out HS.out).mono ?_
  rintro e w1 (⟨hok, rfl, hb1⟩ | ⟨hok, vw, vm, vs, rs, rfl, how, hom, hos, hst, hb1⟩)
  · have HNO := hide (show firstSail ⟨m0, ps, ss⟩ c ⟨x0, x1, x2, x3, x4, x5⟩ p r m = none from by unfold firstSail; rw [hok]; rfl)
    have HB1 := hide (hb0.trans (hb1.mono (show w.heap.size ≤ W0.heap.size by omega)))
    clear hok hb1
    go_wp2
    go_ret2
    exact SailRes.no HNO.out (HB1.out.alloc HB1.out.size _)
  · obtain ⟨g1, g2, g3, g4⟩ := sailOk_iff hok
    have G3 := hide g3; have hr0 : 1 ≤ r.length := g4
    have HOK := hide hok
    obtain ⟨Aw, cw, rfl, -, -, -⟩ := Own.rd encBo_len how
    obtain ⟨Am, cm, rfl, -, -, -⟩ := Own.rd encI_len hom
    obtain ⟨As, cs, rfl, -, -, -⟩ := Own.rd WinR.enc_len hos.1
    have HW := hide how; have HM := hide hom; have HO := hide hos; have HST := hide hst
    have HB1 := hide (hb0.trans (hb1.mono (show w.heap.size ≤ W0.heap.size by omega)))
    have s1 := hb1.size
    clear g1 g2 g3 g4 hok how hom hos hst hb1
    have HSR := hide (show firstSail ⟨m0, ps, ss⟩ c ⟨x0, x1, x2, x3, x4, x5⟩ p r m = firstFrom (sailFrom ⟨m0, ps, ss⟩ c ⟨x0, x1, x2, x3, x4, x5⟩ p r) (max 0 m) (2881 - max 0 m).toNat by unfold firstSail; rw [if_pos HOK.out])
    obtain ⟨M, hM⟩ : ∃ x, max 0 m = x := ⟨_, rfl⟩
    have hM0 : 0 ≤ M := by omega
    rw [hM] at HSR
    go_upto_region 4 with fail
    obtain ⟨W2, hW2⟩ : ∃ W, w1.alloc (.cells #[.slice Aw (mapR (rWait c (routePts c p r)) r.length).length cw, .slice Am (mapR (rMins c ⟨x0, x1, x2, x3, x4, x5⟩ r) r.length).length cm, .slice As rs.length cs] 114) = W := ⟨_, rfl⟩
    have hb2 : Below w1.heap.size w1 W2 := by rw [← hW2]; exact (Below.refl _ _).alloc (Nat.le_refl _) _
    have hs2 : w1.heap.size < W2.heap.size := by rw [← hW2]; simp
    have q0 : W2.cell? ⟨w1.heap.size, 0, none⟩ = some (.slice Aw (mapR (rWait c (routePts c p r)) r.length).length cw) := by rw [← hW2]; simp [go_sem]
    have q1 : W2.cell? ⟨w1.heap.size, 1, none⟩ = some (.slice Am (mapR (rMins c ⟨x0, x1, x2, x3, x4, x5⟩ r) r.length).length cm) := by rw [← hW2]; simp [go_sem]
    have q2 : W2.cell? ⟨w1.heap.size, 2, none⟩ = some (.slice As rs.length cs) := by rw [← hW2]; simp [go_sem]
    rw [hW2]
    clear hW2
    have HQ := hide (And.intro q0 (And.intro q1 q2))
    have HB2 := hide (HB1.out.trans (hb2.mono HB1.out.size))
    have HW2 := hide (HW.out.below hb2); have HM2 := hide (HM.out.below hb2); have HO2 := hide (HO.out.below hb2)
    clear q0 q1 q2 hb2
    go_cut [16] (fun s16 wx => s16 = .int .i64 M ∧ wx = W2)
    case first =>
      go_wp2_with fail
      all_goals
        go_meet
        exact ⟨by first | rfl | (have e : m = M := (by omega); rw [e]) | (have e : (0 : Int) = M := (by omega); rw [← e]), rfl⟩
    case rest =>
      obtain ⟨rfl, rfl⟩ := hcut
      clear hM
      go_wp2_with fail
      go_loopw [16] (fun iv wr => ∃ mm : Int, iv = .int .i64 mm ∧ M ≤ mm ∧ Hid (firstFrom (sailFrom ⟨m0, ps, ss⟩ c ⟨x0, x1, x2, x3, x4, x5⟩ p r) M (2881 - M).toNat = firstFrom (sailFrom ⟨m0, ps, ss⟩ c ⟨x0, x1, x2, x3, x4, x5⟩ p r) mm (2881 - mm).toNat) ∧ Hid (Below wc.heap.size wc wr)) (fun iv _ => (2881 - intOf iv).toNat)
      case atStart => exact ⟨M, rfl, Int.le_refl _, hide rfl, hide (Below.refl _ _)⟩
      case round =>
        obtain ⟨mm, rfl, hm1, HF, HB⟩ := hrel
        obtain ⟨wo, rfl⟩ : ∃ wo : World, wo = wr := ⟨_, rfl⟩
        have hso := HB.out.size
        have HBO := hide (HB2.out.trans (HB.out.mono (show w.heap.size ≤ wc.heap.size from HB2.out.size)))
        by_cases hlt : mm ≤ 2880
        · have hmw : IntKind.i64.wrap (mm + 1) = mm + 1 := IntWalk.i64_in _ (by omega)
          have q0 := cellKeep HB.out HQ.out.1 hs2; have q1 := cellKeep HB.out HQ.out.2.1 hs2; have q2 := cellKeep HB.out HQ.out.2.2 hs2
          go_wp2_with fail
          refine (sail_any _ _ _ (mapR (rWait c (routePts c p r)) r.length) (mapR (rMins c ⟨x0, x1, x2, x3, x4, x5⟩ r) r.length) rs r.length mm _ (Own.rd encBo_len (HW2.out.below HB.out)) (Own.rd encI_len (HM2.out.below HB.out)) ((HO2.out.below HB.out).rd) HN.out hr0 (rWins ⟨m0, ps, ss⟩ c ⟨x0, x1, x2, x3, x4, x5⟩ r) (rMins c ⟨x0, x1, x2, x3, x4, x5⟩ r) (rWait c (routePts c p r)) (mapR_len _ _) (mapR_len _ _) HST.out.1 HST.out.2 (fun i => startsOf_ok false _ c _ _) (fun k hk => mapR_at _ hk) (rMins_range G3.out) (fun k hk => mapR_at _ hk)).mono ?_
          rintro e w6 ⟨v6, rfl, ho6, hb6⟩
          obtain ⟨O, hO⟩ : ∃ o, sailTo (rWins ⟨m0, ps, ss⟩ c ⟨x0, x1, x2, x3, x4, x5⟩ r) (rMins c ⟨x0, x1, x2, x3, x4, x5⟩ r) (rWait c (routePts c p r)) mm (r.length - 1) = o := ⟨_, rfl⟩
          rw [hO] at ho6 ⊢
          have HOO := hide (show sailFrom ⟨m0, ps, ss⟩ c ⟨x0, x1, x2, x3, x4, x5⟩ p r mm = O from hO)
          have HO6 := hide ho6
          have hB6 := bnext HB.out hb6 (Nat.le_refl _)
          have HB6 := hide hB6
          clear hO ho6 hb6 hB6 q0 q1 q2
          rcases O with _ | l
          · simp only [Option.isSome_none]
            go_wp2
            go_roundw
            case rel => exact ⟨mm + 1, rfl, by omega, hide (HF.out.trans (firstFrom_none hlt HOO.out)), HB6⟩
            case measure => simp [intOf]; omega
          · simp only [Option.isSome_some]
            have HRES := hide (show firstSail ⟨m0, ps, ss⟩ c ⟨x0, x1, x2, x3, x4, x5⟩ p r m = some l from HSR.out.trans (HF.out.trans (firstFrom_some hlt HOO.out)))
            go_wp2
            go_ret2
            exact ⟨v6, by rw [HRES.out]; rfl, by rw [HRES.out]; exact HO6.out.mono (by have := HB1.out.size; omega), HB2.out.trans (HB6.out.mono HB2.out.size)⟩
        · have hlt' : ¬ mm ≤ 2880 := hlt
          have HRES := hide (show firstSail ⟨m0, ps, ss⟩ c ⟨x0, x1, x2, x3, x4, x5⟩ p r m = none from HSR.out.trans (HF.out.trans (by rw [show (2881 - mm).toNat = 0 by omega]; rfl)))
          go_wp2
          go_ret2
          exact SailRes.no HRES.out HBO.out
theorem sailRes_at {f : FuncId} {args : Array Value} {o : Option (List Int)} {w : World} {b : Bool} {l : List Int} (h : Calls Tryz.prog f args w (SailRes o w)) (hb : o.isSome = b) (hl : o.getD [] = l) :
    Calls Tryz.prog f args w fun e w' => ∃ v, e = .returned (.tuple #[v, .bool b]) ∧ Own w' w.heap.size 3 1 encI v l ∧ Below w.heap.size w w' := by
  refine h.mono ?_
  rintro e w' ⟨v, rfl, h1, h2⟩
  exact ⟨v, by rw [hb], by rw [← hl]; exact h1, h2⟩
theorem sailRoute_len (f : ForeD) (c : ChartD) (s : ShipD) (p : Int) (r : List Int) (m : Int) : ((sailRoute f c s p r m).getD []).length ≤ r.length := by
  unfold sailRoute
  cases hok : sailOk f c s p r with
  | false => simp
  | true =>
    simp only [if_true]
    have h4 := (sailOk_iff hok).2.2.2
    cases h : sailFrom f c s p r m with
    | none => simp
    | some l =>
      have := sailTo_len (show sailTo _ _ _ m (r.length - 1) = some l from h)
      simp only [Option.getD_some]; omega
theorem firstFrom_is {g : Int → Option (List Int)} {l : List Int} : ∀ {n : Nat} {m : Int}, firstFrom g m n = some l → ∃ k, g k = some l
  | 0, m, h => by cases h
  | n + 1, m, h => by
    rw [firstFrom] at h
    cases e : g m with
    | some q => rw [e] at h; cases h; exact ⟨m, e⟩
    | none => rw [e] at h; exact firstFrom_is h
theorem firstSail_len (f : ForeD) (c : ChartD) (s : ShipD) (p : Int) (r : List Int) (m : Int) : ((firstSail f c s p r m).getD []).length ≤ r.length := by
  unfold firstSail
  cases hok : sailOk f c s p r with
  | false => simp
  | true =>
    simp only [if_true]
    have h4 := (sailOk_iff hok).2.2.2
    cases h : firstFrom (sailFrom f c s p r) (max 0 m) (2881 - max 0 m).toNat with
    | none => simp
    | some l =>
      obtain ⟨k, hk⟩ := firstFrom_is h
      have := sailTo_len (show sailTo _ _ _ k (r.length - 1) = some l from hk)
      simp only [Option.getD_some]; omega
end Go.Proofs.YtpbcbdjjpkenjaaGreat
