/- MakeTraffic: a valid chart, a valid regime and passages, drawn out of bytes. No condition. -/
import Derived.Test.YtefidlecandnlaaTraf
import Derived.Test.YtefidlecandnlaaChOk
import Derived.Deep.DeepCutAuto
namespace Go.Proofs.Ytefidlecandnlaa
open Go.RowKit
set_option linter.unusedVariables false
theorem PassageD.enc_one (x : PassageD) : ∀ u ∈ x.enc, u.oneCell' = true := by
  intro u hu
  simp only [PassageD.enc, List.mem_cons, List.not_mem_nil, or_false] at hu
  rcases hu with rfl | rfl | rfl | rfl | rfl <;> rfl
theorem OwnB.curw {α : Type} {w w' : World} {lo hi sz g : Nat} {T : TypeId} {enc : α → List Value} {v : Value} {xs : List α} (h : OwnB w lo hi T sz enc v xs) (hw : CurW g w w') (hg : g < lo) : OwnB w' lo hi T sz enc v xs := ⟨h.1.curw hw hg, h.2⟩
def TrafRes (w : World) (e : Ending) (w' : World) : Prop :=
  ∃ (vp vs : Value) (c : ChartD) (r0 : Int) (r1 : Bool) (vl : Value) (l : List PassageD), e = .returned (.tuple #[.agg #[vp, vs], .agg #[.int .i64 r0, .bool r1], vl]) ∧ ChartIs c ∧ 0 ≤ r0 ∧ r0 ≤ 29 ∧
    Own w' w.heap.size 133 2 PointD.enc vp c.points ∧ Own w' w.heap.size 98 5 SegmentD.enc vs c.segs ∧ Own w' w.heap.size 49 5 PassageD.enc vl l ∧ (∀ x ∈ l, x.ok) ∧ l.length ≤ 5 ∧ Below w.heap.size w w'
/-- what is known of the worlds in which passages are drawn -/
structure TrafSt (w : World) (P : Nat) (A1 : Option Addr) (n1 c1 : Nat) (A2 : Option Addr) (n2 c2 : Nat) (r0 : Int) (r1 : Bool) (R : Nat) : Prop where
  k0 : w.cell? ⟨P, 0, none⟩ = some (.slice A1 n1 c1)
  k1 : w.cell? ⟨P, 1, none⟩ = some (.slice A2 n2 c2)
  q0 : w.cell? ⟨R, 0, none⟩ = some (.int .i64 r0)
  q1 : w.cell? ⟨R, 1, none⟩ = some (.bool r1)
theorem TrafSt.curw {w w' : World} {P n1 c1 n2 c2 R g : Nat} {A1 A2 : Option Addr} {r0 : Int} {r1 : Bool} (h : TrafSt w P A1 n1 c1 A2 n2 c2 r0 r1 R) (hw : CurW g w w') (hP : P < w.heap.size) (hR : R < w.heap.size) (hgP : ¬ P = g) (hgR : ¬ R = g) : TrafSt w' P A1 n1 c1 A2 n2 c2 r0 r1 R := by
  have b1 := hw.block P hP (fun e => hgP (Option.some.inj e)); have b2 := hw.block R hR (fun e => hgR (Option.some.inj e))
  exact ⟨(World.cell?_of_block (a := ⟨P, 0, none⟩) b1).trans h.k0, (World.cell?_of_block (a := ⟨P, 1, none⟩) b1).trans h.k1, (World.cell?_of_block (a := ⟨R, 0, none⟩) b2).trans h.q0, (World.cell?_of_block (a := ⟨R, 1, none⟩) b2).trans h.q1⟩
theorem TrafSt.below {w w' : World} {P n1 c1 n2 c2 R B : Nat} {A1 A2 : Option Addr} {r0 : Int} {r1 : Bool} (h : TrafSt w P A1 n1 c1 A2 n2 c2 r0 r1 R) (hb : Below B w w') (hP : P < B) (hR : R < B) : TrafSt w' P A1 n1 c1 A2 n2 c2 r0 r1 R :=
  ⟨cellKeep hb h.k0 hP, cellKeep hb h.k1 hP, cellKeep hb h.q0 hR, cellKeep hb h.q1 hR⟩
set_option maxRecDepth 100000 in
set_option maxHeartbeats 32000000 in
theorem MakeTraffic_any (v : Value) (bs : List Int) (w : World) (h : RdB w w.heap.size 1 enc8 v bs) (hby : Byt bs) (hn : bs.length ≤ 1048576) :
    Calls Try.prog 56 #[v] w (TrafRes w) := by
  have HR := hide h; have HBY := hide hby; have HN := hide hn; clear hby hn
  obtain ⟨A0, cc0, rfl, hc0, hm0, h1⟩ := h
  unfold maxLen at hm0
  clear h1
  obtain ⟨i0, hi, hz0, hz1, hz2⟩ := info_parts passage_info
  go_enter Try.func56, Try.ntmps56
  go_wp2_with fail
  generalize hW0 : (w.alloc (.cells #[.slice none 0 0, .slice none 0 0] 34)).alloc (.cells #[.int .i64 0, .bool false] 47) = W0
  have hb0 : Below w.heap.size w W0 := by rw [← hW0]; exact (by repeat (first | exact Below.refl _ _ | assumption | refine Below.setCell ?_ (by first | omega | (simp <;> omega)) _ | refine Below.alloc ?_ (by first | omega | (simp <;> omega)) _ | refine below_drewN ?_ _ | refine Below.drew ?_ | refine Below.trans ?_ (Below.mono (by assumption) (by first | omega | (simp <;> omega)))))
  have hl0 : w.heap.size + 1 < W0.heap.size := by rw [← hW0]; simp
  have Z := hide (show (W0.cell? ⟨w.heap.size, 0, none⟩ = some (.slice none 0 0) ∧ W0.cell? ⟨w.heap.size, 1, none⟩ = some (.slice none 0 0) ∧ W0.cell? ⟨w.heap.size + 1, 0, none⟩ = some (.int .i64 0) ∧ W0.cell? ⟨w.heap.size + 1, 1, none⟩ = some (.bool false)) ∧ W0.frozen? ⟨w.heap.size, 0, none⟩ = false ∧ W0.frozen? ⟨w.heap.size, 1, none⟩ = false ∧ W0.frozen? ⟨w.heap.size + 1, 0, none⟩ = false ∧ W0.frozen? ⟨w.heap.size + 1, 1, none⟩ = false by rw [← hW0]; exact ⟨⟨by simp [go_sem], by simp [go_sem], by simp [go_sem], by simp [go_sem]⟩, by simp [go_sem], by simp [go_sem], by simp [go_sem], by simp [go_sem]⟩)
  clear hW0
  refine (l01New_any _ bs _ ((RdB.keep HR.out hb0 (Nat.le_refl _)).mono hb0.size) HBY.out HN.out).mono ?_
  rintro e w2 ⟨g, rfl, hg, hcur, hb2⟩
  have HC := hide hcur; clear hcur
  have hs2 := hb2.size
  go_wp2_with fail
  refine (l05Draw_any _ g _ bs _ HC.out).mono ?_
  rintro e w3 ⟨vp, vs, c, rfl, hci, hop, hos, hcur, hw3⟩
  have HCI := hide hci; have HOP := hide hop; have HOS := hide hos; have HC3 := hide hcur
  obtain ⟨A1, c1, rfl, -, -, -⟩ := Own.rd PointD.enc_len hop
  obtain ⟨A2, c2, rfl, -, -, -⟩ := Own.rd SegmentD.enc_len hos
  have hcp := hci.parts
  have HCP := hide hcp
  obtain ⟨-, -, ⟨hs3, hs5⟩, hp4, hp5⟩ := hcp
  have hgw2 : g < w2.heap.size := HC.out.lt
  have HW3 := hide (show CurW g w2 w3 from hw3)
  have hz3 := hw3.size
  clear hci hop hos hcur hw3 HC
  go_wp2_with fail
  obtain ⟨W4, hW4⟩ : ∃ W, w3.alloc (.cells #[.slice A1 c.points.length c1, .slice A2 c.segs.length c2] 34) = W := ⟨_, rfl⟩
  have hk4 : W4.cell? ⟨w3.heap.size, 0, none⟩ = some (.slice A1 c.points.length c1) ∧ W4.cell? ⟨w3.heap.size, 1, none⟩ = some (.slice A2 c.segs.length c2) := by rw [← hW4]; exact ⟨by simp [go_sem], by simp [go_sem]⟩
  have hb4 : Below w3.heap.size w3 W4 := by rw [← hW4]; exact (Below.refl _ _).alloc (Nat.le_refl _) _
  have hz4 : w3.heap.size < W4.heap.size := by rw [← hW4]; simp
  rw [hW4]
  clear hW4
  obtain ⟨P, hP⟩ : ∃ P, w3.heap.size = P := ⟨_, rfl⟩
  have HOP4 := hide (HOP.out.below hb4); have HOS4 := hide (HOS.out.below hb4)
  have HC4 := hide (HC3.out.keep hb4 HC3.out.lt)
  have HW4 := hide (HW3.out.fresh (hb4.mono hz3))
  rw [hP] at hk4 hz4 hz3 ⊢
  clear HOP HOS HC3 HW3 hb4 hP
  refine (l06Fleet_any _ g _ bs 3 (by omega) (by omega) _ HC4.out).mono ?_
  rintro e w5 ⟨vf, fl, rfl, hof, hf1, hf3, hfi, hcur, hw5⟩
  have HOF := hide hof; have HC5 := hide hcur
  have HOP5 := hide (HOP4.out.curw hw5 hgw2); have HOS5 := hide (HOS4.out.curw hw5 hgw2)
  have HW5 := hide (HW4.out.trans hw5)
  have hz5 := hw5.size
  have hbk := hw5.block P hz4 (fun e => by have := Option.some.inj e; omega)
  have hk5 : w5.cell? ⟨P, 0, none⟩ = some (.slice A1 c.points.length c1) ∧ w5.cell? ⟨P, 1, none⟩ = some (.slice A2 c.segs.length c2) := ⟨(World.cell?_of_block (a := ⟨P, 0, none⟩) hbk).trans hk4.1, (World.cell?_of_block (a := ⟨P, 1, none⟩) hbk).trans hk4.2⟩
  obtain ⟨A3, c3, rfl, -, -, -⟩ := Own.rd ShipD.enc_len hof
  clear hof hfi hcur hw5 hbk hk4 HOP4 HOS4 HC4 HW4
  go_wp2_with fail
  refine (l09Regime_any _ g _ bs _ HC5.out).mono ?_
  rintro e w6 ⟨r0, r1, rfl, hr0, hr1, hcur, hw6⟩
  have HC6 := hide hcur
  have HOP6 := hide (HOP5.out.curw hw6 hgw2); have HOS6 := hide (HOS5.out.curw hw6 hgw2); have HOF6 := hide (HOF.out.curw hw6 (by omega))
  have HW6 := hide (HW5.out.trans hw6)
  have hz6 := hw6.size
  have hbk := hw6.block P (by omega) (fun e => by have := Option.some.inj e; omega)
  have hk6 : w6.cell? ⟨P, 0, none⟩ = some (.slice A1 c.points.length c1) ∧ w6.cell? ⟨P, 1, none⟩ = some (.slice A2 c.segs.length c2) := ⟨(World.cell?_of_block (a := ⟨P, 0, none⟩) hbk).trans hk5.1, (World.cell?_of_block (a := ⟨P, 1, none⟩) hbk).trans hk5.2⟩
  clear hcur hw6 hbk hk5 HOP5 HOS5 HC5 HW5 HOF
  go_wp2_with fail
  obtain ⟨W7, hW7⟩ : ∃ W, (w6.alloc (.cells #[.int .i64 r0, .bool r1] 47)).alloc (.cells #[] 49) = W := ⟨_, rfl⟩
  have hou := own_built0 (enc := PassageD.enc) (w6.alloc (.cells #[.int .i64 r0, .bool r1] 47)) 49 5
  have hz7 : W7.heap.size = w6.heap.size + 2 := by rw [← hW7]; simp
  have hb7 : Below w6.heap.size w6 W7 := by rw [← hW7]; exact (by repeat (first | exact Below.refl _ _ | assumption | refine Below.setCell ?_ (by first | omega | (simp <;> omega)) _ | refine Below.alloc ?_ (by first | omega | (simp <;> omega)) _ | refine below_drewN ?_ _ | refine Below.drew ?_ | refine Below.trans ?_ (Below.mono (by assumption) (by first | omega | (simp <;> omega)))))
  have hst : TrafSt W7 P A1 c.points.length c1 A2 c.segs.length c2 r0 r1 w6.heap.size := by
    refine ⟨cellKeep hb7 hk6.1 (by omega), cellKeep hb7 hk6.2 (by omega), ?_, ?_⟩ <;> (rw [← hW7]; simp [go_sem])
  rw [hW7] at hou ⊢
  have hou' : Own W7 (w6.heap.size + 1) 49 5 PassageD.enc (.slice (some ⟨w6.heap.size + 1, 0, none⟩) 0 0) ([] : List PassageD) := by simpa using hou
  have HOP7 := hide (HOP6.out.b.below hb7 (Nat.le_refl _)); have HOS7 := hide (HOS6.out.b.below hb7 (Nat.le_refl _)); have HOF7 := hide ((HOF6.out.mono (base' := w2.heap.size) (by omega)).b.below hb7 (Nat.le_refl _))
  have HC7 := hide (HC6.out.keep hb7 HC6.out.lt)
  have HW7 := hide (HW6.out.fresh (hb7.mono (by omega)))
  clear hW7 hk6 HOP6 HOS6 HOF6 HC6 HW6 hb7 hou
  refine (l01Below_any _ g _ bs 4 _ HC7.out (by omega)).mono ?_
  rintro e w8 ⟨n0, rfl, n00, -, -, n01, hcur, hw8⟩
  replace n01 := n01 (by omega)
  obtain ⟨n, rfl⟩ : ∃ n : Nat, n0 = n := ⟨n0.toNat, by omega⟩
  have hn1 : IntKind.i64.wrap (2 + (n : Int)) = 2 + (n : Int) := IntWalk.i64_in _ (by omega)
  have hz8 := hw8.size
  obtain ⟨R, hR⟩ : ∃ R, w6.heap.size = R := ⟨_, rfl⟩
  rw [hR] at hst hou' hz7 hz6 HOP7 HOS7 HOF7 ⊢
  have hPR : P < R := by omega
  have hgP : g < P := by omega
  have ST8 := hide (hst.curw hw8 (by omega) (by omega) (by omega) (by omega))
  have HC8 := hide hcur; have HO8 := hide (hou'.curw hw8 (by omega))
  have HOP8 := hide (HOP7.out.curw hw8 hgw2); have HOS8 := hide (HOS7.out.curw hw8 hgw2); have HOF8 := hide (HOF7.out.curw hw8 hgw2)
  have HW8 := hide (HW7.out.trans hw8)
  have hsz8 : R + 1 < w8.heap.size := by omega
  have hw2R : w2.heap.size ≤ R := by omega
  clear hst hou' hcur hw8 HOP7 HOS7 HOF7 HW7 HC7 hz8 hz7 hz6 hz5 hz4 hR
  go_wp2_with fail
  go_loopw [9, 10] (fun o s wr => ∃ (k : Nat) (xs : List PassageD), s = .int .i64 k ∧ k + xs.length ≤ 5 ∧ Hid (Own wr (R + 1) 49 5 PassageD.enc o xs) ∧ Hid (∀ x ∈ xs, x.ok) ∧ Hid (Cur wr W0.heap.size g (.slice A0 bs.length cc0) bs) ∧ Hid (OwnB wr w2.heap.size R 133 2 PointD.enc (.slice A1 c.points.length c1) c.points) ∧ Hid (OwnB wr w2.heap.size R 98 5 SegmentD.enc (.slice A2 c.segs.length c2) c.segs) ∧ Hid (OwnB wr w2.heap.size R 36 6 ShipD.enc (.slice A3 fl.length c3) fl) ∧ Hid (TrafSt wr P A1 c.points.length c1 A2 c.segs.length c2 r0 r1 R) ∧ Hid (CurW g w2 wr) ∧ R + 1 < wr.heap.size) (fun _ s _ => (intOf s).toNat)
  case atStart => exact ⟨2 + n, [], by first | rfl | go_num, by simp; omega, HO8, hide (by simp), HC8, HOP8, HOS8, HOF8, ST8, HW8, hsz8⟩
  case round =>
    clear HO8 HC8 HOP8 HOS8 HOF8 ST8 HW8 hsz8
    obtain ⟨k, xs, rfl, hk, HO, HX, HC, HOP, HOS, HOF, ST, HW, hsz⟩ := hrel
    obtain ⟨wo, rfl⟩ : ∃ wo : World, wo = wr := ⟨_, rfl⟩
    obtain ⟨A7, c7, rfl, hc7, hm7, -⟩ := Own.rd PassageD.enc_len HO.out
    unfold maxLen at hm7
    rcases Nat.eq_zero_or_pos k with h0 | h0
    · subst h0
      have hB : Below W0.heap.size W0 wo := hb2.trans (HW.out.below hg hs2)
      have y0 := cellKeep hB Z.out.1.1 (show w.heap.size < W0.heap.size by omega); have y1 := cellKeep hB Z.out.1.2.1 (show w.heap.size < W0.heap.size by omega)
      have y2 := cellKeep hB Z.out.1.2.2.1 hl0; have y3 := cellKeep hB Z.out.1.2.2.2 hl0
      have z0 := frozenKeep hB Z.out.2.1 (show w.heap.size < W0.heap.size by omega); have z1 := frozenKeep hB Z.out.2.2.1 (show w.heap.size < W0.heap.size by omega)
      have z2 := frozenKeep hB Z.out.2.2.2.1 hl0; have z3 := frozenKeep hB Z.out.2.2.2.2 hl0
      have u0 := ST.out.k0; have u1 := ST.out.k1; have u2 := ST.out.q0; have u3 := ST.out.q1
      have hwx : w.heap.size + 1 < wo.heap.size := by omega
      have hwx0 : w.heap.size < wo.heap.size := by omega
      have hbw : Below w.heap.size w wo := hb0.trans (hB.mono (by omega))
      have HBW := hide hbw
      clear hB hbw
      have n1 : ¬ w.heap.size = P := by omega
      have n2 : ¬ w.heap.size + 1 = P := by omega
      have n3 : ¬ w.heap.size = R := by omega
      have n4 : ¬ w.heap.size + 1 = R := by omega
      have n5 : ¬ P = w.heap.size := by omega
      have n6 : ¬ P = w.heap.size + 1 := by omega
      have n7 : ¬ R = w.heap.size := by omega
      have n8 : ¬ R = w.heap.size + 1 := by omega
      go_wp2_with fail
      go_region_held3 (fun w' => w'.cell? ⟨P, 0, none⟩ = some (.slice A1 c.points.length c1) ∧ w'.cell? ⟨P, 1, none⟩ = some (.slice A2 c.segs.length c2) ∧ w'.cell? ⟨R, 0, none⟩ = some (.int .i64 r0) ∧ w'.cell? ⟨R, 1, none⟩ = some (.bool r1))
        (first
          | exact ⟨u0, u1, u2, u3⟩
          | ((refine ⟨?_, ?_, ?_, ?_⟩) <;> simp [go_sem, u0, u1, u2, u3]))
        (fail)
      all_goals
        go_wp2
        refine bodyPost_ret (v := .tuple #[.agg #[.slice A1 c.points.length c1, .slice A2 c.segs.length c2], .agg #[.int .i64 r0, .bool r1], .slice A7 xs.length c7]) (by simp [results, Try.results56, go_sem, y0, y1, y2, y3]) rfl ⟨_, _, c, r0, r1, _, xs, rfl, HCI.out, hr0, hr1, ?_, ?_, ?_, HX.out, by omega, ?_⟩
        · refine Own.mono (base := w2.heap.size) (Own.below ?_ (Below.drew (Below.refl _ _))) (by omega)
          refine Own.setFar (Own.setFar (Own.setFar (Own.setFar HOP.out.1 ?_ _) ?_ _) ?_ _) ?_ _
          all_goals (intro e; have := (World.ownsRow.lt HOP.out.1 _ e).1; simp at this; omega)
        · refine Own.mono (base := w2.heap.size) (Own.below ?_ (Below.drew (Below.refl _ _))) (by omega)
          refine Own.setFar (Own.setFar (Own.setFar (Own.setFar HOS.out.1 ?_ _) ?_ _) ?_ _) ?_ _
          all_goals (intro e; have := (World.ownsRow.lt HOS.out.1 _ e).1; simp at this; omega)
        · refine Own.mono (base := R + 1) (Own.below ?_ (Below.drew (Below.refl _ _))) (by omega)
          refine Own.setFar (Own.setFar (Own.setFar (Own.setFar HO.out ?_ _) ?_ _) ?_ _) ?_ _
          all_goals (intro e; have := (World.ownsRow.lt HO.out _ e).1; simp at this; omega)
        · exact Below.drew ((((HBW.out.setCell (by simp) _).setCell (by simp) _).setCell (by simp) _).setCell (by simp) _)
    · obtain ⟨j, rfl⟩ : ∃ j, k = j + 1 := ⟨k - 1, by omega⟩
      have hkp : (0 : Int) < ((j + 1 : Nat) : Int) := by omega
      have hk6 : ((j + 1 : Nat) : Int) < 6 := by omega
      have hje : ((j + 1 : Nat) : Int) - 1 = (j : Int) := by omega
      have hjw : IntKind.i64.wrap (((j + 1 : Nat) : Int) - 1) = (j : Int) := by rw [IntWalk.i64_in _ (by omega)]; omega
      have hjw2 : IntKind.i64.wrap (j : Int) = (j : Int) := IntWalk.i64_in _ (by omega)
      have u0 := ST.out.k0; have u1 := ST.out.k1
      go_wp2_with fail
      refine (l08Passage_any _ g w2.heap.size _ bs _ _ _ c.points c.segs fl _ HC.out HOP.out.1 HOS.out.1 HOF.out.1 hgw2 (by omega) (by omega) (by omega) (by omega) (fun x hx => by
        obtain ⟨q, hq, rfl⟩ := List.getElem_of_mem hx
        have := chart_seg HCP.out.1 hq; omega)).mono ?_
      rintro e w9 ⟨p, rfl, hpok, -, -, hcur, hw9⟩
      obtain ⟨p0, p1, p2, p3, p4⟩ := p
      have HPOK := hide hpok; have HC9 := hide hcur; have HW9 := hide hw9
      have hs9 := hw9.size
      clear hpok hcur hw9 u0 u1
      go_wp2_with fail
      obtain ⟨W10, hW10⟩ : ∃ W, w9.alloc (.cells #[.int .i64 p0, .int .i64 p1, .bool p2, .int .i64 p3, .int .i64 p4] 49) = W := ⟨_, rfl⟩
      have hb10 : Below w9.heap.size w9 W10 := by rw [← hW10]; exact (Below.refl _ _).alloc (Nat.le_refl _) _
      have hs10 : w9.heap.size < W10.heap.size := by rw [← hW10]; simp
      have V10 := hide (show (W10.cell? ⟨w9.heap.size, 0, none⟩ = some (.int .i64 p0) ∧ W10.cell? ⟨w9.heap.size, 1, none⟩ = some (.int .i64 p1) ∧ W10.cell? ⟨w9.heap.size, 2, none⟩ = some (.bool p2) ∧ W10.cell? ⟨w9.heap.size, 3, none⟩ = some (.int .i64 p3) ∧ W10.cell? ⟨w9.heap.size, 4, none⟩ = some (.int .i64 p4)) ∧ W10.frozen? ⟨w9.heap.size, 1, none⟩ = false by rw [← hW10]; exact ⟨⟨by simp [go_sem], by simp [go_sem], by simp [go_sem], by simp [go_sem], by simp [go_sem]⟩, by simp [go_sem]⟩)
      rw [hW10]
      clear hW10
      have hgo : g < wo.heap.size := by omega
      have hw10 : CurW g wo W10 := HW9.out.fresh (hb10.mono hs9)
      refine (l01Once_any _ g _ bs 2 _ (HC9.out.keep hb10 HC9.out.lt) (by omega)).mono ?_
      rintro e w11 ⟨b, rfl, hcur, hw11⟩
      have HC11 := hide hcur
      have hw11' := hw10.trans hw11
      have hs11 := hw11.size
      have hbk := hw11.block w9.heap.size hs10 (fun e => by have := Option.some.inj e; omega)
      obtain ⟨X, hX⟩ : ∃ X, w9.heap.size = X := ⟨_, rfl⟩
      have e0 := (World.cell?_of_block (a := ⟨w9.heap.size, 0, none⟩) hbk).trans V10.out.1.1
      have e1 := (World.cell?_of_block (a := ⟨w9.heap.size, 1, none⟩) hbk).trans V10.out.1.2.1
      have e2 := (World.cell?_of_block (a := ⟨w9.heap.size, 2, none⟩) hbk).trans V10.out.1.2.2.1
      have e3 := (World.cell?_of_block (a := ⟨w9.heap.size, 3, none⟩) hbk).trans V10.out.1.2.2.2.1
      have e4 := (World.cell?_of_block (a := ⟨w9.heap.size, 4, none⟩) hbk).trans V10.out.1.2.2.2.2
      have f1 := (World.frozen?_of_block (a := ⟨w9.heap.size, 1, none⟩) hbk).trans V10.out.2
      rw [hX] at e0 e1 e2 e3 e4 f1 hs9 hs10 ⊢
      have hX11 : X < w11.heap.size := by omega
      have HO11 := hide (HO.out.curw hw11' (by omega)); have HOP11 := hide (HOP.out.curw hw11' hgw2); have HOS11 := hide (HOS.out.curw hw11' hgw2); have HOF11 := hide (HOF.out.curw hw11' hgw2)
      have ST11 := hide (ST.out.curw hw11' (by omega) (by omega) (by omega) (by omega)); have HW11 := hide (HW.out.trans hw11')
      have HOX := hide (show (Value.slice A7 xs.length c7).ownBlock ≠ some X from fun e => by have := (World.ownsRow.lt HO.out X e).2; omega)
      clear hcur hw10 hw11 hw11' hbk V10 hX hb10 HC9 HW9 HO HC HOP HOS HOF ST HW
      have hXR : R + 1 < X := by omega
      clear hs9
      have HLN := hide (show xs.length ≤ 4 by omega)
      have HPOK1 := hide (show PassageD.ok ⟨p0, 1, p2, p3, p4⟩ from ⟨HPOK.out.1, i64_wf (x := 1) (by omega) (by omega), HPOK.out.2.2.1, HPOK.out.2.2.2⟩)
      cases b
      · skip
        go_wp2_with (at_builtin; refine wpList_append_rd _ PassageD.enc_len PassageD.enc_one (by rfl) _ _ 60 (by rfl) (R + 1) 49 i0 _ 40 Try.underlying60 hi hz0 hz1 hz2 rfl (by decide) _ xs (by rfl) (HO11.out.below ((Below.refl _ _).alloc (Nat.le_refl _) _)) _ _ [(⟨p0, p1, p2, p3, p4⟩ : PassageD)] (by rfl) (rd_new (enc := PassageD.enc) _ (⟨p0, p1, p2, p3, p4⟩ : PassageD) _) (by have := HLN.out; unfold maxLen; simp <;> omega) (by have := HLN.out; simp <;> omega) (by simp <;> omega) ?_; intro r12 w12 hown12 hgrow12 hblk12)
        have ha : Below w11.heap.size w11 (w11.alloc (.cells #[.int .i64 p0, .int .i64 p1, .bool p2, .int .i64 p3, .int .i64 p4] 49)) := (Below.refl _ _).alloc (Nat.le_refl _) _
        have hb12 : Below (R + 1) w11 w12 := (ha.mono (by omega)).trans (Own.belowGrown (B := R + 1) (HO11.out.below ha) hgrow12 (Nat.le_refl _) (by simp <;> omega))
        go_roundw
        case rel => exact ⟨j, xs ++ [⟨p0, p1, p2, p3, p4⟩], by first | rfl | go_num, by simp <;> omega, hide hown12, hide (fun x hx => by rcases List.mem_append.1 hx with hx | hx; exact HX.out x hx; (simp at hx; subst hx; exact HPOK.out)), hide (HC11.out.keep hb12 (by omega)), hide (HOP11.out.below hb12 (by omega)), hide (HOS11.out.below hb12 (by omega)), hide (HOF11.out.below hb12 (by omega)), hide (ST11.out.below hb12 (by omega) (by omega)), hide (HW11.out.fresh (hb12.mono (by omega))), by have := hb12.size; omega⟩
        case measure => simp [intOf] <;> omega
      · go_upto_region 12 with fail
        obtain ⟨W11, hW11⟩ : ∃ W, w11.setCell ⟨X, 1, none⟩ (.int .i64 1) = W := ⟨_, rfl⟩
        have hb11 : Below (R + 2) w11 W11 := by rw [← hW11]; exact (Below.refl _ _).setCell (by simp; omega) _
        have k0 : W11.cell? ⟨X, 0, none⟩ = some (.int .i64 p0) := by rw [← hW11]; simp [go_sem, e0]
        have k1 : W11.cell? ⟨X, 1, none⟩ = some (.int .i64 1) := by rw [← hW11]; simp [go_sem, e1]
        have k2 : W11.cell? ⟨X, 2, none⟩ = some (.bool p2) := by rw [← hW11]; simp [go_sem, e2]
        have k3 : W11.cell? ⟨X, 3, none⟩ = some (.int .i64 p3) := by rw [← hW11]; simp [go_sem, e3]
        have k4 : W11.cell? ⟨X, 4, none⟩ = some (.int .i64 p4) := by rw [← hW11]; simp [go_sem, e4]
        have hsW : W11.heap.size = w11.heap.size := by rw [← hW11]; simp [World.setCell]
        have hX11' : X < W11.heap.size := by omega
        have HO12 := hide (show Own W11 (R + 1) 49 5 PassageD.enc (.slice A7 xs.length c7) xs by rw [← hW11]; exact HO11.out.setFar (fun e => HOX.out e) _)
        have HSW := hide hsW
        rw [hW11]
        clear hW11 e0 e1 e2 e3 e4 f1 hsW
        go_wp2_with (at_builtin; refine wpList_append_rd _ PassageD.enc_len PassageD.enc_one (by rfl) _ _ 60 (by rfl) (R + 1) 49 i0 _ 40 Try.underlying60 hi hz0 hz1 hz2 rfl (by decide) _ xs (by rfl) (HO12.out.below ((Below.refl _ _).alloc (Nat.le_refl _) _)) _ _ [(⟨p0, 1, p2, p3, p4⟩ : PassageD)] (by rfl) (rd_new (enc := PassageD.enc) _ (⟨p0, 1, p2, p3, p4⟩ : PassageD) _) (by have := HLN.out; unfold maxLen; simp <;> omega) (by have := HLN.out; simp <;> omega) (by simp <;> omega) ?_; intro r12 w12 hown12 hgrow12 hblk12)
        have ha : Below W11.heap.size W11 (W11.alloc (.cells #[.int .i64 p0, .int .i64 1, .bool p2, .int .i64 p3, .int .i64 p4] 49)) := (Below.refl _ _).alloc (Nat.le_refl _) _
        have hb12 : Below (R + 1) W11 w12 := (ha.mono (by omega)).trans (Own.belowGrown (B := R + 1) (HO12.out.below ha) hgrow12 (Nat.le_refl _) (by simp <;> omega))
        go_roundw
        case rel => exact ⟨j, xs ++ [⟨p0, 1, p2, p3, p4⟩], by first | rfl | go_num, by simp <;> omega, hide hown12, hide (fun x hx => by rcases List.mem_append.1 hx with hx | hx; exact HX.out x hx; (simp at hx; subst hx; exact HPOK1.out)), hide ((HC11.out.keep hb11 (by omega)).keep hb12 (by omega)), hide ((HOP11.out.below hb11 (by omega)).below hb12 (by omega)), hide ((HOS11.out.below hb11 (by omega)).below hb12 (by omega)), hide ((HOF11.out.below hb11 (by omega)).below hb12 (by omega)), hide ((ST11.out.below hb11 (by omega) (by omega)).below hb12 (by omega) (by omega)), hide ((HW11.out.fresh (hb11.mono (by omega))).fresh (hb12.mono (by omega))), by have := hb12.size; omega⟩
        case measure => simp [intOf] <;> omega
end Go.Proofs.Ytefidlecandnlaa
