/- A plan of lockings drawn out of bytes. No condition. -/
import Derived.Test.YtjmffhpfmfmnlaaFleetOk
import Derived.Test.YtjmffhpfmfmnlaaCham
import Derived.Test.YtjmffhpfmfmnlaaAppend3
import Derived.Deep.RegionHeld3
namespace Go.Proofs.Ytjmffhpfmfmnlaa
open Go.RowKit
set_option linter.unusedVariables false
theorem LkOut.curw {w w' : World} {base g : Nat} {v : Value} {ds : List LockR} (h : LkOut w base v ds) (hw : CurW g w w') (hg : g < base) : LkOut w' base v ds := ⟨h.1.curw hw hg, fun r hr => (h.2.1 r hr).curw hw hg, h.2.2⟩
theorem LkOut.setFar {w : World} {base : Nat} {v : Value} {ds : List LockR} (h : LkOut w base v ds) {p : Addr} (hp : p.block < base) (u : Value) : LkOut (w.setCell p u) base v ds :=
  ⟨h.1.setFar (fun e => by have := (World.ownsRow.lt h.1 _ e).1; omega) u, fun r hr => (h.2.1 r hr).setFar (fun e => by have := (World.ownsRow.lt (h.2.1 r hr) _ e).1; omega) u, h.2.2⟩
theorem app_some {x0 x1 x2 : Int} {fl : List ShipD} {ds ds' : List LockD} {up : Bool} {ready : Int} {ships : List Int} (h : appendLocking x0 x1 x2 fl ds up ready ships = some ds') : lockPlanOk x0 x1 x2 fl ds' = true ∧ ds' = appMid x2 (nextTurn x0 x1 x2 ds up ready) ds up ships ∧ appOk x0 x1 x2 fl ds up ready = true := by
  unfold appendLocking at h
  split at h
  · rename_i h2
    simp only [Bool.and_eq_true] at h2
    simp only [Option.some.injEq] at h
    subst h
    exact ⟨h2.2, rfl, h2.1⟩
  · cases h
theorem appMid_ships {x2 t : Int} {ds : List LockD} {up : Bool} {ships : List Int} (h : ∀ d ∈ ds, d.ships.length ≤ 1) (h2 : ships.length ≤ 1) : ∀ d ∈ appMid x2 t ds up ships, d.ships.length ≤ 1 := by
  intro d hd
  unfold appMid at hd
  rcases List.mem_append.1 hd with hd | hd
  · split at hd
    · rcases List.mem_append.1 hd with hd | hd
      · exact h d hd
      · simp only [List.mem_singleton] at hd; subst hd; simp
    · exact h d hd
  · simp only [List.mem_singleton] at hd; subst hd; exact h2
theorem plan_nil {x0 x1 x2 : Int} {fl : List ShipD} (h : chOk x0 x1 x2 = true) (hf : fleetOk fl = true) : lockPlanOk x0 x1 x2 fl [] = true := by
  unfold lockPlanOk; rw [h, hf]; rfl
def DrawRes (B g : Nat) (v : Value) (bs : List Int) (w : World) (e : Ending) (w' : World) : Prop :=
  ∃ (x0 : Int) (m : Nat) (x2 : Int) (vf : Value) (fl : List ShipD) (vp : Value) (rs : List LockR), e = .returned (.tuple #[.agg #[.int .i64 x0, .int .i64 m, .int .i64 x2], vf, vp]) ∧ 150 ≤ x0 ∧ x0 ≤ 399 ∧ 1 ≤ m ∧ m ≤ 2 ∧ 10 ≤ x2 ∧ x2 ≤ 39 ∧
    Own w' w.heap.size 66 6 ShipD.enc vf fl ∧ FleetIs fl ∧ 1 ≤ fl.length ∧ fl.length ≤ 4 ∧ LkOut w' w.heap.size vp rs ∧ lockPlanOk x0 m x2 fl (rs.map LockR.d) = true ∧ (∀ r ∈ rs, r.ships.length ≤ 1) ∧ Cur w' B g v bs ∧ CurW g w w'
set_option maxRecDepth 100000 in
set_option maxHeartbeats 32000000 in
theorem l11Draw_any (B g : Nat) (v : Value) (bs : List Int) (w : World) (h : Cur w B g v bs) :
    Calls Try.prog 81 #[.pointer (some ⟨g, 0, none⟩)] w (DrawRes B g v bs w) := by
  have hg := h.lt
  have HC := hide h; clear h
  go_enter Try.func81, Try.ntmps81
  go_wp2_with fail
  generalize hW0 : w.alloc (.cells #[.int .i64 0, .int .i64 0, .int .i64 0] 26) = W0
  have hb0 : Below w.heap.size w W0 := by rw [← hW0]; exact (Below.refl _ _).alloc (Nat.le_refl _) _
  have hl0 : w.heap.size < W0.heap.size := by rw [← hW0]; simp
  have z0 : W0.cell? ⟨w.heap.size, 0, none⟩ = some (.int .i64 0) := by rw [← hW0]; simp [go_sem]
  have z1 : W0.cell? ⟨w.heap.size, 1, none⟩ = some (.int .i64 0) := by rw [← hW0]; simp [go_sem]
  have z2 : W0.cell? ⟨w.heap.size, 2, none⟩ = some (.int .i64 0) := by rw [← hW0]; simp [go_sem]
  have q0 : W0.frozen? ⟨w.heap.size, 0, none⟩ = false := by rw [← hW0]; simp [go_sem]
  have q1 : W0.frozen? ⟨w.heap.size, 1, none⟩ = false := by rw [← hW0]; simp [go_sem]
  have q2 : W0.frozen? ⟨w.heap.size, 2, none⟩ = false := by rw [← hW0]; simp [go_sem]
  clear hW0
  have Z := hide (show K2 W0 w.heap.size 0 0 0 from ⟨z0, z1, z2⟩); have Q := hide (show W0.frozen? ⟨w.heap.size, 0, none⟩ = false ∧ W0.frozen? ⟨w.heap.size, 1, none⟩ = false ∧ W0.frozen? ⟨w.heap.size, 2, none⟩ = false from ⟨q0, q1, q2⟩)
  clear z0 z1 z2 q0 q1 q2
  refine (l10Chamber_any B g v bs _ (HC.out.keep hb0 hg)).mono ?_
  rintro e w1 ⟨x0, x1, x2, rfl, a0, a1, a2, a3, a4, a5, hcur, hw1⟩
  have HC1 := hide hcur; clear hcur
  have hs1 := hw1.size
  obtain ⟨m, rfl⟩ : ∃ m : Nat, x1 = m := ⟨x1.toNat, by omega⟩
  have G1 := hide (show chOk x0 m x2 = true by simp only [chOk, inB, Bool.and_eq_true, decide_eq_true_eq]; omega)
  go_wp2_with fail
  generalize hW2 : w1.alloc (.cells #[.int .i64 x0, .int .i64 m, .int .i64 x2] 26) = W2
  have hb2 : Below w1.heap.size w1 W2 := by rw [← hW2]; exact (Below.refl _ _).alloc (Nat.le_refl _) _
  have hs2 : W2.heap.size = w1.heap.size + 1 := by rw [← hW2]; simp
  have k2 : K2 W2 w1.heap.size x0 m x2 := by rw [← hW2]; exact ⟨by simp [go_sem], by simp [go_sem], by simp [go_sem]⟩
  clear hW2
  have hw2 : CurW g W0 W2 := hw1.fresh (hb2.mono hs1)
  obtain ⟨P, hP⟩ : ∃ P, w1.heap.size = P := ⟨_, rfl⟩
  have HC2 := hide (HC1.out.keep hb2 HC1.out.lt)
  rw [hP] at k2 hs2 hs1 ⊢
  clear hb2 hw1 HC1
  have hgP : g < P := by omega
  refine (l06Fleet_any B g v bs 4 (by omega) (by omega) _ HC2.out).mono ?_
  rintro e w3 ⟨vf, fl, rfl, hof, hf1, hf4, hfi, hcur, hw3⟩
  have HC3 := hide hcur; clear hcur
  have hs3 := hw3.size
  rw [hs2] at hof hs3
  have k3 := BoxK2.keepW k2 hw3 (by omega) (fun e => by have := Option.some.inj e; omega)
  have hw03 := hw2.trans hw3
  obtain ⟨A3, c3, rfl, hc3, hm3, -⟩ := Own.rd ShipD.enc_len hof
  unfold maxLen at hm3
  have G2 := hide (hfi.ok (by omega)); have GW := hide (hfi.wf (by omega)); have HFI := hide hfi
  clear hfi hw2 hw3 k2 HC2
  go_wp2_with fail
  have hou0 := own_built0 (enc := LockR.enc) w3 68 3
  have hb4 : Below w3.heap.size w3 (w3.alloc (.cells #[] 68)) := (Below.refl _ _).alloc (Nat.le_refl _) _
  have hs4 : w3.heap.size < (w3.alloc (.cells #[] 68)).heap.size := by simp
  generalize w3.alloc (.cells #[] 68) = W4 at hou0 hb4 hs4 ⊢
  have hof4 := hof.below hb4
  have k4 : K2 W4 P x0 m x2 := ⟨cellKeep hb4 k3.1 (by omega), cellKeep hb4 k3.2.1 (by omega), cellKeep hb4 k3.2.2 (by omega)⟩
  have hw04 := hw03.fresh (hb4.mono (show W0.heap.size ≤ w3.heap.size by omega))
  refine (l01Below_any B g v bs 4 _ (HC3.out.keep hb4 HC3.out.lt) (by omega)).mono ?_
  rintro e w5 ⟨n0, rfl, n00, -, -, n01, hcur, hw5⟩
  replace n01 := n01 (by omega)
  obtain ⟨n, rfl⟩ : ∃ n : Nat, n0 = n := ⟨n0.toNat, by omega⟩
  have hs5 := hw5.size
  have HC5 := hide hcur; have K5 := hide (BoxK2.keepW k4 hw5 (by omega) (fun e => by have := Option.some.inj e; omega)); have HF5 := hide (hof4.curw hw5 (by omega))
  have HL5 := hide (LkOut.start ((hou0.curw hw5 (by omega)).mono (show P + 1 ≤ w3.heap.size by omega))); have HW5 := hide (hw04.trans hw5)
  have hsz5 : P + 1 ≤ w5.heap.size := by omega
  clear hcur k3 k4 hof hof4 hou0 hw03 hw04 hw5 hb4 HC3 hs3 hs4 hs5
  go_wp2_with fail
  go_loopw [7, 8] (fun o s wr => ∃ (k : Nat) (rs : List LockR), s = .int .i64 k ∧ k ≤ 3 ∧ Hid (Own wr (P + 1) 66 6 ShipD.enc (.slice A3 fl.length c3) fl) ∧ Hid (LkOut wr (P + 1) o rs) ∧ Hid (lockPlanOk x0 m x2 fl (rs.map LockR.d) = true) ∧ Hid (∀ r ∈ rs, r.ships.length ≤ 1) ∧ Hid (Cur wr B g v bs) ∧ Hid (K2 wr P x0 m x2) ∧ Hid (CurW g W0 wr) ∧ P + 1 ≤ wr.heap.size) (fun _ s _ => (intOf s).toNat)
  case atStart => exact ⟨n, [], rfl, by omega, HF5, HL5, hide (plan_nil G1.out G2.out), hide (by simp), HC5, K5, HW5, hsz5⟩
  case round =>
    clear HF5 HL5 HC5 K5 HW5 hsz5
    obtain ⟨k, rs, rfl, hk, HF, HL, HP, HS, HC, HK, HW, hsz⟩ := hrel
    obtain ⟨wo, rfl⟩ : ∃ wo : World, wo = wr := ⟨_, rfl⟩
    obtain ⟨A7, c7, rfl, hc7, hm7, -⟩ := Own.rd LockR.enc_len HL.out.1
    unfold maxLen at hm7
    rcases Nat.eq_zero_or_pos k with h0 | h0
    · subst h0
      have hbk := HW.out.block w.heap.size hl0 (fun e => by have := Option.some.inj e; omega)
      have y0 := (World.cell?_of_block (a := ⟨w.heap.size, 0, none⟩) hbk).trans Z.out.1
      have y1 := (World.cell?_of_block (a := ⟨w.heap.size, 1, none⟩) hbk).trans Z.out.2.1
      have y2 := (World.cell?_of_block (a := ⟨w.heap.size, 2, none⟩) hbk).trans Z.out.2.2
      have r0 := (World.frozen?_of_block (a := ⟨w.heap.size, 0, none⟩) hbk).trans Q.out.1
      have r1 := (World.frozen?_of_block (a := ⟨w.heap.size, 1, none⟩) hbk).trans Q.out.2.1
      have r2 := (World.frozen?_of_block (a := ⟨w.heap.size, 2, none⟩) hbk).trans Q.out.2.2
      clear hbk
      obtain ⟨k0, k1, k2⟩ := HK.out
      have hPl : P < wo.heap.size := by omega
      have hwl : w.heap.size < wo.heap.size := by omega
      have hwf : CurW g w wo := (CurW.ofBelow hb0).trans HW.out
      go_wp2
      refine bodyPost_ret (v := .tuple #[.agg #[.int .i64 x0, .int .i64 m, .int .i64 x2], .slice A3 fl.length c3, .slice A7 rs.length c7]) (by simp [results, Try.results81, go_sem, y0, y1, y2, r0, r1, r2]) rfl ⟨x0, m, x2, _, fl, _, rs, rfl, a0, a1, by omega, by omega, a4, a5, ?_, HFI.out, by omega, by omega, ?_, HP.out, HS.out, ?_, ?_⟩
      · refine Own.mono (base := P + 1) ?_ (by omega)
        refine Own.setFar (Own.setFar (Own.setFar HF.out ?_ _) ?_ _) ?_ _
        all_goals (intro e; have := (World.ownsRow.lt HF.out _ e).1; simp at this; omega)
      · refine LkOut.mono (base := P + 1) ?_ (by omega)
        exact LkOut.setFar (LkOut.setFar (LkOut.setFar HL.out (by simp; omega) _) (by simp; omega) _) (by simp; omega) _
      · exact HC.out.keep ((((Below.refl w.heap.size wo).setCell (by simp) _).setCell (by simp) _).setCell (by simp) _) hg
      · exact ((hwf.store (Nat.le_refl _) _).store (Nat.le_refl _) _).store (Nat.le_refl _) _
    · obtain ⟨j, rfl⟩ : ∃ j, k = j + 1 := ⟨k - 1, by omega⟩
      have hkp : (0 : Int) < ((j + 1 : Nat) : Int) := by omega
      have hje : ((j + 1 : Nat) : Int) - 1 = (j : Int) := by omega
      have hjw : IntKind.i64.wrap (((j + 1 : Nat) : Int) - 1) = (j : Int) := by rw [IntWalk.i64_in _ (by omega)]; omega
      have hjw2 : IntKind.i64.wrap (j : Int) = (j : Int) := IntWalk.i64_in _ (by omega)
      have hgo : g < wo.heap.size := by omega
      have hgP1 : g < P + 1 := by omega
      have HNX := hide (show ∀ r ∈ rs, r.ships.length ≤ 1048576 from fun r hr => by have := HS.out r hr; omega)
      have HNL := hide (show rs.length ≤ 1048576 by have := (plan_len HP.out).1; simp at this; omega)
      have keepS : ∀ w', Cur w' B g v bs → CurW g wo w' → w'.cell? ⟨P, 0, none⟩ = some (.int .i64 x0) ∧ w'.cell? ⟨P, 1, none⟩ = some (.int .i64 m) ∧ w'.cell? ⟨P, 2, none⟩ = some (.int .i64 x2) ∧ Cur w' B g v bs ∧ CurW g wo w' := fun w' hC hB => by
        obtain ⟨k0, k1, k2⟩ := BoxK2.keepW HK.out hB (by omega) (fun e => by have := Option.some.inj e; omega)
        exact ⟨k0, k1, k2, hC, hB⟩
      go_wp2_with fail
      go_region_held3 (fun w' => w'.cell? ⟨P, 0, none⟩ = some (.int .i64 x0) ∧ w'.cell? ⟨P, 1, none⟩ = some (.int .i64 m) ∧ w'.cell? ⟨P, 2, none⟩ = some (.int .i64 x2) ∧ Cur w' B g v bs ∧ CurW g wo w')
        (first
          | exact keepS _ (HC.out.keep (Below.drew (Below.refl _ _)) hgo) (CurW.ofBelow (Below.drew (Below.refl _ _)))
          | exact keepS _ hc14 hw14
          | exact keepS _ hc13 hw13
          | exact keepS _ hc12 hw12
          | exact keepS _ hc11 hw11
          | (obtain ⟨_, _, _, qC, qW⟩ := (by with_reducible assumption : _ ∧ _); exact keepS _ (qC.keep ((Below.refl _ _).alloc (Nat.le_refl _) _) qC.lt) (qW.fresh ((Below.refl _ _).alloc qW.size _))))
        (first
          | (go_at_call 95; obtain ⟨_, _, _, qC, qW⟩ := (by with_reducible assumption : _ ∧ _); (with_reducible refine (l01Once_any B g _ bs 2 _ qC (by omega)).mono ?_); rintro e w11 ⟨b11, rfl, hc11, hw11'⟩; have hw11 := CurW.trans qW hw11')
          | (go_at_call 65; obtain ⟨_, _, _, qC, qW⟩ := (by with_reducible assumption : _ ∧ _); (with_reducible refine (l01Below_any B g _ bs 300 _ qC (by omega)).mono ?_); rintro e w12 ⟨x12, rfl, y120, -, -, y121, hc12, hw12'⟩; replace y121 := y121 (by omega); have hw12 := CurW.trans qW hw12')
          | (go_at_call 65; obtain ⟨_, _, _, qC, qW⟩ := (by with_reducible assumption : _ ∧ _); (with_reducible refine (l01Below_any B g _ bs (fl.length : Int) _ qC (by omega)).mono ?_); rintro e w13 ⟨x13, rfl, y130, -, -, y131, hc13, hw13'⟩; replace y131 := y131 (by omega); have hw13 := CurW.trans qW hw13')
          | (go_at_call 39; obtain ⟨_, _, _, qC, qW⟩ := (by with_reducible assumption : _ ∧ _); (with_reducible refine (spec_AppendLocking_any x0 m x2 _ _ _ fl rs b11 x12 [x13] _ (Own.rd ShipD.enc_len (Own.curw HF.out qW hgP1)) ((LkOut.curw HL.out qW hgP1).rd) (rd_newA (enc := encI) _ x13 _ (by simp)) GW.out HNL.out HNX.out (by simp)).mono ?_); rintro e w14 ⟨v14, rs14, rfl, hl14, he14, hb14⟩; have hc14 := Cur.keep qC hb14 (Cur.lt qC); have hw14 := CurW.fresh qW (hb14.mono qW.size)))
      all_goals
        have hs13 := hw13.size
        have hs14 := hw14.size
        have HF14 := hide (Own.curw HF.out hw14 hgP1)
        have HK14 := hide (BoxK2.keepW HK.out hw14 (by omega) (fun e => by have := Option.some.inj e; omega))
        have HC14 := hide hc14
        have HW14 := hide (HW.out.trans hw14)
        have HLO := hide (LkOut.curw HL.out hw14 hgP1)
        have HLN := hide (hl14.mono (base' := P + 1) (by simp <;> omega))
        have HE14 := hide he14
        have hsz14 : P + 1 ≤ w14.heap.size := by omega
        clear hl14 he14 hb14 hc14 hw14
        rcases hap : appendLocking x0 m x2 fl (rs.map LockR.d) b11 x12 [x13] with _ | ds
        · simp only [Option.isSome_none]
          have HAP := hide hap; clear hap
          go_wp2
          go_roundw
          case rel => exact ⟨j, rs, by first | rfl | go_num, by omega, HF14, HLO, HP, HS, HC14, HK14, HW14, hsz14⟩
          case measure => simp [intOf] <;> omega
        · simp only [Option.isSome_some]
          have he2 := HE14.out
          rw [hap] at he2
          obtain ⟨hp, he, -⟩ := app_some hap
          have HP2 := hide (show lockPlanOk x0 m x2 fl (rs14.map LockR.d) = true by rw [he2]; exact hp)
          have HS2 := hide (show ∀ r ∈ rs14, r.ships.length ≤ 1 from fun r hr => by
            have h1 : r.d ∈ rs14.map LockR.d := List.mem_map_of_mem hr
            rw [he2, Option.getD_some, he] at h1
            exact appMid_ships (fun d hd => by obtain ⟨a, ha, rfl⟩ := List.mem_map.1 hd; exact HS.out a ha) (by simp) _ h1)
          clear he2 hp he hap HE14
          go_wp2
          go_roundw
          case rel => exact ⟨j, rs14, by first | rfl | go_num, by omega, HF14, HLN, HP2, HS2, HC14, HK14, HW14, hsz14⟩
          case measure => simp [intOf] <;> omega
def LockRes (w : World) (e : Ending) (w' : World) : Prop :=
  ∃ (x0 : Int) (m : Nat) (x2 : Int) (vf : Value) (fl : List ShipD) (vp : Value) (rs : List LockR), e = .returned (.tuple #[.agg #[.int .i64 x0, .int .i64 m, .int .i64 x2], vf, vp]) ∧ 150 ≤ x0 ∧ x0 ≤ 399 ∧ 1 ≤ m ∧ m ≤ 2 ∧ 10 ≤ x2 ∧ x2 ≤ 39 ∧
    Own w' w.heap.size 66 6 ShipD.enc vf fl ∧ FleetIs fl ∧ 1 ≤ fl.length ∧ fl.length ≤ 4 ∧ LkOut w' w.heap.size vp rs ∧ lockPlanOk x0 m x2 fl (rs.map LockR.d) = true ∧ (∀ r ∈ rs, r.ships.length ≤ 1) ∧ Below w.heap.size w w'
set_option maxRecDepth 100000 in
set_option maxHeartbeats 16000000 in
theorem MakeLock_any (v : Value) (bs : List Int) (w : World) (h : RdB w w.heap.size 1 enc8 v bs) (hby : Byt bs) (hn : bs.length ≤ 1048576) :
    Calls Try.prog 44 #[v] w (LockRes w) := by
  have HR := hide h; have HBY := hide hby; have HN := hide hn; clear hby hn
  obtain ⟨A1, cc1, rfl, hc1, hm1, h1⟩ := h
  unfold maxLen at hm1
  clear h1
  go_enter Try.func44, Try.ntmps44
  go_wp2_with fail
  generalize hW0 : w.alloc (.cells #[.int .i64 0, .int .i64 0, .int .i64 0] 26) = W0
  have hb0 : Below w.heap.size w W0 := by rw [← hW0]; exact (Below.refl _ _).alloc (Nat.le_refl _) _
  have hl0 : w.heap.size < W0.heap.size := by rw [← hW0]; simp
  have z0 : W0.cell? ⟨w.heap.size, 0, none⟩ = some (.int .i64 0) := by rw [← hW0]; simp [go_sem]
  have z1 : W0.cell? ⟨w.heap.size, 1, none⟩ = some (.int .i64 0) := by rw [← hW0]; simp [go_sem]
  have z2 : W0.cell? ⟨w.heap.size, 2, none⟩ = some (.int .i64 0) := by rw [← hW0]; simp [go_sem]
  have q0 : W0.frozen? ⟨w.heap.size, 0, none⟩ = false := by rw [← hW0]; simp [go_sem]
  have q1 : W0.frozen? ⟨w.heap.size, 1, none⟩ = false := by rw [← hW0]; simp [go_sem]
  have q2 : W0.frozen? ⟨w.heap.size, 2, none⟩ = false := by rw [← hW0]; simp [go_sem]
  clear hW0
  refine (l01New_any _ bs _ ((RdB.keep HR.out hb0 (Nat.le_refl _)).mono hb0.size) HBY.out HN.out).mono ?_
  rintro e w2 ⟨g, rfl, hg, hcur, hb2⟩
  have HC := hide hcur; clear hcur
  have hs2 := hb2.size
  go_wp2_with fail
  refine (l11Draw_any _ g _ bs _ HC.out).mono ?_
  rintro e w3 ⟨x0, m, x2, vf, fl, vp, rs, rfl, a0, a1, a2, a3, a4, a5, hof, hfi, hf1, hf4, hlk, hpl, hsh, hcur, hw3⟩
  have hb3 : Below W0.heap.size W0 w3 := hb2.trans (hw3.below hg hs2)
  have y0 := cellKeep hb3 z0 hl0; have y1 := cellKeep hb3 z1 hl0; have y2 := cellKeep hb3 z2 hl0
  have r0 := frozenKeep hb3 q0 hl0; have r1 := frozenKeep hb3 q1 hl0; have r2 := frozenKeep hb3 q2 hl0
  have HOF := hide hof; have HLK := hide hlk; have HPL := hide hpl; have HSH := hide hsh; have HFI := hide hfi
  have hbw : Below w.heap.size w w3 := hb0.trans (hb3.mono (by omega))
  have hs3 := hb3.size
  obtain ⟨A3, c3, rfl, hc3, hm3, -⟩ := Own.rd ShipD.enc_len hof
  obtain ⟨A7, c7, rfl, hc7, hm7, -⟩ := Own.rd LockR.enc_len hlk.1
  clear z0 z1 z2 q0 q1 q2 hof hlk hpl hsh hfi hcur hw3 HC
  go_wp2
  refine bodyPost_ret (v := .tuple #[.agg #[.int .i64 x0, .int .i64 m, .int .i64 x2], .slice A3 fl.length c3, .slice A7 rs.length c7]) (by simp [results, Try.results44, go_sem, y0, y1, y2, r0, r1, r2]) rfl ⟨x0, m, x2, _, fl, _, rs, rfl, a0, a1, a2, a3, a4, a5, ?_, HFI.out, by omega, by omega, ?_, HPL.out, HSH.out, ?_⟩
  · refine Own.mono (base := w2.heap.size) ?_ (by omega)
    refine Own.setFar (Own.setFar (Own.setFar HOF.out ?_ _) ?_ _) ?_ _
    all_goals (intro e; have := (World.ownsRow.lt HOF.out _ e).1; simp at this; omega)
  · refine LkOut.mono (base := w2.heap.size) ?_ (by omega)
    exact LkOut.setFar (LkOut.setFar (LkOut.setFar HLK.out (by simp <;> omega) _) (by simp <;> omega) _) (by simp <;> omega) _
  · exact ((hbw.setCell (p := ⟨w.heap.size, 0, none⟩) (Nat.le_refl _) _).setCell (p := ⟨w.heap.size, 1, none⟩) (Nat.le_refl _) _).setCell (p := ⟨w.heap.size, 2, none⟩) (Nat.le_refl _) _
end Go.Proofs.Ytjmffhpfmfmnlaa
