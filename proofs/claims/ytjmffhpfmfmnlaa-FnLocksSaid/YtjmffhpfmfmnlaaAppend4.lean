/- One locking more: the program. No condition. -/
import Derived.Test.YtjmffhpfmfmnlaaAppend
namespace Go.Proofs.Ytjmffhpfmfmnlaa
open Go.RowKit
set_option linter.unusedVariables false
set_option maxRecDepth 100000 in
set_option maxHeartbeats 32000000 in
theorem impl_AppendLocking_any (x0 x1 x2 : Int) (v1 v2 v3 : Value) (fl : List ShipD) (rs : List LockR) (up : Bool) (ready : Int) (ships : List Int) (w : World) (h1 : RdShip w v1 fl) (h2 : RdLk w w.heap.size v2 rs) (h3 : RdI w v3 ships)
    (hokf : ∀ x ∈ fl, x.ok) (hn : rs.length ≤ 1048576) (hnx : ∀ r ∈ rs, r.ships.length ≤ 1048576) (hns : ships.length ≤ 1048576) :
    Calls Try.prog 40 #[.agg #[.int .i64 x0, .int .i64 x1, .int .i64 x2], v1, v2, .bool up, .int .i64 ready, v3] w fun e w' => AppRes w w' e (appendLocking x0 x1 x2 fl (rs.map LockR.d) up ready ships) := by
  have HR1 := hide h1; have HR2 := hide h2; have HR3 := hide h3
  obtain ⟨A1, c1, rfl, hc1, hm1, h1⟩ := h1
  obtain ⟨h2, hsh⟩ := h2
  obtain ⟨A2, c2, rfl, hc2, hm2, h2⟩ := h2
  obtain ⟨A3, c3, rfl, hc3, hm3, h3⟩ := h3
  unfold maxLen at hm1 hm2 hm3
  clear h1 h3
  have H2 := hide h2; clear h2
  have HSH := hide hsh; clear hsh
  have HNX := hide hnx; have HNR := hide hnx; have HNS := hide hns; have HN1 := hide hn; clear hnx hns hn
  obtain ⟨i0, hi, hz0, hz1, hz2⟩ := info_parts int_info
  obtain ⟨j0, hj, hy0, hy1, hy2⟩ := info_parts lock_info
  obtain ⟨t, ht⟩ : ∃ t, nextTurn x0 x1 x2 (rs.map LockR.d) up ready = t := ⟨_, rfl⟩
  have HAT := hide ht
  have HV := hide (show appendLocking x0 x1 x2 fl (rs.map LockR.d) up ready ships = if (appOk x0 x1 x2 fl (rs.map LockR.d) up ready && lockPlanOk x0 x1 x2 fl (appMid x2 t (rs.map LockR.d) up ships)) = true then some (appMid x2 t (rs.map LockR.d) up ships) else none by unfold appendLocking; rw [ht])
  have HOK := hide (show appOk x0 x1 x2 fl (rs.map LockR.d) up ready = (lockPlanOk x0 x1 x2 fl (rs.map LockR.d) && decide (0 ≤ t)) by unfold appOk; rw [ht])
  clear ht
  rcases ch2 (lockPlanOk x0 x1 x2 fl (rs.map LockR.d)) (decide (0 ≤ t)) with ⟨g1, g2⟩ | g1 | ⟨g1, g2⟩
  · have HG1 := hide g1
    obtain ⟨hpl, hch⟩ := plan_len g1
    have HL12 := hide (show rs.length ≤ 12 by simpa using hpl)
    have ht0 : 0 ≤ t := by simpa using g2
    have ht1 : t ≤ 3200 := by have := nextTurn_range (ds := rs.map LockR.d) (up := up) (ready := ready) hch; rw [HAT.out] at this; exact this
    obtain ⟨-, -, -, -, hx20, hx21⟩ := chOk_of hch
    have HOK1 := hide (show appOk x0 x1 x2 fl (rs.map LockR.d) up ready = true by rw [HOK.out, g1, g2]; rfl)
    have htw : IntKind.i64.wrap (t - x2) = t - x2 := IntWalk.i64_in _ (by omega)
    clear g1 g2 hpl hch
    go_enter Try.func40, Try.ntmps40
    go_wp2_with (first
      | (go_at_call 46; (with_reducible refine (impl_NextTurn_any x0 x1 x2 _ rs up ready _ ((HR2.out.keep (B' := w.heap.size) (by repeat (first | exact Below.refl _ _ | assumption | refine Below.setCell ?_ (by first | omega | (simp <;> omega)) _ | refine Below.alloc ?_ (by first | omega | (simp <;> omega)) _ | refine below_drewN ?_ _ | refine Below.drew ?_ | refine Below.trans ?_ (Below.mono (by assumption) (by first | omega | (simp <;> omega))))) (Nat.le_refl _)).mono (by first | omega | (simp <;> omega)))).mono ?_); rintro e w1 ⟨rfl, hb'⟩; rw [HAT.out]; (first | have hb := bnext hb hb' | have hb := bnextA hb hb' | have hb := hb'); clear hb'; obtain ⟨hc, hf⟩ := bcell hb; have hz := hb.size; (try simp at hz))
      | (go_at_call 36; (with_reducible refine (impl_LockPlanOk_any x0 x1 x2 _ _ fl rs _ ((RdB.keep HR1.out (B' := w.heap.size) (by repeat (first | exact Below.refl _ _ | assumption | refine Below.setCell ?_ (by first | omega | (simp <;> omega)) _ | refine Below.alloc ?_ (by first | omega | (simp <;> omega)) _ | refine below_drewN ?_ _ | refine Below.drew ?_ | refine Below.trans ?_ (Below.mono (by assumption) (by first | omega | (simp <;> omega))))) (Nat.le_refl _)).mono (by first | omega | (simp <;> omega))) ((HR2.out.keep (B' := w.heap.size) (by repeat (first | exact Below.refl _ _ | assumption | refine Below.setCell ?_ (by first | omega | (simp <;> omega)) _ | refine Below.alloc ?_ (by first | omega | (simp <;> omega)) _ | refine below_drewN ?_ _ | refine Below.drew ?_ | refine Below.trans ?_ (Below.mono (by assumption) (by first | omega | (simp <;> omega))))) (Nat.le_refl _)).mono (by first | omega | (simp <;> omega))) hokf HNX.out).mono ?_); rintro e w1 ⟨rfl, hb'⟩; rw [HG1.out]; (first | have hb := bnext hb hb' | have hb := bnextA hb hb' | have hb := hb'); clear hb'; obtain ⟨hc, hf⟩ := bcell hb; have hz := hb.size; (try simp at hz)))
    have hbw1 : Below w.heap.size w w1 := (by repeat (first | exact Below.refl _ _ | assumption | refine Below.setCell ?_ (by first | omega | (simp <;> omega)) _ | refine Below.alloc ?_ (by first | omega | (simp <;> omega)) _ | refine below_drewN ?_ _ | refine Below.drew ?_ | refine Below.trans ?_ (Below.mono (by assumption) (by first | omega | (simp <;> omega)))))
    have hs1 : w.heap.size < w1.heap.size := (by have := hb.size; simp at this; omega)
    have Z1 := hide (show BoxK w1 w.heap.size x0 x1 x2 from ⟨by rw [hc _ _ (by simp)]; simp [go_sem], by rw [hc _ _ (by simp)]; simp [go_sem], by rw [hc _ _ (by simp)]; simp [go_sem]⟩)
    clear hc hf hz hb
    have hou0 := own_built0 (enc := LockR.enc) w1 68 3
    have hb0 : Below w1.heap.size w1 (w1.alloc (.cells #[] 68)) := (Below.refl _ _).alloc (Nat.le_refl _) _
    go_loopw [15, 35] (fun o s wr => ∃ (k : Nat) (rs' : List LockR), k ≤ rs.length ∧ s = .int .i64 k ∧ Hid (LkOut wr w1.heap.size o rs') ∧ Hid (rs'.map LockR.d = (rs.take k).map LockR.d) ∧ Below w1.heap.size w1 wr) (fun _ s _ => rs.length - (intOf s).toNat)
    case atStart => exact ⟨0, [], Nat.zero_le _, rfl, hide (LkOut.start hou0), hide rfl, hb0⟩
    case round =>
      clear hou0 hb0
      obtain ⟨k, rs', hk, rfl, HO, HD, hbk⟩ := hrel
      obtain ⟨wo, rfl⟩ : ∃ wo : World, wo = wr := ⟨_, rfl⟩
      have hbs := hbk.size
      by_cases hlt : k < rs.length
      · obtain ⟨b2, o2, rfl, hb2, hcell2⟩ := H2.out (by omega)
        have hn1 := HN1.out
        have hbkw : Below w.heap.size w wo := bnext hbw1 hbk (Nat.le_refl _)
        have e0 : wo.cell? ⟨b2, o2 + k * 3, none⟩ = some (.int .i64 rs[k].start) := by
          rw [hbkw.cell (p := ⟨b2, _, none⟩) hb2]; have := hcell2 k rs[k] (List.getElem?_eq_getElem hlt) 0 _ rfl; simpa using this
        have e1 : wo.cell? ⟨b2, o2 + k * 3 + 1, none⟩ = some (.bool rs[k].up) := by
          rw [hbkw.cell (p := ⟨b2, _, none⟩) hb2]; have := hcell2 k rs[k] (List.getElem?_eq_getElem hlt) 1 _ rfl; simpa using this
        have e2 : wo.cell? ⟨b2, o2 + k * 3 + 2, none⟩ = some (rs[k].v) := by
          rw [hbkw.cell (p := ⟨b2, _, none⟩) hb2]; have := hcell2 k rs[k] (List.getElem?_eq_getElem hlt) 2 _ rfl; simpa using this
        have HS := hide (HSH.out rs[k] (List.getElem_mem hlt))
        have HNX := hide (HNR.out rs[k] (List.getElem_mem hlt))
        have HTK := hide (show (rs.take (k + 1)).map LockR.d = (rs.take k).map LockR.d ++ [rs[k].d] by rw [List.take_succ_eq_append_getElem hlt, List.map_append]; rfl)
        have hlt' : (k : Int) < rs.length := by omega
        obtain ⟨r, hr⟩ : ∃ r, rs[k] = r := ⟨_, rfl⟩
        rw [hr] at e0 e1 e2 HS HNX HTK
        clear hr hcell2
        obtain ⟨sK, uK, vK, xs⟩ := r
        have hrl : rs'.length = k := by have := congrArg List.length HD.out; simp at this; omega
        have HRL := hide hrl; clear hrl
        replace HS := hide (show RdB w w.heap.size 1 encI vK xs from HS.out)
        replace HNX := hide (show xs.length ≤ 1048576 from HNX.out)
        simp only at e0 e1 e2
        obtain ⟨A4, c4, rfl, hc4, hm4, -⟩ := HS.out
        unfold maxLen at hm4
        go_wp2_with fail
        generalize hW0 : (wo.alloc (.cells #[.int .i64 sK, .bool uK, .slice A4 xs.length c4] 68)) = W0
        have hB0 : Below wo.heap.size wo W0 := by rw [← hW0]; exact (by repeat (first | exact Below.refl _ _ | assumption | refine Below.setCell ?_ (by first | omega | (simp <;> omega)) _ | refine Below.alloc ?_ (by first | omega | (simp <;> omega)) _ | refine below_drewN ?_ _ | refine Below.drew ?_ | refine Below.trans ?_ (Below.mono (by assumption) (by first | omega | (simp <;> omega)))))
        have hl0 : wo.heap.size < W0.heap.size := by rw [← hW0]; simp
        have hx0 : W0.cell? ⟨wo.heap.size, 0, none⟩ = some (.int .i64 sK) := by rw [← hW0]; simp [go_sem]
        have hx1 : W0.cell? ⟨wo.heap.size, 1, none⟩ = some (.bool uK) := by rw [← hW0]; simp [go_sem]
        have hx2 : W0.cell? ⟨wo.heap.size, 2, none⟩ = some (.slice A4 xs.length c4) := by rw [← hW0]; simp [go_sem]
        clear hW0 e0 e1 e2
        have hbw : Below w1.heap.size w1 W0 := bnext hbk hB0 (Nat.le_refl _)
        have HRS := hide ((RdB.keep HS.out (bnext hbkw hB0 (Nat.le_refl _)) (Nat.le_refl _)).mono (show w.heap.size ≤ W0.heap.size by have := hbkw.size; have := hB0.size; omega))
        have HOW := hide (HO.out.below hB0)
        have hsb : w1.heap.size ≤ W0.heap.size := hbw.size
        have keepS : ∀ w', Below W0.heap.size W0 w' → w'.cell? ⟨wo.heap.size, 0, none⟩ = some (.int .i64 sK) ∧ w'.cell? ⟨wo.heap.size, 1, none⟩ = some (.bool uK) ∧ w'.cell? ⟨wo.heap.size, 2, none⟩ = some (.slice A4 xs.length c4) ∧ wo.heap.size < w'.heap.size ∧ Below w1.heap.size w1 w' := fun w' hB => ⟨cellKeep hB hx0 hl0, cellKeep hB hx1 hl0, cellKeep hB hx2 hl0, Nat.lt_of_lt_of_le hl0 hB.size, hbw.trans (hB.mono hsb)⟩
        obtain ⟨A5, c5, rfl, hc5, hm5, -⟩ := Own.rd LockR.enc_len HOW.out.1
        unfold maxLen at hm5
        have hne5 : ∀ w5 : World, Below W0.heap.size W0 w5 → (Value.slice A5 rs'.length c5).ownBlock ≠ some wo.heap.size := fun w5 _ e => by have := (World.ownsRow.lt HO.out.1 _ e).2; omega
        have HRSW := HRS
        go_region_held3 (fun w' => w'.cell? ⟨wo.heap.size, 0, none⟩ = some (.int .i64 sK) ∧ w'.cell? ⟨wo.heap.size, 1, none⟩ = some (.bool uK) ∧ w'.cell? ⟨wo.heap.size, 2, none⟩ = some (.slice A4 xs.length c4) ∧ wo.heap.size < w'.heap.size ∧ Below w1.heap.size w1 w')
          (first
            | exact keepS _ (Below.drew (Below.refl _ _))
            | exact keepS _ hB7
            | exact keepS _ (Below.alloc (Below.refl _ _) (Nat.le_refl _) _)
            | exact keepS _ (Below.alloc (Below.drew (Below.refl _ _)) (Nat.le_refl _) _)
            | exact keepS _ (hB7.alloc hB7.size _)
            | exact hS9)
          (first
            | (go_at_call 61; obtain ⟨q0, q1, q2, q3, qB⟩ := (by with_reducible assumption : _ ∧ _); (with_reducible refine (cloneInt_any _ xs _ ((RdB.keep HRS.out (B' := W0.heap.size) (by repeat (first | exact Below.refl _ _ | assumption | refine Below.setCell ?_ (by first | omega | (simp <;> omega)) _ | refine Below.alloc ?_ (by first | omega | (simp <;> omega)) _ | refine below_drewN ?_ _ | refine Below.drew ?_ | refine Below.trans ?_ (Below.mono (by assumption) (by first | omega | (simp <;> omega))))) (Nat.le_refl _)).mono (by simp)) HNX.out).mono ?_); rintro e w7 ⟨v7, rfl, hown7, hB7⟩; replace hB7 : Below W0.heap.size W0 w7 := Below.trans (by repeat (first | exact Below.refl _ _ | assumption | refine Below.setCell ?_ (by first | omega | (simp <;> omega)) _ | refine Below.alloc ?_ (by first | omega | (simp <;> omega)) _ | refine below_drewN ?_ _ | refine Below.drew ?_ | refine Below.trans ?_ (Below.mono (by assumption) (by first | omega | (simp <;> omega))))) hB7; replace hown7 : Own w7 W0.heap.size 3 1 encI v7 xs := hown7; obtain ⟨A7, c7, rfl, hc7, hm7, -⟩ := Own.rd encI_len hown7; unfold maxLen at hm7)
            | (obtain ⟨q0, q1, q2, q3, qB⟩ := (by with_reducible assumption : _ ∧ _); have hB8 := hB7.alloc hB7.size (.cells #[.int .i64 sK, .bool uK, .slice A7 xs.length c7] 68); have hv7 : ∃ A n c, Value.slice A7 xs.length c7 = .slice A n c := ⟨_, _, _, rfl⟩; refine step_append_in _ LockR.enc_len (by rfl) _ _ 51 (by rfl) w1.heap.size 68 j0 (.agg #[.int .i64 0, .bool false, .slice none 0 0]) 40 Try.underlying51 hj hy0 hy1 hy2 rfl (by decide) _ _ (by rfl) (HOW.out.1.below hB8) _ (.slice (some ⟨_, 0, none⟩) 1 1) [(⟨sK, uK, .slice A7 xs.length c7, xs⟩ : LockR)] (by rfl) (rd_new (enc := LockR.enc) _ ⟨sK, uK, .slice A7 xs.length c7, xs⟩ _) (by intro y hy; simp at hy; subst hy; exact lock_one _ hv7) (by have := HRL.out; unfold maxLen; simp; omega) (by have := HRL.out; simp; omega) (by have := hB8.size; omega) ?_; intro v9 w9 hown9 hgrow9 hblk9; have hS9 : w9.cell? ⟨wo.heap.size, 0, none⟩ = some (.int .i64 sK) ∧ w9.cell? ⟨wo.heap.size, 1, none⟩ = some (.bool uK) ∧ w9.cell? ⟨wo.heap.size, 2, none⟩ = some (.slice A4 xs.length c4) ∧ wo.heap.size < w9.heap.size ∧ Below w1.heap.size w1 w9 := ⟨by rw [World.cell?_of_block (hgrow9.block _ q3 (fun e => hne5 _ hB8 e.symm))]; exact q0, by rw [World.cell?_of_block (hgrow9.block _ q3 (fun e => hne5 _ hB8 e.symm))]; exact q1, by rw [World.cell?_of_block (hgrow9.block _ q3 (fun e => hne5 _ hB8 e.symm))]; exact q2, Nat.lt_of_lt_of_le q3 hgrow9.size, (hbw.trans (hB8.mono hsb)).trans (Own.belowGrown (B := w1.heap.size) (HOW.out.1.below hB8) hgrow9 (Nat.le_refl _) (by have := hB8.size; omega))⟩))
        have hB8 := hB7.alloc hB7.size (.cells #[.int .i64 sK, .bool uK, .slice A7 xs.length c7] 68)
        have HL9 := hide (LkOut.snoc (r := ⟨sK, uK, .slice A7 xs.length c7, xs⟩) (HOW.out.below hB8) ((show Own w7 W0.heap.size 3 1 encI _ xs from hown7).below ((Below.refl _ _).alloc (Nat.le_refl _) _) |>.mono hsb) (fun a ha g hg1 hg2 => by have h1 := (World.ownsRow.lt (HO.out.2.1 a ha) g hg1).2; have h2 := (World.ownsRow.lt hown7 g hg2).1; omega) hown9 hgrow9)
        obtain ⟨_, _, _, _, hb9⟩ := hS9
        go_wp2
        go_roundw
        case rel => exact ⟨k + 1, rs' ++ [⟨sK, uK, .slice A7 xs.length c7, xs⟩], by omega, by go_num, HL9, hide (by rw [List.map_append, HD.out, HTK.out]; rfl), hb9⟩
        case measure => simp [intOf]; omega
      · obtain rfl : k = rs.length := by omega
        have HT := hide (List.take_length (l := rs))
        obtain ⟨w4, rfl⟩ : ∃ w4 : World, w4 = wo := ⟨_, rfl⟩
        obtain ⟨rs4, rfl⟩ : ∃ q : List LockR, q = rs' := ⟨_, rfl⟩
        have HO4 := HO; have hb4 := hbk
        have HD4 := hide (show rs4.map LockR.d = rs.map LockR.d by rw [HD.out, HT.out])
        clear HO HD hbk hbs
        rcases Nat.eq_zero_or_pos rs.length with hl0 | hl0
        · have HMID := hide (appMid_no (x2 := x2) (t := t) (ships := ships) (show lastUp (rs.map LockR.d) up = false by unfold lastUp; rw [List.length_map, hl0]; rfl))
          have hnl : ¬ 0 < rs.length := by omega
          have hnl' : ¬ (0 : Int) < rs.length := by omega
          clear hl0
          rcases ch1 (lockPlanOk x0 x1 x2 fl (appMid x2 t (rs.map LockR.d) up ships)) with gg | gg
          all_goals
            have HG2 := hide gg
            have HVV := hide (show appendLocking x0 x1 x2 fl (rs.map LockR.d) up ready ships = if lockPlanOk x0 x1 x2 fl (appMid x2 t (rs.map LockR.d) up ships) = true then some (appMid x2 t (rs.map LockR.d) up ships) else none by rw [HV.out, HOK1.out, Bool.true_and])
            clear gg
            obtain ⟨A4, c4, rfl, hc4, hm4, -⟩ := Own.rd LockR.enc_len HO4.out.1
            unfold maxLen at hm4
            have HL14 := hide (show rs4.length ≤ 12 by have h1 := congrArg List.length HD4.out; simp only [List.length_map] at h1; have := HL12.out; omega)
            have hs4 := hb4.size
            have Z4 := hide (Z1.out.keep hb4 hs1)
            have hs4w : w.heap.size < w4.heap.size := Nat.lt_of_lt_of_le hs1 hs4
            have HN4 := hide (show ∀ r ∈ rs4, r.ships.length ≤ 1048576 from fun r hr => by have h1 := List.mem_map_of_mem (f := LockR.d) hr; rw [HD4.out] at h1; obtain ⟨q, hq, e⟩ := List.mem_map.1 h1; have h2 := HNX.out q hq; have h3 := congrArg LockD.ships e; simp only [LockR.d] at h3; rw [← h3]; exact h2)
            have hbw4 := bnext hbw1 hb4 (Nat.le_refl _)
            have Z4' := Z4.out
            obtain ⟨u0, u1, u2⟩ := Z4'
            go_wp2_with (first
              | (go_at_call 36; have HM9 := hide (show rs9.map LockR.d = appMid x2 t (rs.map LockR.d) up ships by rw [HMID.out, ← HE9.out]; simp only [List.map_append, List.map_cons, List.map_nil, HD4.out]; rfl); have HN9 := hide (show ∀ a ∈ rs9, a.ships.length ≤ 1048576 from fun a ha => by rw [← HE9.out] at ha; rcases List.mem_append.1 ha with ha | ha; exact HN4.out a ha; (simp at ha; subst ha; exact HNS.out)); refine (impl_LockPlanOk_any x0 x1 x2 _ _ fl rs9 _ ((RdB.keep HR1.out hbw9 (Nat.le_refl _)).mono (Nat.le_of_lt hs9w)) HL9.out.rd hokf HN9.out).mono ?_; rintro e w10 ⟨rfl, hb10⟩; rw [HM9.out, HG2.out])
              | (go_at_call 61; (with_reducible refine (cloneInt_any _ ships _ ((RdB.keep HR3.out hbw4 (Nat.le_refl _)).mono (Nat.le_of_lt hs4w)) HNS.out).mono ?_); rintro e w7 ⟨v7, rfl, hown7, hb7⟩; obtain ⟨A7, c7, rfl, hc7, hm7, -⟩ := Own.rd encI_len hown7; unfold maxLen at hm7; have HO7 := hide hown7; clear hown7; have hs7 := hb7.size; have HL7 := hide (HO4.out.below hb7))
              | (at_builtin; refine wpList_append_in _ LockR.enc_len (by rfl) _ _ 51 (by rfl) w1.heap.size 68 j0 (.agg #[.int .i64 0, .bool false, .slice none 0 0]) 40 Try.underlying51 hj hy0 hy1 hy2 rfl (by decide) _ _ (by rfl) (HL7.out.1.below ((Below.refl _ _).alloc (Nat.le_refl _) _)) _ (.slice (some ⟨w7.heap.size, 0, none⟩) 1 1) [((⟨t, up, .slice A7 ships.length c7, ships⟩ : LockR) : LockR)] (by rfl) (rd_newA (enc := LockR.enc) _ (⟨t, up, .slice A7 ships.length c7, ships⟩ : LockR) _ (by simp)) (by intro y hy; simp at hy; subst hy; exact lock_one _ ⟨_, _, _, rfl⟩) (by have := HL14.out; unfold maxLen; simp <;> omega) (by have := HL14.out; simp <;> omega) (by simp <;> omega) ?_; intro v9 w9 hown9 hgrow9 hblk9; have hb9 : Below w1.heap.size w1 w9 := Below.trans (Below.trans hb4 (hb7.mono (show w1.heap.size ≤ w4.heap.size by omega))) (Below.trans ((show Below w7.heap.size w7 (w7.alloc (.cells #[.int .i64 t, .bool up, .slice A7 ships.length c7] 68)) from (by repeat (first | exact Below.refl _ _ | assumption | refine Below.setCell ?_ (by first | omega | (simp <;> omega)) _ | refine Below.alloc ?_ (by first | omega | (simp <;> omega)) _ | refine below_drewN ?_ _ | refine Below.drew ?_ | refine Below.trans ?_ (Below.mono (by assumption) (by first | omega | (simp <;> omega)))))).mono (by omega)) (Own.belowGrown (B := w1.heap.size) (HL7.out.1.below ((Below.refl _ _).alloc (Nat.le_refl _) _)) hgrow9 (Nat.le_refl _) (by simp <;> omega))); have HL9 := hide (LkOut.snoc (r := (⟨t, up, .slice A7 ships.length c7, ships⟩ : LockR)) (HL7.out.below ((Below.refl _ _).alloc (Nat.le_refl _) _)) ((HO7.out.below ((Below.refl _ _).alloc (Nat.le_refl _) _)).mono (show w1.heap.size ≤ w4.heap.size by omega)) (fun a ha g h1 h2 => by have h3 := (World.ownsRow.lt (HO4.out.2.1 a ha) g h1).2; have h4 := (World.ownsRow.lt HO7.out g h2).1; omega) hown9 hgrow9); clear hown9 hgrow9 hblk9; obtain ⟨rs9, hrs9⟩ : ∃ rs9, rs4 ++ [((⟨t, up, .slice A7 ships.length c7, ships⟩ : LockR) : LockR)] = rs9 := ⟨_, rfl⟩; rw [hrs9] at HL9; have HE9 := hide hrs9; clear hrs9; obtain ⟨A9, c9, rfl, hc9, hm9, -⟩ := Own.rd LockR.enc_len HL9.out.1; unfold maxLen at hm9; have hs9 := hb9.size; have Z9 := hide (Z1.out.keep hb9 hs1); have Z9' := Z9.out; obtain ⟨y0, y1, y2⟩ := Z9'; have hbw9 := bnext hbw1 hb9 (Nat.le_refl _); have hs9w : w.heap.size < w9.heap.size := Nat.lt_of_lt_of_le hs1 hs9))
            go_ret2
            first
              | exact ⟨_, rs9, by rw [HVV.out, HG2.out]; rfl, HL9.out.below hb10 |>.mono (Nat.le_of_lt hs1), by rw [HVV.out, HG2.out, HM9.out]; rfl, bnext hbw9 hb10 (Nat.le_refl _)⟩
              | exact ⟨_, [], by rw [HVV.out, HG2.out]; rfl, LkOut.nil_, by rw [HVV.out, HG2.out]; rfl, bnext hbw9 hb10 (Nat.le_refl _)⟩
        · obtain ⟨j, hj'⟩ : ∃ j, rs.length = j + 1 := ⟨rs.length - 1, by omega⟩
          have hjl : j < rs.length := by omega
          have hjl' : (j : Int) < rs.length := by omega
          have hj0 : (0 : Int) ≤ j := by omega
          have hnl' : (0 : Int) < rs.length := by omega
          have hjw : IntKind.i64.wrap ((rs.length : Int) - 1) = (j : Int) := by rw [IntWalk.i64_in _ (by omega)]; omega
          have hje : (rs.length : Int) - 1 = (j : Int) := by omega
          have hjw2 : IntKind.i64.wrap (j : Int) = (j : Int) := IntWalk.i64_in _ (by omega)
          obtain ⟨b2, o2, rfl, hb2, hcell2⟩ := H2.out hl0
          have e1 : w.cell? ⟨b2, o2 + j * 3 + 1, none⟩ = some (.bool rs[j].up) := by have := hcell2 j rs[j] (List.getElem?_eq_getElem hjl) 1 _ rfl; simpa using this
          have hlu : lastUp (rs.map LockR.d) up = upSame rs[j].up up := by
            unfold lastUp
            rw [List.length_map, decide_eq_true (by omega), Bool.true_and, show rs.length - 1 = j by omega, lkd_at hjl]; rfl
          obtain ⟨uJ, hu⟩ : ∃ u, rs[j].up = u := ⟨_, rfl⟩
          rw [hu] at e1 hlu
          clear hcell2 hu hj'
          rcases ch1 (uJ == up) with gu | gu
          · have HMID := hide (appMid_yes (x2 := x2) (t := t) (ships := ships) (show lastUp (rs.map LockR.d) up = true by rw [hlu]; exact gu))
            clear hlu
            rcases ch1 (lockPlanOk x0 x1 x2 fl (appMid x2 t (rs.map LockR.d) up ships)) with gg | gg
            all_goals
              have HG2 := hide gg
              have HVV := hide (show appendLocking x0 x1 x2 fl (rs.map LockR.d) up ready ships = if lockPlanOk x0 x1 x2 fl (appMid x2 t (rs.map LockR.d) up ships) = true then some (appMid x2 t (rs.map LockR.d) up ships) else none by rw [HV.out, HOK1.out, Bool.true_and])
              clear gg
              obtain ⟨A4, c4, rfl, hc4, hm4, -⟩ := Own.rd LockR.enc_len HO4.out.1
              unfold maxLen at hm4
              have HL14 := hide (show rs4.length ≤ 12 by have h1 := congrArg List.length HD4.out; simp only [List.length_map] at h1; have := HL12.out; omega)
              have hs4 := hb4.size
              have Z4 := hide (Z1.out.keep hb4 hs1)
              have hs4w : w.heap.size < w4.heap.size := Nat.lt_of_lt_of_le hs1 hs4
              have HN4 := hide (show ∀ r ∈ rs4, r.ships.length ≤ 1048576 from fun r hr => by have h1 := List.mem_map_of_mem (f := LockR.d) hr; rw [HD4.out] at h1; obtain ⟨q, hq, e⟩ := List.mem_map.1 h1; have h2 := HNX.out q hq; have h3 := congrArg LockD.ships e; simp only [LockR.d] at h3; rw [← h3]; exact h2)
              have hbw4 := bnext hbw1 hb4 (Nat.le_refl _)
              have Z4' := Z4.out
              obtain ⟨u0, u1, u2⟩ := Z4'
              have e1' := cellKeep hbw4 e1 hb2
              have hb24 : b2 < w4.heap.size := Nat.lt_of_lt_of_le hb2 hbw4.size
              go_wp2_with (first
                | (go_at_call 36; have HM9 := hide (show rs9.map LockR.d = appMid x2 t (rs.map LockR.d) up ships by rw [HMID.out, ← HE9.out, ← HE5.out]; simp only [List.map_append, List.map_cons, List.map_nil, HD4.out]; rfl); have HN9 := hide (show ∀ a ∈ rs9, a.ships.length ≤ 1048576 from fun a ha => by rw [← HE9.out, ← HE5.out] at ha; rcases List.mem_append.1 ha with ha | ha; (rcases List.mem_append.1 ha with ha | ha; exact HN4.out a ha; (simp at ha; subst ha; exact Nat.zero_le _)); (simp at ha; subst ha; exact HNS.out)); refine (impl_LockPlanOk_any x0 x1 x2 _ _ fl rs9 _ ((RdB.keep HR1.out hbw9 (Nat.le_refl _)).mono (Nat.le_of_lt hs9w)) HL9.out.rd hokf HN9.out).mono ?_; rintro e w10 ⟨rfl, hb10⟩; rw [HM9.out, HG2.out])
                | (at_builtin; refine wpList_append_in _ LockR.enc_len (by rfl) _ _ 51 (by rfl) w1.heap.size 68 j0 (.agg #[.int .i64 0, .bool false, .slice none 0 0]) 40 Try.underlying51 hj hy0 hy1 hy2 rfl (by decide) _ _ (by rfl) (HO4.out.1.below (show Below w4.heap.size w4 (w4.alloc (.cells #[.int .i64 (t - x2), .bool (!up), .slice none 0 0] 68)) from (by repeat (first | exact Below.refl _ _ | assumption | refine Below.setCell ?_ (by first | omega | (simp <;> omega)) _ | refine Below.alloc ?_ (by first | omega | (simp <;> omega)) _ | refine below_drewN ?_ _ | refine Below.drew ?_ | refine Below.trans ?_ (Below.mono (by assumption) (by first | omega | (simp <;> omega))))))) _ (.slice (some ⟨w4.heap.size, 0, none⟩) 1 1) [(⟨t - x2, !up, .slice none 0 0, []⟩ : LockR)] (by rfl) (rd_newA (enc := LockR.enc) _ ⟨t - x2, !up, .slice none 0 0, []⟩ _ (by simp)) (by intro y hy; simp at hy; subst hy; exact lock_one _ ⟨_, _, _, rfl⟩) (by have := HL14.out; unfold maxLen; simp <;> omega) (by have := HL14.out; simp <;> omega) (by simp <;> omega) ?_; intro v5 w5 hown5 hgrow5 hblk5; have hb5 : Below w1.heap.size w4 w5 := Below.trans ((show Below w4.heap.size w4 (w4.alloc (.cells #[.int .i64 (t - x2), .bool (!up), .slice none 0 0] 68)) from (by repeat (first | exact Below.refl _ _ | assumption | refine Below.setCell ?_ (by first | omega | (simp <;> omega)) _ | refine Below.alloc ?_ (by first | omega | (simp <;> omega)) _ | refine below_drewN ?_ _ | refine Below.drew ?_ | refine Below.trans ?_ (Below.mono (by assumption) (by first | omega | (simp <;> omega)))))).mono hs4) (Own.belowGrown (B := w1.heap.size) (HO4.out.1.below (show Below w4.heap.size w4 (w4.alloc (.cells #[.int .i64 (t - x2), .bool (!up), .slice none 0 0] 68)) from (by repeat (first | exact Below.refl _ _ | assumption | refine Below.setCell ?_ (by first | omega | (simp <;> omega)) _ | refine Below.alloc ?_ (by first | omega | (simp <;> omega)) _ | refine below_drewN ?_ _ | refine Below.drew ?_ | refine Below.trans ?_ (Below.mono (by assumption) (by first | omega | (simp <;> omega))))))) hgrow5 (Nat.le_refl _) (by simp <;> omega)); have HL5 := hide (LkOut.snoc (r := ⟨t - x2, !up, .slice none 0 0, []⟩) (HO4.out.below (show Below w4.heap.size w4 (w4.alloc (.cells #[.int .i64 (t - x2), .bool (!up), .slice none 0 0] 68)) from (by repeat (first | exact Below.refl _ _ | assumption | refine Below.setCell ?_ (by first | omega | (simp <;> omega)) _ | refine Below.alloc ?_ (by first | omega | (simp <;> omega)) _ | refine below_drewN ?_ _ | refine Below.drew ?_ | refine Below.trans ?_ (Below.mono (by assumption) (by first | omega | (simp <;> omega))))))) Own.nil_ (fun a ha g h1 h2 => by simp [Value.ownBlock] at h2) hown5 hgrow5); clear hown5 hgrow5 hblk5; obtain ⟨rs5, hrs5⟩ : ∃ rs5, rs4 ++ [(⟨t - x2, !up, .slice none 0 0, []⟩ : LockR)] = rs5 := ⟨_, rfl⟩; rw [hrs5] at HL5; have HE5 := hide hrs5; clear hrs5; have HL15 := hide (show rs5.length ≤ 13 by rw [← HE5.out]; have := HL14.out; simp; omega); obtain ⟨A5, c5, rfl, hc5, hm5, -⟩ := Own.rd LockR.enc_len HL5.out.1; unfold maxLen at hm5; have hs5 := hb5.size; have Z5 := hide (Z4.out.keep hb5 hs1); have hbw5 := hbw4.trans (hb5.mono (Nat.le_of_lt hs1)); have hs5w : w.heap.size < w5.heap.size := Nat.lt_of_lt_of_le hs4w hs5; have hs15 : w1.heap.size ≤ w5.heap.size := Nat.le_trans hs4 hs5)
                | (go_at_call 61; (with_reducible refine (cloneInt_any _ ships _ ((RdB.keep HR3.out hbw5 (Nat.le_refl _)).mono (Nat.le_of_lt hs5w)) HNS.out).mono ?_); rintro e w7 ⟨v7, rfl, hown7, hb7⟩; obtain ⟨A7, c7, rfl, hc7, hm7, -⟩ := Own.rd encI_len hown7; unfold maxLen at hm7; have HO7 := hide hown7; clear hown7; have hs7 := hb7.size; have HL7 := hide (HL5.out.below hb7))
                | (at_builtin; refine wpList_append_in _ LockR.enc_len (by rfl) _ _ 51 (by rfl) w1.heap.size 68 j0 (.agg #[.int .i64 0, .bool false, .slice none 0 0]) 40 Try.underlying51 hj hy0 hy1 hy2 rfl (by decide) _ _ (by rfl) (HL7.out.1.below ((Below.refl _ _).alloc (Nat.le_refl _) _)) _ (.slice (some ⟨w7.heap.size, 0, none⟩) 1 1) [((⟨t, up, .slice A7 ships.length c7, ships⟩ : LockR) : LockR)] (by rfl) (rd_newA (enc := LockR.enc) _ (⟨t, up, .slice A7 ships.length c7, ships⟩ : LockR) _ (by simp)) (by intro y hy; simp at hy; subst hy; exact lock_one _ ⟨_, _, _, rfl⟩) (by have := HL15.out; unfold maxLen; simp <;> omega) (by have := HL15.out; simp <;> omega) (by simp <;> omega) ?_; intro v9 w9 hown9 hgrow9 hblk9; have hb9 : Below w1.heap.size w1 w9 := Below.trans (Below.trans (hb4.trans hb5) (hb7.mono (show w1.heap.size ≤ w5.heap.size by omega))) (Below.trans ((show Below w7.heap.size w7 (w7.alloc (.cells #[.int .i64 t, .bool up, .slice A7 ships.length c7] 68)) from (by repeat (first | exact Below.refl _ _ | assumption | refine Below.setCell ?_ (by first | omega | (simp <;> omega)) _ | refine Below.alloc ?_ (by first | omega | (simp <;> omega)) _ | refine below_drewN ?_ _ | refine Below.drew ?_ | refine Below.trans ?_ (Below.mono (by assumption) (by first | omega | (simp <;> omega)))))).mono (by omega)) (Own.belowGrown (B := w1.heap.size) (HL7.out.1.below ((Below.refl _ _).alloc (Nat.le_refl _) _)) hgrow9 (Nat.le_refl _) (by simp <;> omega))); have HL9 := hide (LkOut.snoc (r := (⟨t, up, .slice A7 ships.length c7, ships⟩ : LockR)) (HL7.out.below ((Below.refl _ _).alloc (Nat.le_refl _) _)) ((HO7.out.below ((Below.refl _ _).alloc (Nat.le_refl _) _)).mono (show w1.heap.size ≤ w5.heap.size by omega)) (fun a ha g h1 h2 => by have h3 := (World.ownsRow.lt (HL5.out.2.1 a ha) g h1).2; have h4 := (World.ownsRow.lt HO7.out g h2).1; omega) hown9 hgrow9); clear hown9 hgrow9 hblk9; obtain ⟨rs9, hrs9⟩ : ∃ rs9, rs5 ++ [((⟨t, up, .slice A7 ships.length c7, ships⟩ : LockR) : LockR)] = rs9 := ⟨_, rfl⟩; rw [hrs9] at HL9; have HE9 := hide hrs9; clear hrs9; obtain ⟨A9, c9, rfl, hc9, hm9, -⟩ := Own.rd LockR.enc_len HL9.out.1; unfold maxLen at hm9; have hs9 := hb9.size; have Z9 := hide (Z1.out.keep hb9 hs1); have Z9' := Z9.out; obtain ⟨y0, y1, y2⟩ := Z9'; have hbw9 := bnext hbw1 hb9 (Nat.le_refl _); have hs9w : w.heap.size < w9.heap.size := Nat.lt_of_lt_of_le hs1 hs9))
              go_ret2
              first
                | exact ⟨_, rs9, by rw [HVV.out, HG2.out]; rfl, HL9.out.below hb10 |>.mono (Nat.le_of_lt hs1), by rw [HVV.out, HG2.out, HM9.out]; rfl, bnext hbw9 hb10 (Nat.le_refl _)⟩
                | exact ⟨_, [], by rw [HVV.out, HG2.out]; rfl, LkOut.nil_, by rw [HVV.out, HG2.out]; rfl, bnext hbw9 hb10 (Nat.le_refl _)⟩
          · have HMID := hide (appMid_no (x2 := x2) (t := t) (ships := ships) (show lastUp (rs.map LockR.d) up = false by rw [hlu]; exact gu))
            clear hlu
            rcases ch1 (lockPlanOk x0 x1 x2 fl (appMid x2 t (rs.map LockR.d) up ships)) with gg | gg
            all_goals
              have HG2 := hide gg
              have HVV := hide (show appendLocking x0 x1 x2 fl (rs.map LockR.d) up ready ships = if lockPlanOk x0 x1 x2 fl (appMid x2 t (rs.map LockR.d) up ships) = true then some (appMid x2 t (rs.map LockR.d) up ships) else none by rw [HV.out, HOK1.out, Bool.true_and])
              clear gg
              obtain ⟨A4, c4, rfl, hc4, hm4, -⟩ := Own.rd LockR.enc_len HO4.out.1
              unfold maxLen at hm4
              have HL14 := hide (show rs4.length ≤ 12 by have h1 := congrArg List.length HD4.out; simp only [List.length_map] at h1; have := HL12.out; omega)
              have hs4 := hb4.size
              have Z4 := hide (Z1.out.keep hb4 hs1)
              have hs4w : w.heap.size < w4.heap.size := Nat.lt_of_lt_of_le hs1 hs4
              have HN4 := hide (show ∀ r ∈ rs4, r.ships.length ≤ 1048576 from fun r hr => by have h1 := List.mem_map_of_mem (f := LockR.d) hr; rw [HD4.out] at h1; obtain ⟨q, hq, e⟩ := List.mem_map.1 h1; have h2 := HNX.out q hq; have h3 := congrArg LockD.ships e; simp only [LockR.d] at h3; rw [← h3]; exact h2)
              have hbw4 := bnext hbw1 hb4 (Nat.le_refl _)
              have Z4' := Z4.out
              obtain ⟨u0, u1, u2⟩ := Z4'
              have e1' := cellKeep hbw4 e1 hb2
              have hb24 : b2 < w4.heap.size := Nat.lt_of_lt_of_le hb2 hbw4.size
              go_wp2_with (first
                | (go_at_call 36; have HM9 := hide (show rs9.map LockR.d = appMid x2 t (rs.map LockR.d) up ships by rw [HMID.out, ← HE9.out]; simp only [List.map_append, List.map_cons, List.map_nil, HD4.out]; rfl); have HN9 := hide (show ∀ a ∈ rs9, a.ships.length ≤ 1048576 from fun a ha => by rw [← HE9.out] at ha; rcases List.mem_append.1 ha with ha | ha; exact HN4.out a ha; (simp at ha; subst ha; exact HNS.out)); refine (impl_LockPlanOk_any x0 x1 x2 _ _ fl rs9 _ ((RdB.keep HR1.out hbw9 (Nat.le_refl _)).mono (Nat.le_of_lt hs9w)) HL9.out.rd hokf HN9.out).mono ?_; rintro e w10 ⟨rfl, hb10⟩; rw [HM9.out, HG2.out])
                | (go_at_call 61; (with_reducible refine (cloneInt_any _ ships _ ((RdB.keep HR3.out hbw4 (Nat.le_refl _)).mono (Nat.le_of_lt hs4w)) HNS.out).mono ?_); rintro e w7 ⟨v7, rfl, hown7, hb7⟩; obtain ⟨A7, c7, rfl, hc7, hm7, -⟩ := Own.rd encI_len hown7; unfold maxLen at hm7; have HO7 := hide hown7; clear hown7; have hs7 := hb7.size; have HL7 := hide (HO4.out.below hb7))
                | (at_builtin; refine wpList_append_in _ LockR.enc_len (by rfl) _ _ 51 (by rfl) w1.heap.size 68 j0 (.agg #[.int .i64 0, .bool false, .slice none 0 0]) 40 Try.underlying51 hj hy0 hy1 hy2 rfl (by decide) _ _ (by rfl) (HL7.out.1.below ((Below.refl _ _).alloc (Nat.le_refl _) _)) _ (.slice (some ⟨w7.heap.size, 0, none⟩) 1 1) [((⟨t, up, .slice A7 ships.length c7, ships⟩ : LockR) : LockR)] (by rfl) (rd_newA (enc := LockR.enc) _ (⟨t, up, .slice A7 ships.length c7, ships⟩ : LockR) _ (by simp)) (by intro y hy; simp at hy; subst hy; exact lock_one _ ⟨_, _, _, rfl⟩) (by have := HL14.out; unfold maxLen; simp <;> omega) (by have := HL14.out; simp <;> omega) (by simp <;> omega) ?_; intro v9 w9 hown9 hgrow9 hblk9; have hb9 : Below w1.heap.size w1 w9 := Below.trans (Below.trans hb4 (hb7.mono (show w1.heap.size ≤ w4.heap.size by omega))) (Below.trans ((show Below w7.heap.size w7 (w7.alloc (.cells #[.int .i64 t, .bool up, .slice A7 ships.length c7] 68)) from (by repeat (first | exact Below.refl _ _ | assumption | refine Below.setCell ?_ (by first | omega | (simp <;> omega)) _ | refine Below.alloc ?_ (by first | omega | (simp <;> omega)) _ | refine below_drewN ?_ _ | refine Below.drew ?_ | refine Below.trans ?_ (Below.mono (by assumption) (by first | omega | (simp <;> omega)))))).mono (by omega)) (Own.belowGrown (B := w1.heap.size) (HL7.out.1.below ((Below.refl _ _).alloc (Nat.le_refl _) _)) hgrow9 (Nat.le_refl _) (by simp <;> omega))); have HL9 := hide (LkOut.snoc (r := (⟨t, up, .slice A7 ships.length c7, ships⟩ : LockR)) (HL7.out.below ((Below.refl _ _).alloc (Nat.le_refl _) _)) ((HO7.out.below ((Below.refl _ _).alloc (Nat.le_refl _) _)).mono (show w1.heap.size ≤ w4.heap.size by omega)) (fun a ha g h1 h2 => by have h3 := (World.ownsRow.lt (HO4.out.2.1 a ha) g h1).2; have h4 := (World.ownsRow.lt HO7.out g h2).1; omega) hown9 hgrow9); clear hown9 hgrow9 hblk9; obtain ⟨rs9, hrs9⟩ : ∃ rs9, rs4 ++ [((⟨t, up, .slice A7 ships.length c7, ships⟩ : LockR) : LockR)] = rs9 := ⟨_, rfl⟩; rw [hrs9] at HL9; have HE9 := hide hrs9; clear hrs9; obtain ⟨A9, c9, rfl, hc9, hm9, -⟩ := Own.rd LockR.enc_len HL9.out.1; unfold maxLen at hm9; have hs9 := hb9.size; have Z9 := hide (Z1.out.keep hb9 hs1); have Z9' := Z9.out; obtain ⟨y0, y1, y2⟩ := Z9'; have hbw9 := bnext hbw1 hb9 (Nat.le_refl _); have hs9w : w.heap.size < w9.heap.size := Nat.lt_of_lt_of_le hs1 hs9))
              go_ret2
              first
                | exact ⟨_, rs9, by rw [HVV.out, HG2.out]; rfl, HL9.out.below hb10 |>.mono (Nat.le_of_lt hs1), by rw [HVV.out, HG2.out, HM9.out]; rfl, bnext hbw9 hb10 (Nat.le_refl _)⟩
                | exact ⟨_, [], by rw [HVV.out, HG2.out]; rfl, LkOut.nil_, by rw [HVV.out, HG2.out]; rfl, bnext hbw9 hb10 (Nat.le_refl _)⟩
  all_goals
    have HF := hide (show appendLocking x0 x1 x2 fl (rs.map LockR.d) up ready ships = none from app_none (by rw [HOK.out]; simp [*]))
    have HG1 := hide g1
    try (have ht0 : t < 0 := by simpa using g2)
    try clear g2
    clear g1
    go_enter Try.func40, Try.ntmps40
    first
      | (go_wp2_with (first
          | (go_at_call 46; (with_reducible refine (impl_NextTurn_any x0 x1 x2 _ rs up ready _ ((HR2.out.keep (B' := w.heap.size) (by repeat (first | exact Below.refl _ _ | assumption | refine Below.setCell ?_ (by first | omega | (simp <;> omega)) _ | refine Below.alloc ?_ (by first | omega | (simp <;> omega)) _ | refine below_drewN ?_ _ | refine Below.drew ?_ | refine Below.trans ?_ (Below.mono (by assumption) (by first | omega | (simp <;> omega))))) (Nat.le_refl _)).mono (by first | omega | (simp <;> omega)))).mono ?_); rintro e w1 ⟨rfl, hb'⟩; rw [HAT.out]; (first | have hb := bnext hb hb' | have hb := bnextA hb hb' | have hb := hb'); clear hb'; obtain ⟨hc, hf⟩ := bcell hb; have hz := hb.size; (try simp at hz))
          | (go_at_call 36; (with_reducible refine (impl_LockPlanOk_any x0 x1 x2 _ _ fl rs _ ((RdB.keep HR1.out (B' := w.heap.size) (by repeat (first | exact Below.refl _ _ | assumption | refine Below.setCell ?_ (by first | omega | (simp <;> omega)) _ | refine Below.alloc ?_ (by first | omega | (simp <;> omega)) _ | refine below_drewN ?_ _ | refine Below.drew ?_ | refine Below.trans ?_ (Below.mono (by assumption) (by first | omega | (simp <;> omega))))) (Nat.le_refl _)).mono (by first | omega | (simp <;> omega))) ((HR2.out.keep (B' := w.heap.size) (by repeat (first | exact Below.refl _ _ | assumption | refine Below.setCell ?_ (by first | omega | (simp <;> omega)) _ | refine Below.alloc ?_ (by first | omega | (simp <;> omega)) _ | refine below_drewN ?_ _ | refine Below.drew ?_ | refine Below.trans ?_ (Below.mono (by assumption) (by first | omega | (simp <;> omega))))) (Nat.le_refl _)).mono (by first | omega | (simp <;> omega))) hokf HNX.out).mono ?_); rintro e w1 ⟨rfl, hb'⟩; rw [HG1.out]; (first | have hb := bnext hb hb' | have hb := bnextA hb hb' | have hb := hb'); clear hb'; obtain ⟨hc, hf⟩ := bcell hb; have hz := hb.size; (try simp at hz)))
         go_ret2
         exact ⟨_, [], by rw [HF.out]; rfl, LkOut.nil_, by rw [HF.out]; rfl, (by repeat (first | exact Below.refl _ _ | assumption | refine Below.setCell ?_ (by first | omega | (simp <;> omega)) _ | refine Below.alloc ?_ (by first | omega | (simp <;> omega)) _ | refine below_drewN ?_ _ | refine Below.drew ?_ | refine Below.trans ?_ (Below.mono (by assumption) (by first | omega | (simp <;> omega)))))⟩
         done)
      | (rcases Int.lt_or_le t 0 with ht0 | ht0
         all_goals
           go_wp2_with (first
             | (go_at_call 46; (with_reducible refine (impl_NextTurn_any x0 x1 x2 _ rs up ready _ ((HR2.out.keep (B' := w.heap.size) (by repeat (first | exact Below.refl _ _ | assumption | refine Below.setCell ?_ (by first | omega | (simp <;> omega)) _ | refine Below.alloc ?_ (by first | omega | (simp <;> omega)) _ | refine below_drewN ?_ _ | refine Below.drew ?_ | refine Below.trans ?_ (Below.mono (by assumption) (by first | omega | (simp <;> omega))))) (Nat.le_refl _)).mono (by first | omega | (simp <;> omega)))).mono ?_); rintro e w1 ⟨rfl, hb'⟩; rw [HAT.out]; (first | have hb := bnext hb hb' | have hb := bnextA hb hb' | have hb := hb'); clear hb'; obtain ⟨hc, hf⟩ := bcell hb; have hz := hb.size; (try simp at hz))
             | (go_at_call 36; (with_reducible refine (impl_LockPlanOk_any x0 x1 x2 _ _ fl rs _ ((RdB.keep HR1.out (B' := w.heap.size) (by repeat (first | exact Below.refl _ _ | assumption | refine Below.setCell ?_ (by first | omega | (simp <;> omega)) _ | refine Below.alloc ?_ (by first | omega | (simp <;> omega)) _ | refine below_drewN ?_ _ | refine Below.drew ?_ | refine Below.trans ?_ (Below.mono (by assumption) (by first | omega | (simp <;> omega))))) (Nat.le_refl _)).mono (by first | omega | (simp <;> omega))) ((HR2.out.keep (B' := w.heap.size) (by repeat (first | exact Below.refl _ _ | assumption | refine Below.setCell ?_ (by first | omega | (simp <;> omega)) _ | refine Below.alloc ?_ (by first | omega | (simp <;> omega)) _ | refine below_drewN ?_ _ | refine Below.drew ?_ | refine Below.trans ?_ (Below.mono (by assumption) (by first | omega | (simp <;> omega))))) (Nat.le_refl _)).mono (by first | omega | (simp <;> omega))) hokf HNX.out).mono ?_); rintro e w1 ⟨rfl, hb'⟩; rw [HG1.out]; (first | have hb := bnext hb hb' | have hb := bnextA hb hb' | have hb := hb'); clear hb'; obtain ⟨hc, hf⟩ := bcell hb; have hz := hb.size; (try simp at hz)))
           go_ret2
           exact ⟨_, [], by rw [HF.out]; rfl, LkOut.nil_, by rw [HF.out]; rfl, (by repeat (first | exact Below.refl _ _ | assumption | refine Below.setCell ?_ (by first | omega | (simp <;> omega)) _ | refine Below.alloc ?_ (by first | omega | (simp <;> omega)) _ | refine below_drewN ?_ _ | refine Below.drew ?_ | refine Below.trans ?_ (Below.mono (by assumption) (by first | omega | (simp <;> omega)))))⟩)
end Go.Proofs.Ytjmffhpfmfmnlaa
