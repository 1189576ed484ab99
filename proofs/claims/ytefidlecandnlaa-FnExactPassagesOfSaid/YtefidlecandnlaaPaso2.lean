/- The passages of a route. No condition. -/
import Derived.Test.YtefidlecandnlaaPaso
import Derived.Outline
namespace Go.Proofs.Ytefidlecandnlaa
open Go.RowKit
set_option linter.unusedVariables false
theorem pass_append {ops : Array Oper} {o : Oper} {a : Act} {W : World} {K : Act → World → Prop} {Q : Exit → Act → World → Prop} {E : Prop} (s x : Operand) (hgd : o.guard = none)
    (ho : o.op = .call { callee := .builtin .append, args := #[s, x], argTypes := #[60, 60] }) (base : Nat) (u v2 : Value) (L ys : List PassageD) (hs : a.eval s = u) (hx : a.eval x = v2)
    (hA : Own W base 49 5 PassageD.enc u L) (hR : Rd W 5 PassageD.enc v2 ys) (hlen : L.length + ys.length ≤ 1048577) (hb : base ≤ W.heap.size)
    (h : ∀ v' w', Own w' base 49 5 PassageD.enc v' (L ++ ys) → W.grownBy w' u.ownBlock → (v'.ownBlock = u.ownBlock ∨ v'.ownBlock = some W.heap.size) → K (a.put o.dst v') w') :
    if Region.wanted o (yielded ops a.tmps) = true then Oper.wp Try.prog o a W K Q else E := by
  obtain ⟨i0, hi, hz0, hz1, hz2⟩ := info_parts passage_info
  exact step_append_rd W PassageD.enc_len pass_one hgd s x _ ho base 49 i0 _ 40 Try.underlying60 hi hz0 hz1 hz2 rfl (by decide) u L hs hA _ v2 ys hx hR (by unfold maxLen; omega) (by omega) hb h
set_option maxRecDepth 100000 in
set_option maxHeartbeats 16000000 in
theorem spec_PassagesOf_any (v1 v2 v3 v4 : Value) (c : ChartD) (ship : Int) (s : ShipD) (p : Int) (r st : List Int) (w : World) (h : RdChart w w.heap.size v1 v2 c) (h3 : RdI w v3 r) (h4 : RdI w v4 st) (hn : r.length ≤ 1048576) (hok : ∀ x ∈ c.points, x.name.size ≤ maxLen) (hs : s.name.size ≤ maxLen) :
    Calls Try.prog 50 #[.agg #[v1, v2], .int .i64 ship, s.val, .int .i64 p, v3, v4] w fun e w' => ∃ v, e = .returned v ∧ Own w' w.heap.size 49 5 PassageD.enc v (passagesOf c ship s p r st) ∧ Below w.heap.size w w' := by
  have HR := hide h; have HR3 := hide h3
  obtain ⟨h1, h2⟩ := h
  obtain ⟨A1, c1, rfl, hc1, hm1, h1⟩ := h1
  obtain ⟨A2, c2, rfl, hc2, hm2, h2⟩ := h2
  obtain ⟨A3, c3, rfl, hc3, hm3, h3⟩ := h3
  obtain ⟨A4, c4, rfl, hc4, hm4, h4⟩ := h4
  unfold maxLen at hm1 hm2 hm3 hm4
  clear h1
  obtain ⟨x0, x1, x2, x3, x4, x5⟩ := s
  obtain ⟨i0, hi, hz0, hz1, hz2⟩ := info_parts passage_info
  rcases ch3 (routeOk c p r) (shipOk ⟨x0, x1, x2, x3, x4, x5⟩) (decide ((r.length : Int) = st.length)) with ⟨g1, g2, g3⟩ | g1 | ⟨g1, g2⟩ | ⟨g1, g2, g3⟩
  · have hlen : (r.length : Int) = st.length := by simpa using g3
    have hne : ((r.length : Int) != (st.length : Int)) = false := by simp; omega
    obtain ⟨hch, hpl, hsg⟩ := route_ok g1
    have HCH := hide hch; have HPL := hide hpl; have HSG := hide hsg; have HLEN := hide hlen
    have HV := hide (show passagesOf c ship ⟨x0, x1, x2, x3, x4, x5⟩ p r st = if allUpTo (stIn st) r.length = true then pasList c ship ⟨x0, x1, x2, x3, x4, x5⟩ (routePts c p r) r st r.length else [] by unfold passagesOf pasOk; rw [g1, g2, g3]; rfl)
    clear hch hpl hsg hlen g3
    go_enter Try.func50, Try.ntmps50
    go_wp2_with (first
      | (go_at_call 95; refine (spec_RouteOk_any _ _ _ c p r _ ((HR.out.keep (B' := w.heap.size) (by repeat (first | exact Below.refl _ _ | assumption | refine Below.setCell ?_ (by first | omega | (simp <;> omega)) _ | refine Below.alloc ?_ (by first | omega | (simp <;> omega)) _ | refine below_drewN ?_ _ | refine Below.drew ?_ | refine Below.trans ?_ (Below.mono (by assumption) (by first | omega | (simp <;> omega))))) (Nat.le_refl _)).mono (by first | omega | (simp <;> omega))) ((HR3.out.keep (B' := w.heap.size) (by repeat (first | exact Below.refl _ _ | assumption | refine Below.setCell ?_ (by first | omega | (simp <;> omega)) _ | refine Below.alloc ?_ (by first | omega | (simp <;> omega)) _ | refine below_drewN ?_ _ | refine Below.drew ?_ | refine Below.trans ?_ (Below.mono (by assumption) (by first | omega | (simp <;> omega))))) (Nat.le_refl _)).mono (by first | omega | (simp <;> omega))) hn hok).mono ?_; rintro e wb ⟨rfl, hb'⟩; (first | have hb := bnext hb hb' | have hb := bnextA hb hb' | have hb := hb'); clear hb'; obtain ⟨hc, hf⟩ := bcell hb; have hz := hb.size; (try simp at hz); (try have hzz0 : w.heap.size < wb.heap.size := (by omega)); (try have hzz1 : w.heap.size + 1 < wb.heap.size := (by omega)))
      | (go_at_call 65; refine (spec_ShipOk_any _ _ _ _ _ _ _ hs).mono ?_; rintro e wa ⟨rfl, hb'⟩; (first | have hb := bnext hb hb' | have hb := bnextA hb hb' | have hb := hb'); clear hb'; obtain ⟨hc, hf⟩ := bcell hb; have hz := hb.size; (try simp at hz); (try have hzz0 : w.heap.size < wa.heap.size := (by omega)); (try have hzz1 : w.heap.size + 1 < wa.heap.size := (by omega)))
      | (go_at_call 96; refine (spec_RoutePoints_any _ _ _ c p r _ ((HR.out.keep (B' := w.heap.size) (by repeat (first | exact Below.refl _ _ | assumption | refine Below.setCell ?_ (by first | omega | (simp <;> omega)) _ | refine Below.alloc ?_ (by first | omega | (simp <;> omega)) _ | refine below_drewN ?_ _ | refine Below.drew ?_ | refine Below.trans ?_ (Below.mono (by assumption) (by first | omega | (simp <;> omega))))) (Nat.le_refl _)).mono (by first | omega | (simp <;> omega))) ((HR3.out.keep (B' := w.heap.size) (by repeat (first | exact Below.refl _ _ | assumption | refine Below.setCell ?_ (by first | omega | (simp <;> omega)) _ | refine Below.alloc ?_ (by first | omega | (simp <;> omega)) _ | refine below_drewN ?_ _ | refine Below.drew ?_ | refine Below.trans ?_ (Below.mono (by assumption) (by first | omega | (simp <;> omega))))) (Nat.le_refl _)).mono (by first | omega | (simp <;> omega))) hn hok).mono ?_; rintro e w1 ⟨pv, rfl, hown, hb'⟩; have HBP := hide hb'; have HOP := hide hown; clear hown; (first | have hb := bnext hb hb' | have hb := bnextA hb hb' | have hb := hb'); clear hb'; obtain ⟨hc, hf⟩ := bcell hb; have hz := hb.size; (try simp at hz)))
    clear g1 g2
    generalize hpts : routePts c p r = pts at *
    clear hpts
    have HO0 := Own.below (own_built0 (enc := PassageD.enc) _ 49 5) HBP.out
    have hrdp := Own.rd encI_len HOP.out
    obtain ⟨Ap, cp, hpv, hcp, hmp, -⟩ := id hrdp
    unfold maxLen at hmp
    have HRP := hide hrdp
    have HOB := hide (fun g hg => World.ownsRow.lt HOP.out g hg)
    have HDJ := hide (show ∀ g, pv.ownBlock = some g → (Value.slice (some ⟨wa.heap.size, 0, none⟩) 0 0).ownBlock = some g → False from fun g h1 h2 => by have h3 := HOB.out g h1; simp [Value.ownBlock] at h2; (try simp at h3); omega)
    clear hrdp
    subst hpv
    have HPL' := hide (show pts.length = r.length + 1 from HPL.out)
    go_loopw [13, 41] (fun u i wr => ∃ k : Nat, k ≤ r.length ∧ i = .int .i64 k ∧ Own wr (w.heap.size + 1 + 1) 49 5 PassageD.enc u (pasList c ship ⟨x0, x1, x2, x3, x4, x5⟩ pts r st k) ∧ Hid (allUpTo (stIn st) k = true) ∧ Hid (Rd wr 1 encI (.slice Ap pts.length cp) pts) ∧ Hid (∀ g, (Value.slice Ap pts.length cp).ownBlock = some g → u.ownBlock = some g → False) ∧ wr.cell? ⟨w.heap.size, 1, none⟩ = some (.slice A2 c.segs.length c2) ∧ wr.cell? ⟨w.heap.size + 1, 0, none⟩ = some (.string x0) ∧ wr.cell? ⟨w.heap.size + 1, 1, none⟩ = some (.int .i64 x1) ∧ wr.cell? ⟨w.heap.size + 1, 2, none⟩ = some (.int .i64 x2) ∧ wr.cell? ⟨w.heap.size + 1, 3, none⟩ = some (.int .i64 x3) ∧ wr.cell? ⟨w.heap.size + 1, 4, none⟩ = some (.int .i64 x4) ∧ wr.cell? ⟨w.heap.size + 1, 5, none⟩ = some (.bool x5) ∧ w.heap.size + 1 < wr.heap.size ∧ Below w.heap.size w wr) (fun _ i _ => r.length - (intOf i).toNat)
    case atStart => exact ⟨0, Nat.zero_le _, rfl, HO0.mono (by first | omega | (simp at *; omega)), hide rfl, HRP, HDJ, (by rw [hc _ _ (by first | (simp; done) | (simp; omega))]; simp [go_sem]), (by rw [hc _ _ (by first | (simp; done) | (simp; omega))]; simp [go_sem]), (by rw [hc _ _ (by first | (simp; done) | (simp; omega))]; simp [go_sem]), (by rw [hc _ _ (by first | (simp; done) | (simp; omega))]; simp [go_sem]), (by rw [hc _ _ (by first | (simp; done) | (simp; omega))]; simp [go_sem]), (by rw [hc _ _ (by first | (simp; done) | (simp; omega))]; simp [go_sem]), (by rw [hc _ _ (by first | (simp; done) | (simp; omega))]; simp [go_sem]), by first | omega | (simp; omega), (by repeat (first | exact Below.refl _ _ | assumption | refine Below.setCell ?_ (by first | omega | (simp <;> omega)) _ | refine Below.alloc ?_ (by first | omega | (simp <;> omega)) _ | refine below_drewN ?_ _ | refine Below.drew ?_ | refine Below.trans ?_ (Below.mono (by assumption) (by first | omega | (simp <;> omega)))))⟩
    case round =>
      clear HO0 HRP HOB HDJ HOP HBP
      (try clear hc hf hz hb)
      obtain ⟨k, hk, rfl, HO, HN, HP, HJ, y1, z0, z1, z2, z3, z4, z5, hl1, hb0⟩ := hrel
      obtain ⟨wo, rfl⟩ : ∃ wo : World, wo = wr := ⟨_, rfl⟩
      have hbs := hb0.size
      have hl0 : w.heap.size < wo.heap.size := by omega
      by_cases hlt : k < r.length
      · have hst : k < st.length := by have := HLEN.out; omega
        have hpt : k < pts.length := by have := HPL'.out; omega
        obtain ⟨b3, o3, rfl, hb3, hcell3⟩ := h3 (by omega)
        obtain ⟨b4, o4, rfl, hb4, hcell4⟩ := h4 (by omega)
        have e0 : wo.cell? ⟨b3, o3 + k, none⟩ = some (.int .i64 (r[k])) := by
          rw [hb0.cell (p := ⟨b3, _, none⟩) hb3]; have := hcell3 k r[k] (List.getElem?_eq_getElem hlt) 0 _ rfl; simpa using this
        have f0 : wo.cell? ⟨b4, o4 + k, none⟩ = some (.int .i64 (st[k])) := by
          rw [hb0.cell (p := ⟨b4, _, none⟩) hb4]; have := hcell4 k st[k] (List.getElem?_eq_getElem hst) 0 _ rfl; simpa using this
        have hz3 : b3 < wo.heap.size := by omega
        have hz4 : b4 < wo.heap.size := by omega
        have HSX := hide (show stIn st k = inB st[k] 0 2880 by unfold stIn; rw [getD_at hst])
        have HSN := hide (pasList_succ (c := c) (ship := ship) (s := ⟨x0, x1, x2, x3, x4, x5⟩) (pts := pts) (r := r) (st := st) (k := k))
        have HRW := hide (show pasRow c ship ⟨x0, x1, x2, x3, x4, x5⟩ pts r st k = ⟨ship, r[k], (segAt c r[k]).a == pts[k], st[k], st[k] + shipMinutes (segAt c r[k]) ⟨x0, x1, x2, x3, x4, x5⟩⟩ by unfold pasRow; rw [getD_at hlt, getD_at hst, getD_at hpt])
        have HLN := hide (pasList_len (c := c) (ship := ship) (s := ⟨x0, x1, x2, x3, x4, x5⟩) (pts := pts) (r := r) (st := st) (k := k))
        have hk5 : (k : Int) < st.length := by omega
        have hk6 : (k : Int) < pts.length := by omega
        obtain ⟨Aq, cq, hpq, _, _, hq⟩ := id HP.out
        obtain ⟨bp, op, hAp, hbp, hcellp⟩ := hq (by omega)
        obtain ⟨rfl, rfl⟩ : Ap = Aq ∧ cp = cq := by injection hpq with a1 a2 a3; exact ⟨a1, a3⟩
        subst hAp
        have t0 : wo.cell? ⟨bp, op + k, none⟩ = some (.int .i64 pts[k]) := by have := hcellp k pts[k] (List.getElem?_eq_getElem hpt) 0 _ rfl; simpa using this
        clear h3 h4 hcell3 hcell4 hq hcellp hpq
        have hsk := HSG.out k hlt
        obtain ⟨a, ha, ha2⟩ := idx_nat hsk
        obtain ⟨-, -, -, -, -, -, -, hq1, hq2⟩ := chart_seg HCH.out ha2
        obtain ⟨b2, o2, rfl, hb2, hcell2⟩ := h2 (by omega)
        have g0 : wo.cell? ⟨b2, o2 + a * 5, none⟩ = some (.int .i64 c.segs[a].a) := by
          rw [hb0.cell (p := ⟨b2, _, none⟩) hb2]; have := hcell2 a c.segs[a] (List.getElem?_eq_getElem ha2) 0 _ rfl; simpa using this
        have g1 : wo.cell? ⟨b2, o2 + a * 5 + 1, none⟩ = some (.int .i64 c.segs[a].b) := by
          rw [hb0.cell (p := ⟨b2, _, none⟩) hb2]; have := hcell2 a c.segs[a] (List.getElem?_eq_getElem ha2) 1 _ rfl; simpa using this
        have g2 : wo.cell? ⟨b2, o2 + a * 5 + 2, none⟩ = some (.int .i64 c.segs[a].depth) := by
          rw [hb0.cell (p := ⟨b2, _, none⟩) hb2]; have := hcell2 a c.segs[a] (List.getElem?_eq_getElem ha2) 2 _ rfl; simpa using this
        have g3 : wo.cell? ⟨b2, o2 + a * 5 + 3, none⟩ = some (.int .i64 c.segs[a].minutes) := by
          rw [hb0.cell (p := ⟨b2, _, none⟩) hb2]; have := hcell2 a c.segs[a] (List.getElem?_eq_getElem ha2) 3 _ rfl; simpa using this
        have g4 : wo.cell? ⟨b2, o2 + a * 5 + 4, none⟩ = some (.bool c.segs[a].meet) := by
          rw [hb0.cell (p := ⟨b2, _, none⟩) hb2]; have := hcell2 a c.segs[a] (List.getElem?_eq_getElem ha2) 4 _ rfl; simpa using this
        have hz2' : b2 < wo.heap.size := by omega
        have ha3 : (a : Int) < c.segs.length := by omega
        rw [ha, segAt_nat ha2] at HRW
        rw [ha] at e0
        clear hcell2 h2 hsk ha
        generalize st[k] = sk at *
        generalize pts[k] = pk at *
        rcases ch1 (inB sk 0 2880) with q | q
        · have HQ := hide q
          have HSI := hide (show stIn st k = true by rw [HSX.out]; exact q)
          have hsk0 : 0 ≤ sk ∧ sk ≤ 2880 := by simp [inB] at q; omega
          obtain ⟨sm, hsm⟩ : ∃ sm, shipMinutes c.segs[a] ⟨x0, x1, x2, x3, x4, x5⟩ = sm := ⟨_, rfl⟩
          have hsmr := shipMinutes_range (g := c.segs[a]) (s := ⟨x0, x1, x2, x3, x4, x5⟩) hq1 hq2
          rw [hsm] at hsmr HRW
          have HSM := hide hsm; clear hsm
          obtain ⟨hsk1, hsk2⟩ := hsk0
          obtain ⟨hsm1, hsm2⟩ := hsmr
          have hwr : IntKind.i64.wrap (sk + sm) = sk + sm := IntWalk.i64_in _ (by omega)
          obtain ⟨tb, htb⟩ : ∃ tb, (c.segs[a].a == pk) = tb := ⟨_, rfl⟩
          rw [htb] at HRW
          have htb2 : (pk == c.segs[a].a) = tb := by rw [← htb, Bool.eq_iff_iff]; simp; exact eq_comm
          go_wp2_with (go_at_call 66; refine (l01In_any _ _ _ _).mono ?_; rintro e w1 ⟨rfl, hw⟩; obtain rfl := hw.symm)
          obtain ⟨W2, hW2⟩ : ∃ W2 : World, W2 = wo := ⟨_, rfl⟩
          have HO2 := hide HO; have HP2 := hide HP.out
          have hl3 : w.heap.size + 1 + 1 ≤ wo.heap.size := by omega
          have hmx : (pasList c ship ⟨x0, x1, x2, x3, x4, x5⟩ pts r st k).length + [(⟨ship, (a : Int), tb, sk, sk + sm⟩ : PassageD)].length ≤ 1048577 := by rw [HLN.out]; simp; omega
          have keepS : ∀ w', Below wo.heap.size wo w' → w'.cell? ⟨w.heap.size, 1, none⟩ = some (.slice (some ⟨b2, o2, none⟩) c.segs.length c2) ∧ w'.cell? ⟨w.heap.size + 1, 0, none⟩ = some (.string x0) ∧ w'.cell? ⟨w.heap.size + 1, 1, none⟩ = some (.int .i64 x1) ∧ w'.cell? ⟨w.heap.size + 1, 2, none⟩ = some (.int .i64 x2) ∧ w'.cell? ⟨w.heap.size + 1, 3, none⟩ = some (.int .i64 x3) ∧ w'.cell? ⟨w.heap.size + 1, 4, none⟩ = some (.int .i64 x4) ∧ w'.cell? ⟨w.heap.size + 1, 5, none⟩ = some (.bool x5) ∧ w'.cell? ⟨b2, o2 + a * 5, none⟩ = some (.int .i64 c.segs[a].a) ∧ w'.cell? ⟨b2, o2 + a * 5 + 1, none⟩ = some (.int .i64 c.segs[a].b) ∧ w'.cell? ⟨b2, o2 + a * 5 + 2, none⟩ = some (.int .i64 c.segs[a].depth) ∧ w'.cell? ⟨b2, o2 + a * 5 + 3, none⟩ = some (.int .i64 c.segs[a].minutes) ∧ w'.cell? ⟨b2, o2 + a * 5 + 4, none⟩ = some (.bool c.segs[a].meet) ∧ w'.cell? ⟨bp, op + k, none⟩ = some (.int .i64 pk) ∧ w'.cell? ⟨b4, o4 + k, none⟩ = some (.int .i64 sk) ∧ Below (w.heap.size + 1 + 1) wo w' := fun w' hB => ⟨cellKeep hB y1 hl0, cellKeep hB z0 hl1, cellKeep hB z1 hl1, cellKeep hB z2 hl1, cellKeep hB z3 hl1, cellKeep hB z4 hl1, cellKeep hB z5 hl1, cellKeep hB g0 hz2', cellKeep hB g1 hz2', cellKeep hB g2 hz2', cellKeep hB g3 hz2', cellKeep hB g4 hz2', cellKeep hB t0 hbp, cellKeep hB f0 hz4, hB.mono hl3⟩
          have keep10 : ∀ (w8 w9 : World) (u : Value), Below wo.heap.size wo w8 → Below (w.heap.size + 1 + 1) wo w9 → w8.grownBy w9 u.ownBlock → (∀ g, (Value.slice (some ⟨bp, op, none⟩) pts.length cp).ownBlock = some g → u.ownBlock = some g → False) → w9.cell? ⟨w.heap.size, 1, none⟩ = some (.slice (some ⟨b2, o2, none⟩) c.segs.length c2) ∧ w9.cell? ⟨w.heap.size + 1, 0, none⟩ = some (.string x0) ∧ w9.cell? ⟨w.heap.size + 1, 1, none⟩ = some (.int .i64 x1) ∧ w9.cell? ⟨w.heap.size + 1, 2, none⟩ = some (.int .i64 x2) ∧ w9.cell? ⟨w.heap.size + 1, 3, none⟩ = some (.int .i64 x3) ∧ w9.cell? ⟨w.heap.size + 1, 4, none⟩ = some (.int .i64 x4) ∧ w9.cell? ⟨w.heap.size + 1, 5, none⟩ = some (.bool x5) ∧ w9.cell? ⟨b2, o2 + a * 5, none⟩ = some (.int .i64 c.segs[a].a) ∧ w9.cell? ⟨b2, o2 + a * 5 + 1, none⟩ = some (.int .i64 c.segs[a].b) ∧ w9.cell? ⟨b2, o2 + a * 5 + 2, none⟩ = some (.int .i64 c.segs[a].depth) ∧ w9.cell? ⟨b2, o2 + a * 5 + 3, none⟩ = some (.int .i64 c.segs[a].minutes) ∧ w9.cell? ⟨b2, o2 + a * 5 + 4, none⟩ = some (.bool c.segs[a].meet) ∧ w9.cell? ⟨bp, op + k, none⟩ = some (.int .i64 pk) ∧ w9.cell? ⟨b4, o4 + k, none⟩ = some (.int .i64 sk) ∧ Below (w.heap.size + 1 + 1) wo w9 := fun w8 w9 u hB1 hB2 hg hj => ⟨cellKeep hB2 y1 (by omega), cellKeep hB2 z0 (by omega), cellKeep hB2 z1 (by omega), cellKeep hB2 z2 (by omega), cellKeep hB2 z3 (by omega), cellKeep hB2 z4 (by omega), cellKeep hB2 z5 (by omega), cellKeep hB2 g0 (by omega), cellKeep hB2 g1 (by omega), cellKeep hB2 g2 (by omega), cellKeep hB2 g3 (by omega), cellKeep hB2 g4 (by omega), (World.cell?_of_block (hg.block bp (Nat.lt_of_lt_of_le hbp hB1.size) (fun e => hj bp rfl e.symm))).trans (cellKeep hB1 t0 hbp), cellKeep hB2 f0 (by omega), hB2⟩
          go_region_held3 (fun w' => w'.cell? ⟨w.heap.size, 1, none⟩ = some (.slice (some ⟨b2, o2, none⟩) c.segs.length c2) ∧ w'.cell? ⟨w.heap.size + 1, 0, none⟩ = some (.string x0) ∧ w'.cell? ⟨w.heap.size + 1, 1, none⟩ = some (.int .i64 x1) ∧ w'.cell? ⟨w.heap.size + 1, 2, none⟩ = some (.int .i64 x2) ∧ w'.cell? ⟨w.heap.size + 1, 3, none⟩ = some (.int .i64 x3) ∧ w'.cell? ⟨w.heap.size + 1, 4, none⟩ = some (.int .i64 x4) ∧ w'.cell? ⟨w.heap.size + 1, 5, none⟩ = some (.bool x5) ∧ w'.cell? ⟨b2, o2 + a * 5, none⟩ = some (.int .i64 c.segs[a].a) ∧ w'.cell? ⟨b2, o2 + a * 5 + 1, none⟩ = some (.int .i64 c.segs[a].b) ∧ w'.cell? ⟨b2, o2 + a * 5 + 2, none⟩ = some (.int .i64 c.segs[a].depth) ∧ w'.cell? ⟨b2, o2 + a * 5 + 3, none⟩ = some (.int .i64 c.segs[a].minutes) ∧ w'.cell? ⟨b2, o2 + a * 5 + 4, none⟩ = some (.bool c.segs[a].meet) ∧ w'.cell? ⟨bp, op + k, none⟩ = some (.int .i64 pk) ∧ w'.cell? ⟨b4, o4 + k, none⟩ = some (.int .i64 sk) ∧ Below (w.heap.size + 1 + 1) wo w')
            (first
              | exact keepS _ (Below.drew (Below.refl _ _))
              | exact hS10
              | exact keepS _ hB7
              | exact keepS _ (hB7.alloc hB7.size _))
            (first
              | (go_at_call 67; with_reducible refine (calls_int (l06Minutes_any c.segs[a] ⟨x0, x1, x2, x3, x4, x5⟩ _ hq1 hq2) HSM.out).mono ?_; rintro e w7 ⟨rfl, hb7⟩; have hB7 := (show Below wo.heap.size wo _ from Below.drew (Below.refl _ _)).trans (hb7.mono (Nat.le_refl _)))
              | (have hB8 := hB7.alloc hB7.size (.cells #[.int .i64 ship, .int .i64 a, .bool tb, .int .i64 sk, .int .i64 (sk + sm)] 49); have hA := HO2.out.below hB8; have hR := rdP w7 49 ship (a : Int) tb sk (sk + sm); have hl9 := Nat.le_trans hl3 hB8.size; refine pass_append (.tmp 52) (.tmp 83) (by rfl) (by rfl) _ u13 (.slice (some ⟨w7.heap.size, 0, none⟩) 1 1) _ _ (by rfl) (by rfl) hA hR hmx hl9 ?_; intro v10 w10 hown10 hgrow10 hblk10; have hB10 := (hB8.mono hl3).trans (Own.belowGrown (B := w.heap.size + 1 + 1) hA hgrow10 (Nat.le_refl _) hl9); have hS10 := keep10 _ w10 u13 hB8 hB10 hgrow10 HJ.out))
          all_goals
            have hRP := rd_grownP (Rd.below HP.out hB8) hgrow10 HJ.out
            have hDJ : ∀ g, (Value.slice (some ⟨bp, op, none⟩) pts.length cp).ownBlock = some g → v10.ownBlock = some g → False := by
              intro g h1 h2
              rcases hblk10 with e | e
              · exact HJ.out g h1 (e.symm.trans h2)
              · have h3 := Option.some.inj (e.symm.trans h2)
                have h4 : bp = g := by simpa [Value.ownBlock] using h1
                have h5 := hB8.size
                omega
            have hsz10 := hB10.size
            clear hS10 keep10 keepS
            go_wp2
            go_roundw
            case rel => exact ⟨k + 1, by omega, by go_num, by rw [HSN.out, HRW.out]; exact hown10, hide (allUpTo_succ HN.out HSI.out), hide hRP, hide hDJ, cellKeep hB10 y1 (by omega), cellKeep hB10 z0 (by omega), cellKeep hB10 z1 (by omega), cellKeep hB10 z2 (by omega), cellKeep hB10 z3 (by omega), cellKeep hB10 z4 (by omega), cellKeep hB10 z5 (by omega), by omega, hb0.trans (hB10.mono (by omega))⟩
            case measure => simp [intOf]; omega
        · have HT := hide (show passagesOf c ship ⟨x0, x1, x2, x3, x4, x5⟩ p r st = [] by rw [HV.out, if_neg (by rw [allUpTo_bad hlt (by rw [HSX.out]; exact q)]; simp)])
          go_wp2_with (go_at_call 66; refine (l01In_any _ _ _ _).mono ?_; rintro e w1 ⟨rfl, hw⟩; obtain rfl := hw.symm)
          go_ret
          exact ⟨_, rfl, by rw [HT.out]; exact Own.nil_, hb0⟩
      · obtain rfl : k = r.length := by omega
        have HT := hide (show passagesOf c ship ⟨x0, x1, x2, x3, x4, x5⟩ p r st = pasList c ship ⟨x0, x1, x2, x3, x4, x5⟩ pts r st r.length by rw [HV.out, if_pos HN.out])
        go_wp2
        go_ret
        exact ⟨_, rfl, by rw [HT.out]; exact HO.mono (by omega), hb0⟩
  all_goals
    have HV := hide (show passagesOf c ship ⟨x0, x1, x2, x3, x4, x5⟩ p r st = [] by unfold passagesOf pasOk; simp [*])
    (try have hne : ((r.length : Int) != (st.length : Int)) = true := by (simp at g3 ⊢; omega))
    clear h2 h3 h4
    go_enter Try.func50, Try.ntmps50
    go_wp2_with (first
      | (go_at_call 95; refine (spec_RouteOk_any _ _ _ c p r _ ((HR.out.keep (B' := w.heap.size) (by repeat (first | exact Below.refl _ _ | assumption | refine Below.setCell ?_ (by first | omega | (simp <;> omega)) _ | refine Below.alloc ?_ (by first | omega | (simp <;> omega)) _ | refine below_drewN ?_ _ | refine Below.drew ?_ | refine Below.trans ?_ (Below.mono (by assumption) (by first | omega | (simp <;> omega))))) (Nat.le_refl _)).mono (by first | omega | (simp <;> omega))) ((HR3.out.keep (B' := w.heap.size) (by repeat (first | exact Below.refl _ _ | assumption | refine Below.setCell ?_ (by first | omega | (simp <;> omega)) _ | refine Below.alloc ?_ (by first | omega | (simp <;> omega)) _ | refine below_drewN ?_ _ | refine Below.drew ?_ | refine Below.trans ?_ (Below.mono (by assumption) (by first | omega | (simp <;> omega))))) (Nat.le_refl _)).mono (by first | omega | (simp <;> omega))) hn hok).mono ?_; rintro e wb ⟨rfl, hb'⟩; (first | have hb := bnext hb hb' | have hb := bnextA hb hb' | have hb := hb'); clear hb'; obtain ⟨hc, hf⟩ := bcell hb; have hz := hb.size; (try simp at hz); (try have hzz0 : w.heap.size < wb.heap.size := (by omega)); (try have hzz1 : w.heap.size + 1 < wb.heap.size := (by omega)))
      | (go_at_call 65; refine (spec_ShipOk_any _ _ _ _ _ _ _ hs).mono ?_; rintro e wa ⟨rfl, hb'⟩; (first | have hb := bnext hb hb' | have hb := bnextA hb hb' | have hb := hb'); clear hb'; obtain ⟨hc, hf⟩ := bcell hb; have hz := hb.size; (try simp at hz); (try have hzz0 : w.heap.size < wa.heap.size := (by omega)); (try have hzz1 : w.heap.size + 1 < wa.heap.size := (by omega)))
      | (go_at_call 96; refine (spec_RoutePoints_any _ _ _ c p r _ ((HR.out.keep (B' := w.heap.size) (by repeat (first | exact Below.refl _ _ | assumption | refine Below.setCell ?_ (by first | omega | (simp <;> omega)) _ | refine Below.alloc ?_ (by first | omega | (simp <;> omega)) _ | refine below_drewN ?_ _ | refine Below.drew ?_ | refine Below.trans ?_ (Below.mono (by assumption) (by first | omega | (simp <;> omega))))) (Nat.le_refl _)).mono (by first | omega | (simp <;> omega))) ((HR3.out.keep (B' := w.heap.size) (by repeat (first | exact Below.refl _ _ | assumption | refine Below.setCell ?_ (by first | omega | (simp <;> omega)) _ | refine Below.alloc ?_ (by first | omega | (simp <;> omega)) _ | refine below_drewN ?_ _ | refine Below.drew ?_ | refine Below.trans ?_ (Below.mono (by assumption) (by first | omega | (simp <;> omega))))) (Nat.le_refl _)).mono (by first | omega | (simp <;> omega))) hn hok).mono ?_; rintro e w1 ⟨pv, rfl, hown, hb'⟩; have HBP := hide hb'; have HOP := hide hown; clear hown; (first | have hb := bnext hb hb' | have hb := bnextA hb hb' | have hb := hb'); clear hb'; obtain ⟨hc, hf⟩ := bcell hb; have hz := hb.size; (try simp at hz)))
    go_ret
    exact ⟨_, rfl, by rw [HV.out]; exact Own.nil_, (by repeat (first | exact Below.refl _ _ | assumption | refine Below.setCell ?_ (by first | omega | (simp <;> omega)) _ | refine Below.alloc ?_ (by first | omega | (simp <;> omega)) _ | refine below_drewN ?_ _ | refine Below.drew ?_ | refine Below.trans ?_ (Below.mono (by assumption) (by first | omega | (simp <;> omega)))))⟩
set_option maxRecDepth 100000 in
set_option maxHeartbeats 16000000 in
theorem impl_PassagesOf_any (v1 v2 v3 v4 : Value) (c : ChartD) (ship : Int) (s : ShipD) (p : Int) (r st : List Int) (w : World) (h : RdChart w w.heap.size v1 v2 c) (h3 : RdI w v3 r) (h4 : RdI w v4 st) (hn : r.length ≤ 1048576) (hok : ∀ x ∈ c.points, x.name.size ≤ maxLen) (hs : s.name.size ≤ maxLen) :
    Calls Try.prog 51 #[.agg #[v1, v2], .int .i64 ship, s.val, .int .i64 p, v3, v4] w fun e w' => ∃ v, e = .returned v ∧ Own w' w.heap.size 49 5 PassageD.enc v (passagesOf c ship s p r st) ∧ Below w.heap.size w w' := by
  have HR := hide h; have HR3 := hide h3
  obtain ⟨h1, h2⟩ := h
  obtain ⟨A1, c1, rfl, hc1, hm1, h1⟩ := h1
  obtain ⟨A2, c2, rfl, hc2, hm2, h2⟩ := h2
  obtain ⟨A3, c3, rfl, hc3, hm3, h3⟩ := h3
  obtain ⟨A4, c4, rfl, hc4, hm4, h4⟩ := h4
  unfold maxLen at hm1 hm2 hm3 hm4
  clear h1
  obtain ⟨x0, x1, x2, x3, x4, x5⟩ := s
  obtain ⟨i0, hi, hz0, hz1, hz2⟩ := info_parts passage_info
  rcases ch3 (routeOk c p r) (shipOk ⟨x0, x1, x2, x3, x4, x5⟩) (decide ((r.length : Int) = st.length)) with ⟨g1, g2, g3⟩ | g1 | ⟨g1, g2⟩ | ⟨g1, g2, g3⟩
  · have hlen : (r.length : Int) = st.length := by simpa using g3
    have hne : ((r.length : Int) != (st.length : Int)) = false := by simp; omega
    obtain ⟨hch, hpl, hsg⟩ := route_ok g1
    have HCH := hide hch; have HPL := hide hpl; have HSG := hide hsg; have HLEN := hide hlen
    have HV := hide (show passagesOf c ship ⟨x0, x1, x2, x3, x4, x5⟩ p r st = if allUpTo (stIn st) r.length = true then pasList c ship ⟨x0, x1, x2, x3, x4, x5⟩ (routePts c p r) r st r.length else [] by unfold passagesOf pasOk; rw [g1, g2, g3]; rfl)
    clear hch hpl hsg hlen g3
    go_enter Try.func51, Try.ntmps51
    go_wp2_with (first
      | (go_at_call 97; refine (impl_RouteOk_any _ _ _ c p r _ ((HR.out.keep (B' := w.heap.size) (by repeat (first | exact Below.refl _ _ | assumption | refine Below.setCell ?_ (by first | omega | (simp <;> omega)) _ | refine Below.alloc ?_ (by first | omega | (simp <;> omega)) _ | refine below_drewN ?_ _ | refine Below.drew ?_ | refine Below.trans ?_ (Below.mono (by assumption) (by first | omega | (simp <;> omega))))) (Nat.le_refl _)).mono (by first | omega | (simp <;> omega))) ((HR3.out.keep (B' := w.heap.size) (by repeat (first | exact Below.refl _ _ | assumption | refine Below.setCell ?_ (by first | omega | (simp <;> omega)) _ | refine Below.alloc ?_ (by first | omega | (simp <;> omega)) _ | refine below_drewN ?_ _ | refine Below.drew ?_ | refine Below.trans ?_ (Below.mono (by assumption) (by first | omega | (simp <;> omega))))) (Nat.le_refl _)).mono (by first | omega | (simp <;> omega))) hn hok).mono ?_; rintro e wb ⟨rfl, hb'⟩; (first | have hb := bnext hb hb' | have hb := bnextA hb hb' | have hb := hb'); clear hb'; obtain ⟨hc, hf⟩ := bcell hb; have hz := hb.size; (try simp at hz); (try have hzz0 : w.heap.size < wb.heap.size := (by omega)); (try have hzz1 : w.heap.size + 1 < wb.heap.size := (by omega)))
      | (go_at_call 71; refine (impl_ShipOk_any _ _ _ _ _ _ _ hs).mono ?_; rintro e wa ⟨rfl, hb'⟩; (first | have hb := bnext hb hb' | have hb := bnextA hb hb' | have hb := hb'); clear hb'; obtain ⟨hc, hf⟩ := bcell hb; have hz := hb.size; (try simp at hz); (try have hzz0 : w.heap.size < wa.heap.size := (by omega)); (try have hzz1 : w.heap.size + 1 < wa.heap.size := (by omega)))
      | (go_at_call 98; refine (impl_RoutePoints_any _ _ _ c p r _ ((HR.out.keep (B' := w.heap.size) (by repeat (first | exact Below.refl _ _ | assumption | refine Below.setCell ?_ (by first | omega | (simp <;> omega)) _ | refine Below.alloc ?_ (by first | omega | (simp <;> omega)) _ | refine below_drewN ?_ _ | refine Below.drew ?_ | refine Below.trans ?_ (Below.mono (by assumption) (by first | omega | (simp <;> omega))))) (Nat.le_refl _)).mono (by first | omega | (simp <;> omega))) ((HR3.out.keep (B' := w.heap.size) (by repeat (first | exact Below.refl _ _ | assumption | refine Below.setCell ?_ (by first | omega | (simp <;> omega)) _ | refine Below.alloc ?_ (by first | omega | (simp <;> omega)) _ | refine below_drewN ?_ _ | refine Below.drew ?_ | refine Below.trans ?_ (Below.mono (by assumption) (by first | omega | (simp <;> omega))))) (Nat.le_refl _)).mono (by first | omega | (simp <;> omega))) hn hok).mono ?_; rintro e w1 ⟨pv, rfl, hown, hb'⟩; have HBP := hide hb'; have HOP := hide hown; clear hown; (first | have hb := bnext hb hb' | have hb := bnextA hb hb' | have hb := hb'); clear hb'; obtain ⟨hc, hf⟩ := bcell hb; have hz := hb.size; (try simp at hz)))
    clear g1 g2
    generalize hpts : routePts c p r = pts at *
    clear hpts
    have HO0 := own_built0 (enc := PassageD.enc) w1 49 5
    have hrdp := Own.rd encI_len HOP.out
    obtain ⟨Ap, cp, hpv, hcp, hmp, -⟩ := id hrdp
    unfold maxLen at hmp
    have HRP := hide hrdp
    have HOB := hide (fun g hg => World.ownsRow.lt HOP.out g hg)
    have HDJ := hide (show ∀ g, pv.ownBlock = some g → (Value.slice (some ⟨w1.heap.size, 0, none⟩) 0 0).ownBlock = some g → False from fun g h1 h2 => by have h3 := HOB.out g h1; simp [Value.ownBlock] at h2; (try simp at h3); omega)
    clear hrdp
    subst hpv
    have HPL' := hide (show pts.length = r.length + 1 from HPL.out)
    go_loopw [14, 42] (fun u i wr => ∃ k : Nat, k ≤ r.length ∧ i = .int .i64 k ∧ Own wr (w.heap.size + 1 + 1) 49 5 PassageD.enc u (pasList c ship ⟨x0, x1, x2, x3, x4, x5⟩ pts r st k) ∧ Hid (allUpTo (stIn st) k = true) ∧ Hid (Rd wr 1 encI (.slice Ap pts.length cp) pts) ∧ Hid (∀ g, (Value.slice Ap pts.length cp).ownBlock = some g → u.ownBlock = some g → False) ∧ wr.cell? ⟨w.heap.size, 1, none⟩ = some (.slice A2 c.segs.length c2) ∧ wr.cell? ⟨w.heap.size + 1, 0, none⟩ = some (.string x0) ∧ wr.cell? ⟨w.heap.size + 1, 1, none⟩ = some (.int .i64 x1) ∧ wr.cell? ⟨w.heap.size + 1, 2, none⟩ = some (.int .i64 x2) ∧ wr.cell? ⟨w.heap.size + 1, 3, none⟩ = some (.int .i64 x3) ∧ wr.cell? ⟨w.heap.size + 1, 4, none⟩ = some (.int .i64 x4) ∧ wr.cell? ⟨w.heap.size + 1, 5, none⟩ = some (.bool x5) ∧ w.heap.size + 1 < wr.heap.size ∧ Below w.heap.size w wr) (fun _ i _ => r.length - (intOf i).toNat)
    case atStart => exact ⟨0, Nat.zero_le _, rfl, HO0.mono (by first | omega | (simp at *; omega)), hide rfl, hide (Rd.below HRP.out ((Below.refl _ _).alloc (Nat.le_refl _) _)), HDJ, cellKeep (B := w1.heap.size) (w1 := w1) ((Below.refl _ _).alloc (Nat.le_refl _) _) (by rw [hc _ _ (by first | (simp; done) | (simp; omega))]; simp [go_sem]) (by omega), cellKeep (B := w1.heap.size) (w1 := w1) ((Below.refl _ _).alloc (Nat.le_refl _) _) (by rw [hc _ _ (by first | (simp; done) | (simp; omega))]; simp [go_sem]) (by omega), cellKeep (B := w1.heap.size) (w1 := w1) ((Below.refl _ _).alloc (Nat.le_refl _) _) (by rw [hc _ _ (by first | (simp; done) | (simp; omega))]; simp [go_sem]) (by omega), cellKeep (B := w1.heap.size) (w1 := w1) ((Below.refl _ _).alloc (Nat.le_refl _) _) (by rw [hc _ _ (by first | (simp; done) | (simp; omega))]; simp [go_sem]) (by omega), cellKeep (B := w1.heap.size) (w1 := w1) ((Below.refl _ _).alloc (Nat.le_refl _) _) (by rw [hc _ _ (by first | (simp; done) | (simp; omega))]; simp [go_sem]) (by omega), cellKeep (B := w1.heap.size) (w1 := w1) ((Below.refl _ _).alloc (Nat.le_refl _) _) (by rw [hc _ _ (by first | (simp; done) | (simp; omega))]; simp [go_sem]) (by omega), cellKeep (B := w1.heap.size) (w1 := w1) ((Below.refl _ _).alloc (Nat.le_refl _) _) (by rw [hc _ _ (by first | (simp; done) | (simp; omega))]; simp [go_sem]) (by omega), by first | omega | (simp; omega), (by repeat (first | exact Below.refl _ _ | assumption | refine Below.setCell ?_ (by first | omega | (simp <;> omega)) _ | refine Below.alloc ?_ (by first | omega | (simp <;> omega)) _ | refine below_drewN ?_ _ | refine Below.drew ?_ | refine Below.trans ?_ (Below.mono (by assumption) (by first | omega | (simp <;> omega)))))⟩
    case round =>
      clear HO0 HRP HOB HDJ HOP HBP
      (try clear hc hf hz hb)
      obtain ⟨k, hk, rfl, HO, HN, HP, HJ, y1, z0, z1, z2, z3, z4, z5, hl1, hb0⟩ := hrel
      obtain ⟨wo, rfl⟩ : ∃ wo : World, wo = wr := ⟨_, rfl⟩
      have hbs := hb0.size
      have hl0 : w.heap.size < wo.heap.size := by omega
      by_cases hlt : k < r.length
      · have hst : k < st.length := by have := HLEN.out; omega
        have hpt : k < pts.length := by have := HPL'.out; omega
        obtain ⟨b3, o3, rfl, hb3, hcell3⟩ := h3 (by omega)
        obtain ⟨b4, o4, rfl, hb4, hcell4⟩ := h4 (by omega)
        have e0 : wo.cell? ⟨b3, o3 + k, none⟩ = some (.int .i64 (r[k])) := by
          rw [hb0.cell (p := ⟨b3, _, none⟩) hb3]; have := hcell3 k r[k] (List.getElem?_eq_getElem hlt) 0 _ rfl; simpa using this
        have f0 : wo.cell? ⟨b4, o4 + k, none⟩ = some (.int .i64 (st[k])) := by
          rw [hb0.cell (p := ⟨b4, _, none⟩) hb4]; have := hcell4 k st[k] (List.getElem?_eq_getElem hst) 0 _ rfl; simpa using this
        have hz3 : b3 < wo.heap.size := by omega
        have hz4 : b4 < wo.heap.size := by omega
        have HSX := hide (show stIn st k = inB st[k] 0 2880 by unfold stIn; rw [getD_at hst])
        have HSN := hide (pasList_succ (c := c) (ship := ship) (s := ⟨x0, x1, x2, x3, x4, x5⟩) (pts := pts) (r := r) (st := st) (k := k))
        have HRW := hide (show pasRow c ship ⟨x0, x1, x2, x3, x4, x5⟩ pts r st k = ⟨ship, r[k], (segAt c r[k]).a == pts[k], st[k], st[k] + shipMinutes (segAt c r[k]) ⟨x0, x1, x2, x3, x4, x5⟩⟩ by unfold pasRow; rw [getD_at hlt, getD_at hst, getD_at hpt])
        have HLN := hide (pasList_len (c := c) (ship := ship) (s := ⟨x0, x1, x2, x3, x4, x5⟩) (pts := pts) (r := r) (st := st) (k := k))
        have hk5 : (k : Int) < st.length := by omega
        have hk6 : (k : Int) < pts.length := by omega
        obtain ⟨Aq, cq, hpq, _, _, hq⟩ := id HP.out
        obtain ⟨bp, op, hAp, hbp, hcellp⟩ := hq (by omega)
        obtain ⟨rfl, rfl⟩ : Ap = Aq ∧ cp = cq := by injection hpq with a1 a2 a3; exact ⟨a1, a3⟩
        subst hAp
        have t0 : wo.cell? ⟨bp, op + k, none⟩ = some (.int .i64 pts[k]) := by have := hcellp k pts[k] (List.getElem?_eq_getElem hpt) 0 _ rfl; simpa using this
        clear h3 h4 hcell3 hcell4 hq hcellp hpq
        have hsk := HSG.out k hlt
        obtain ⟨a, ha, ha2⟩ := idx_nat hsk
        obtain ⟨-, -, -, -, -, -, -, hq1, hq2⟩ := chart_seg HCH.out ha2
        obtain ⟨b2, o2, rfl, hb2, hcell2⟩ := h2 (by omega)
        have g0 : wo.cell? ⟨b2, o2 + a * 5, none⟩ = some (.int .i64 c.segs[a].a) := by
          rw [hb0.cell (p := ⟨b2, _, none⟩) hb2]; have := hcell2 a c.segs[a] (List.getElem?_eq_getElem ha2) 0 _ rfl; simpa using this
        have g1 : wo.cell? ⟨b2, o2 + a * 5 + 1, none⟩ = some (.int .i64 c.segs[a].b) := by
          rw [hb0.cell (p := ⟨b2, _, none⟩) hb2]; have := hcell2 a c.segs[a] (List.getElem?_eq_getElem ha2) 1 _ rfl; simpa using this
        have g2 : wo.cell? ⟨b2, o2 + a * 5 + 2, none⟩ = some (.int .i64 c.segs[a].depth) := by
          rw [hb0.cell (p := ⟨b2, _, none⟩) hb2]; have := hcell2 a c.segs[a] (List.getElem?_eq_getElem ha2) 2 _ rfl; simpa using this
        have g3 : wo.cell? ⟨b2, o2 + a * 5 + 3, none⟩ = some (.int .i64 c.segs[a].minutes) := by
          rw [hb0.cell (p := ⟨b2, _, none⟩) hb2]; have := hcell2 a c.segs[a] (List.getElem?_eq_getElem ha2) 3 _ rfl; simpa using this
        have g4 : wo.cell? ⟨b2, o2 + a * 5 + 4, none⟩ = some (.bool c.segs[a].meet) := by
          rw [hb0.cell (p := ⟨b2, _, none⟩) hb2]; have := hcell2 a c.segs[a] (List.getElem?_eq_getElem ha2) 4 _ rfl; simpa using this
        have hz2' : b2 < wo.heap.size := by omega
        have ha3 : (a : Int) < c.segs.length := by omega
        rw [ha, segAt_nat ha2] at HRW
        rw [ha] at e0
        clear hcell2 h2 hsk ha
        generalize st[k] = sk at *
        generalize pts[k] = pk at *
        rcases ch1 (inB sk 0 2880) with q | q
        · have HQ := hide q
          have HSI := hide (show stIn st k = true by rw [HSX.out]; exact q)
          have hsk0 : 0 ≤ sk ∧ sk ≤ 2880 := by simp [inB] at q; omega
          obtain ⟨sm, hsm⟩ : ∃ sm, shipMinutes c.segs[a] ⟨x0, x1, x2, x3, x4, x5⟩ = sm := ⟨_, rfl⟩
          have hsmr := shipMinutes_range (g := c.segs[a]) (s := ⟨x0, x1, x2, x3, x4, x5⟩) hq1 hq2
          rw [hsm] at hsmr HRW
          have HSM := hide hsm; clear hsm
          obtain ⟨hsk1, hsk2⟩ := hsk0
          obtain ⟨hsm1, hsm2⟩ := hsmr
          have hwr : IntKind.i64.wrap (sk + sm) = sk + sm := IntWalk.i64_in _ (by omega)
          obtain ⟨tb, htb⟩ : ∃ tb, (c.segs[a].a == pk) = tb := ⟨_, rfl⟩
          rw [htb] at HRW
          have htb2 : (pk == c.segs[a].a) = tb := by rw [← htb, Bool.eq_iff_iff]; simp; exact eq_comm
          go_wp2_with (go_at_call 86; refine (isMinute_any _ _).mono ?_; rintro e w1 ⟨rfl, hw⟩; obtain rfl := hw.symm)
          generalize hW2 : wo.alloc (.cells #[.int .i64 c.segs[a].a, .int .i64 c.segs[a].b, .int .i64 c.segs[a].depth, .int .i64 c.segs[a].minutes, .bool c.segs[a].meet] 98) = W2
          have hBW : Below wo.heap.size wo W2 := by rw [← hW2]; exact (Below.refl _ _).alloc (Nat.le_refl _) _
          have hl4 : wo.heap.size < W2.heap.size := by rw [← hW2]; simp
          clear g0 g1 g2 g3 g4
          have g0 : W2.cell? ⟨wo.heap.size, 0, none⟩ = some (.int .i64 c.segs[a].a) := by rw [← hW2]; simp [go_sem]
          have g1 : W2.cell? ⟨wo.heap.size, 1, none⟩ = some (.int .i64 c.segs[a].b) := by rw [← hW2]; simp [go_sem]
          have g2 : W2.cell? ⟨wo.heap.size, 2, none⟩ = some (.int .i64 c.segs[a].depth) := by rw [← hW2]; simp [go_sem]
          have g3 : W2.cell? ⟨wo.heap.size, 3, none⟩ = some (.int .i64 c.segs[a].minutes) := by rw [← hW2]; simp [go_sem]
          have g4 : W2.cell? ⟨wo.heap.size, 4, none⟩ = some (.bool c.segs[a].meet) := by rw [← hW2]; simp [go_sem]
          have z0 := cellKeep hBW z0 hl1
          have z1 := cellKeep hBW z1 hl1
          have z2 := cellKeep hBW z2 hl1
          have z3 := cellKeep hBW z3 hl1
          have z4 := cellKeep hBW z4 hl1
          have z5 := cellKeep hBW z5 hl1
          have t0 := cellKeep hBW t0 hbp
          have f0 := cellKeep hBW f0 hz4
          have y1 := cellKeep hBW y1 hl0
          have HU := hide (fun g hg => (World.ownsRow.lt HO g hg).2)
          have HO2 := hide (HO.below hBW)
          have HP := hide (Rd.below HP.out hBW)
          have hb0 := bnext hb0 hBW (Nat.le_refl _)
          have hl1 : w.heap.size + 1 < W2.heap.size := by omega
          have hbp : bp < W2.heap.size := by omega
          have hz4 : b4 < W2.heap.size := by omega
          have hl0 : w.heap.size < W2.heap.size := by omega
          have hl3 : w.heap.size + 1 + 1 ≤ W2.heap.size := by omega
          clear hW2
          have hmx : (pasList c ship ⟨x0, x1, x2, x3, x4, x5⟩ pts r st k).length + [(⟨ship, (a : Int), tb, sk, sk + sm⟩ : PassageD)].length ≤ 1048577 := by rw [HLN.out]; simp; omega
          have keepS : ∀ w', Below W2.heap.size W2 w' → w'.cell? ⟨w.heap.size + 1, 0, none⟩ = some (.string x0) ∧ w'.cell? ⟨w.heap.size + 1, 1, none⟩ = some (.int .i64 x1) ∧ w'.cell? ⟨w.heap.size + 1, 2, none⟩ = some (.int .i64 x2) ∧ w'.cell? ⟨w.heap.size + 1, 3, none⟩ = some (.int .i64 x3) ∧ w'.cell? ⟨w.heap.size + 1, 4, none⟩ = some (.int .i64 x4) ∧ w'.cell? ⟨w.heap.size + 1, 5, none⟩ = some (.bool x5) ∧ w'.cell? ⟨wo.heap.size, 0, none⟩ = some (.int .i64 c.segs[a].a) ∧ w'.cell? ⟨wo.heap.size, 1, none⟩ = some (.int .i64 c.segs[a].b) ∧ w'.cell? ⟨wo.heap.size, 2, none⟩ = some (.int .i64 c.segs[a].depth) ∧ w'.cell? ⟨wo.heap.size, 3, none⟩ = some (.int .i64 c.segs[a].minutes) ∧ w'.cell? ⟨wo.heap.size, 4, none⟩ = some (.bool c.segs[a].meet) ∧ w'.cell? ⟨bp, op + k, none⟩ = some (.int .i64 pk) ∧ w'.cell? ⟨b4, o4 + k, none⟩ = some (.int .i64 sk) ∧ Below (w.heap.size + 1 + 1) W2 w' := fun w' hB => ⟨cellKeep hB z0 hl1, cellKeep hB z1 hl1, cellKeep hB z2 hl1, cellKeep hB z3 hl1, cellKeep hB z4 hl1, cellKeep hB z5 hl1, cellKeep hB g0 hl4, cellKeep hB g1 hl4, cellKeep hB g2 hl4, cellKeep hB g3 hl4, cellKeep hB g4 hl4, cellKeep hB t0 hbp, cellKeep hB f0 hz4, hB.mono hl3⟩
          have keep10 : ∀ (w8 w9 : World) (u : Value), Below W2.heap.size W2 w8 → Below (w.heap.size + 1 + 1) W2 w9 → w8.grownBy w9 u.ownBlock → (∀ g, (Value.slice (some ⟨bp, op, none⟩) pts.length cp).ownBlock = some g → u.ownBlock = some g → False) → (∀ g, u.ownBlock = some g → g < wo.heap.size) → w9.cell? ⟨w.heap.size + 1, 0, none⟩ = some (.string x0) ∧ w9.cell? ⟨w.heap.size + 1, 1, none⟩ = some (.int .i64 x1) ∧ w9.cell? ⟨w.heap.size + 1, 2, none⟩ = some (.int .i64 x2) ∧ w9.cell? ⟨w.heap.size + 1, 3, none⟩ = some (.int .i64 x3) ∧ w9.cell? ⟨w.heap.size + 1, 4, none⟩ = some (.int .i64 x4) ∧ w9.cell? ⟨w.heap.size + 1, 5, none⟩ = some (.bool x5) ∧ w9.cell? ⟨wo.heap.size, 0, none⟩ = some (.int .i64 c.segs[a].a) ∧ w9.cell? ⟨wo.heap.size, 1, none⟩ = some (.int .i64 c.segs[a].b) ∧ w9.cell? ⟨wo.heap.size, 2, none⟩ = some (.int .i64 c.segs[a].depth) ∧ w9.cell? ⟨wo.heap.size, 3, none⟩ = some (.int .i64 c.segs[a].minutes) ∧ w9.cell? ⟨wo.heap.size, 4, none⟩ = some (.bool c.segs[a].meet) ∧ w9.cell? ⟨bp, op + k, none⟩ = some (.int .i64 pk) ∧ w9.cell? ⟨b4, o4 + k, none⟩ = some (.int .i64 sk) ∧ Below (w.heap.size + 1 + 1) W2 w9 := fun w8 w9 u hB1 hB2 hg hj hu => ⟨cellKeep hB2 z0 (by omega), cellKeep hB2 z1 (by omega), cellKeep hB2 z2 (by omega), cellKeep hB2 z3 (by omega), cellKeep hB2 z4 (by omega), cellKeep hB2 z5 (by omega), (World.cell?_of_block (hg.block wo.heap.size (Nat.lt_of_lt_of_le hl4 hB1.size) (fun e => Nat.lt_irrefl _ (hu _ e.symm)))).trans (cellKeep hB1 g0 hl4), (World.cell?_of_block (hg.block wo.heap.size (Nat.lt_of_lt_of_le hl4 hB1.size) (fun e => Nat.lt_irrefl _ (hu _ e.symm)))).trans (cellKeep hB1 g1 hl4), (World.cell?_of_block (hg.block wo.heap.size (Nat.lt_of_lt_of_le hl4 hB1.size) (fun e => Nat.lt_irrefl _ (hu _ e.symm)))).trans (cellKeep hB1 g2 hl4), (World.cell?_of_block (hg.block wo.heap.size (Nat.lt_of_lt_of_le hl4 hB1.size) (fun e => Nat.lt_irrefl _ (hu _ e.symm)))).trans (cellKeep hB1 g3 hl4), (World.cell?_of_block (hg.block wo.heap.size (Nat.lt_of_lt_of_le hl4 hB1.size) (fun e => Nat.lt_irrefl _ (hu _ e.symm)))).trans (cellKeep hB1 g4 hl4), (World.cell?_of_block (hg.block bp (Nat.lt_of_lt_of_le hbp hB1.size) (fun e => hj bp rfl e.symm))).trans (cellKeep hB1 t0 hbp), cellKeep hB2 f0 (by omega), hB2⟩
          go_region_held3 (fun w' => w'.cell? ⟨w.heap.size + 1, 0, none⟩ = some (.string x0) ∧ w'.cell? ⟨w.heap.size + 1, 1, none⟩ = some (.int .i64 x1) ∧ w'.cell? ⟨w.heap.size + 1, 2, none⟩ = some (.int .i64 x2) ∧ w'.cell? ⟨w.heap.size + 1, 3, none⟩ = some (.int .i64 x3) ∧ w'.cell? ⟨w.heap.size + 1, 4, none⟩ = some (.int .i64 x4) ∧ w'.cell? ⟨w.heap.size + 1, 5, none⟩ = some (.bool x5) ∧ w'.cell? ⟨wo.heap.size, 0, none⟩ = some (.int .i64 c.segs[a].a) ∧ w'.cell? ⟨wo.heap.size, 1, none⟩ = some (.int .i64 c.segs[a].b) ∧ w'.cell? ⟨wo.heap.size, 2, none⟩ = some (.int .i64 c.segs[a].depth) ∧ w'.cell? ⟨wo.heap.size, 3, none⟩ = some (.int .i64 c.segs[a].minutes) ∧ w'.cell? ⟨wo.heap.size, 4, none⟩ = some (.bool c.segs[a].meet) ∧ w'.cell? ⟨bp, op + k, none⟩ = some (.int .i64 pk) ∧ w'.cell? ⟨b4, o4 + k, none⟩ = some (.int .i64 sk) ∧ Below (w.heap.size + 1 + 1) W2 w')
            (first
              | exact keepS _ (Below.drew (Below.refl _ _))
              | exact hS10
              | exact keepS _ hB7
              | exact keepS _ (hB7.alloc hB7.size _))
            (first
              | (go_at_call 73; with_reducible refine (calls_int (minutes_any c.segs[a] ⟨x0, x1, x2, x3, x4, x5⟩ _ hq1 hq2) HSM.out).mono ?_; rintro e w7 ⟨rfl, hb7⟩; have hB7 := (show Below W2.heap.size W2 _ from Below.drew (Below.refl _ _)).trans (hb7.mono (Nat.le_refl _)))
              | (have hB8 := hB7.alloc hB7.size (.cells #[.int .i64 ship, .int .i64 a, .bool tb, .int .i64 sk, .int .i64 (sk + sm)] 49); have hA := HO2.out.below hB8; have hR := rdP w7 49 ship (a : Int) tb sk (sk + sm); have hl9 := Nat.le_trans hl3 hB8.size; refine pass_append (.tmp 58) (.tmp 81) (by rfl) (by rfl) _ u14 (.slice (some ⟨w7.heap.size, 0, none⟩) 1 1) _ _ (by rfl) (by rfl) hA hR hmx hl9 ?_; intro v10 w10 hown10 hgrow10 hblk10; have hB10 := (hB8.mono hl3).trans (Own.belowGrown (B := w.heap.size + 1 + 1) hA hgrow10 (Nat.le_refl _) hl9); have hS10 := keep10 _ w10 u14 hB8 hB10 hgrow10 HJ.out HU.out))
          all_goals
            have hRP := rd_grownP (Rd.below HP.out hB8) hgrow10 HJ.out
            have hDJ : ∀ g, (Value.slice (some ⟨bp, op, none⟩) pts.length cp).ownBlock = some g → v10.ownBlock = some g → False := by
              intro g h1 h2
              rcases hblk10 with e | e
              · exact HJ.out g h1 (e.symm.trans h2)
              · have h3 := Option.some.inj (e.symm.trans h2)
                have h4 : bp = g := by simpa [Value.ownBlock] using h1
                have h5 := hB8.size
                omega
            have hsz10 := hB10.size
            clear hS10 keep10 keepS
            go_wp2
            go_roundw
            case rel => exact ⟨k + 1, by omega, by go_num, by rw [HSN.out, HRW.out]; exact hown10, hide (allUpTo_succ HN.out HSI.out), hide hRP, hide hDJ, cellKeep hB10 y1 (by omega), cellKeep hB10 z0 (by omega), cellKeep hB10 z1 (by omega), cellKeep hB10 z2 (by omega), cellKeep hB10 z3 (by omega), cellKeep hB10 z4 (by omega), cellKeep hB10 z5 (by omega), by omega, hb0.trans (hB10.mono (by omega))⟩
            case measure => simp [intOf]; omega
        · have HT := hide (show passagesOf c ship ⟨x0, x1, x2, x3, x4, x5⟩ p r st = [] by rw [HV.out, if_neg (by rw [allUpTo_bad hlt (by rw [HSX.out]; exact q)]; simp)])
          go_wp2_with (go_at_call 86; refine (isMinute_any _ _).mono ?_; rintro e w1 ⟨rfl, hw⟩; obtain rfl := hw.symm)
          go_ret
          exact ⟨_, rfl, by rw [HT.out]; exact Own.nil_, hb0⟩
      · obtain rfl : k = r.length := by omega
        have HT := hide (show passagesOf c ship ⟨x0, x1, x2, x3, x4, x5⟩ p r st = pasList c ship ⟨x0, x1, x2, x3, x4, x5⟩ pts r st r.length by rw [HV.out, if_pos HN.out])
        go_wp2
        go_ret
        exact ⟨_, rfl, by rw [HT.out]; exact HO.mono (by omega), hb0⟩
  all_goals
    have HV := hide (show passagesOf c ship ⟨x0, x1, x2, x3, x4, x5⟩ p r st = [] by unfold passagesOf pasOk; simp [*])
    (try have hne : ((r.length : Int) != (st.length : Int)) = true := by (simp at g3 ⊢; omega))
    clear h2 h3 h4
    go_enter Try.func51, Try.ntmps51
    go_wp2_with (first
      | (go_at_call 97; refine (impl_RouteOk_any _ _ _ c p r _ ((HR.out.keep (B' := w.heap.size) (by repeat (first | exact Below.refl _ _ | assumption | refine Below.setCell ?_ (by first | omega | (simp <;> omega)) _ | refine Below.alloc ?_ (by first | omega | (simp <;> omega)) _ | refine below_drewN ?_ _ | refine Below.drew ?_ | refine Below.trans ?_ (Below.mono (by assumption) (by first | omega | (simp <;> omega))))) (Nat.le_refl _)).mono (by first | omega | (simp <;> omega))) ((HR3.out.keep (B' := w.heap.size) (by repeat (first | exact Below.refl _ _ | assumption | refine Below.setCell ?_ (by first | omega | (simp <;> omega)) _ | refine Below.alloc ?_ (by first | omega | (simp <;> omega)) _ | refine below_drewN ?_ _ | refine Below.drew ?_ | refine Below.trans ?_ (Below.mono (by assumption) (by first | omega | (simp <;> omega))))) (Nat.le_refl _)).mono (by first | omega | (simp <;> omega))) hn hok).mono ?_; rintro e wb ⟨rfl, hb'⟩; (first | have hb := bnext hb hb' | have hb := bnextA hb hb' | have hb := hb'); clear hb'; obtain ⟨hc, hf⟩ := bcell hb; have hz := hb.size; (try simp at hz); (try have hzz0 : w.heap.size < wb.heap.size := (by omega)); (try have hzz1 : w.heap.size + 1 < wb.heap.size := (by omega)))
      | (go_at_call 71; refine (impl_ShipOk_any _ _ _ _ _ _ _ hs).mono ?_; rintro e wa ⟨rfl, hb'⟩; (first | have hb := bnext hb hb' | have hb := bnextA hb hb' | have hb := hb'); clear hb'; obtain ⟨hc, hf⟩ := bcell hb; have hz := hb.size; (try simp at hz); (try have hzz0 : w.heap.size < wa.heap.size := (by omega)); (try have hzz1 : w.heap.size + 1 < wa.heap.size := (by omega)))
      | (go_at_call 98; refine (impl_RoutePoints_any _ _ _ c p r _ ((HR.out.keep (B' := w.heap.size) (by repeat (first | exact Below.refl _ _ | assumption | refine Below.setCell ?_ (by first | omega | (simp <;> omega)) _ | refine Below.alloc ?_ (by first | omega | (simp <;> omega)) _ | refine below_drewN ?_ _ | refine Below.drew ?_ | refine Below.trans ?_ (Below.mono (by assumption) (by first | omega | (simp <;> omega))))) (Nat.le_refl _)).mono (by first | omega | (simp <;> omega))) ((HR3.out.keep (B' := w.heap.size) (by repeat (first | exact Below.refl _ _ | assumption | refine Below.setCell ?_ (by first | omega | (simp <;> omega)) _ | refine Below.alloc ?_ (by first | omega | (simp <;> omega)) _ | refine below_drewN ?_ _ | refine Below.drew ?_ | refine Below.trans ?_ (Below.mono (by assumption) (by first | omega | (simp <;> omega))))) (Nat.le_refl _)).mono (by first | omega | (simp <;> omega))) hn hok).mono ?_; rintro e w1 ⟨pv, rfl, hown, hb'⟩; have HBP := hide hb'; have HOP := hide hown; clear hown; (first | have hb := bnext hb hb' | have hb := bnextA hb hb' | have hb := hb'); clear hb'; obtain ⟨hc, hf⟩ := bcell hb; have hz := hb.size; (try simp at hz)))
    go_ret
    exact ⟨_, rfl, by rw [HV.out]; exact Own.nil_, (by repeat (first | exact Below.refl _ _ | assumption | refine Below.setCell ?_ (by first | omega | (simp <;> omega)) _ | refine Below.alloc ?_ (by first | omega | (simp <;> omega)) _ | refine below_drewN ?_ _ | refine Below.drew ?_ | refine Below.trans ?_ (Below.mono (by assumption) (by first | omega | (simp <;> omega)))))⟩
end Go.Proofs.Ytefidlecandnlaa
