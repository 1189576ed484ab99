/- Stays at berths: whether a list of them is valid. No condition. -/
import Derived.Test.YtjfppjhlkeopnaaKeep
import Derived.Test.YtjfppjhlkeopnaaBerths
import Derived.Test.YtjfppjhlkeopnaaSeq
import Derived.BigGuardPart
namespace Go.Proofs.Ytjfppjhlkeopnaa
open Go.RowKit
set_option linter.unusedVariables false
theorem calls_bool {P : Program} {f : FuncId} {args : Array Value} {w : World} {R : World → Prop} {b c : Bool} (h : Calls P f args w fun e w' => e = .returned (.bool b) ∧ R w') (hb : b = c) : Calls P f args w fun e w' => e = .returned (.bool c) ∧ R w' := hb ▸ h
def stayClash (s o : StayD) : Bool := (decide (o.ship = s.ship) || decide (o.berth = s.berth)) && decide (max o.start s.start < min o.fin s.fin)
def noClash (xs : List StayD) (s : StayD) (j : Nat) : Bool := !stayClash s (xs.getD j default)
def stayFit (bs : List BerthD) (fl : List ShipD) (s : StayD) : Bool := inB s.ship 0 ((fl.length : Int) - 1) && inB s.berth 0 ((bs.length : Int) - 1) && lasts s && fitsBerth (bs.getD s.berth.toNat default) (fl.getD s.ship.toNat default)
def stayRow (bs : List BerthD) (fl : List ShipD) (xs : List StayD) (i : Nat) : Bool := stayFit bs fl (xs.getD i default) && allUpTo (noClash xs (xs.getD i default)) i
def staysOk (bs : List BerthD) (fl : List ShipD) (xs : List StayD) : Bool := berthsOk bs && fleetOk fl && decide (xs.length ≤ 12) && allUpTo (stayRow bs fl xs) xs.length
theorem idx_nat {n : Int} {m : Nat} (h : inB n 0 ((m : Int) - 1) = true) : ∃ a : Nat, n = a ∧ a < m := by simp [inB] at h; exact ⟨n.toNat, by omega, by omega⟩
set_option maxRecDepth 100000 in
set_option maxHeartbeats 16000000 in
theorem spec_StaysOk_any (v1 v2 v3 : Value) (bs : List BerthD) (fl : List ShipD) (xs : List StayD) (w : World) (h1 : RdBerth w v1 bs) (h2 : RdShip w v2 fl) (h3 : RdStay w v3 xs)
    (hokb : ∀ x ∈ bs, x.name.size ≤ maxLen) (hokf : ∀ x ∈ fl, x.ok) :
    Calls Try.prog 37 #[v1, v2, v3] w fun e w' => e = .returned (.bool (staysOk bs fl xs)) ∧ Below w.heap.size w w' := by
  have HR1 := hide h1; have HR2 := hide h2
  obtain ⟨A1, c1, rfl, hc1, hm1, h1⟩ := h1
  obtain ⟨A2, c2, rfl, hc2, hm2, h2⟩ := h2
  obtain ⟨A3, c3, rfl, hc3, hm3, h3⟩ := h3
  unfold maxLen at hm1 hm2 hm3
  rcases ch3 (berthsOk bs) (fleetOk fl) (decide ((xs.length : Int) ≤ 12)) with ⟨g1, g2, g3⟩ | g1 | ⟨g1, g2⟩ | ⟨g1, g2, g3⟩
  · have G1 := hide g1; have G2 := hide g2
    have l12 : (xs.length : Int) ≤ 12 := by simpa using g3
    have HL := hide l12
    clear g3
    go_enter Try.func37, Try.ntmps37
    go_wp2_with (first
      | (go_at_call 25; refine (spec_BerthsOk_any _ bs _ ((HR1.out.keep (B' := w.heap.size) (by repeat (first | exact Below.refl _ _ | assumption | refine Below.setCell ?_ (by first | omega | (simp <;> omega)) _ | refine Below.alloc ?_ (by first | omega | (simp <;> omega)) _ | refine below_drewN ?_ _ | refine Below.drew ?_ | refine Below.trans ?_ (Below.mono (by assumption) (by first | omega | (simp <;> omega))))) (Nat.le_refl _)).mono (by first | omega | (simp <;> omega))) hokb).mono ?_; rintro e w1 ⟨rfl, hb'⟩; (first | have hb := bnext hb hb' | have hb := bnextA hb hb' | have hb := hb'); clear hb'; obtain ⟨hc, hf⟩ := bcell hb; have hz := hb.size; (try simp at hz))
      | (go_at_call 71; refine (spec_FleetOk_any _ fl _ ((HR2.out.keep (B' := w.heap.size) (by repeat (first | exact Below.refl _ _ | assumption | refine Below.setCell ?_ (by first | omega | (simp <;> omega)) _ | refine Below.alloc ?_ (by first | omega | (simp <;> omega)) _ | refine below_drewN ?_ _ | refine Below.drew ?_ | refine Below.trans ?_ (Below.mono (by assumption) (by first | omega | (simp <;> omega))))) (Nat.le_refl _)).mono (by first | omega | (simp <;> omega))) hokf).mono ?_; rintro e w1 ⟨rfl, hb'⟩; (first | have hb := bnext hb hb' | have hb := bnextA hb hb' | have hb := hb'); clear hb'; obtain ⟨hc, hf⟩ := bcell hb; have hz := hb.size; (try simp at hz)))
    clear g1 g2
    go_loopw [26] (fun i wr => ∃ k : Nat, k ≤ xs.length ∧ i = .int .i64 k ∧ Hid (allUpTo (stayRow bs fl xs) k = true) ∧ Below w.heap.size w wr) (fun i _ => xs.length - (intOf i).toNat)
    case atStart => exact ⟨0, Nat.zero_le _, rfl, hide rfl, (by repeat (first | exact Below.refl _ _ | assumption | refine Below.setCell ?_ (by first | omega | (simp <;> omega)) _ | refine Below.alloc ?_ (by first | omega | (simp <;> omega)) _ | refine below_drewN ?_ _ | refine Below.drew ?_ | refine Below.trans ?_ (Below.mono (by assumption) (by first | omega | (simp <;> omega)))))⟩
    case round =>
      clear hc hf hz hb
      obtain ⟨k, hk, rfl, HN, hb0⟩ := hrel
      obtain ⟨wo, rfl⟩ : ∃ wo : World, wo = wr := ⟨_, rfl⟩
      have hbs := hb0.size
      by_cases hlt : k < xs.length
      · obtain ⟨b3, o3, rfl, hb3, hcell3⟩ := h3 (by omega)
        have e0 : wo.cell? ⟨b3, o3 + k * 4, none⟩ = some (.int .i64 xs[k].ship) := by
          rw [hb0.cell (p := ⟨b3, _, none⟩) hb3]; have := hcell3 k xs[k] (List.getElem?_eq_getElem hlt) 0 _ rfl; simpa using this
        have e1 : wo.cell? ⟨b3, o3 + k * 4 + 1, none⟩ = some (.int .i64 xs[k].berth) := by
          rw [hb0.cell (p := ⟨b3, _, none⟩) hb3]; have := hcell3 k xs[k] (List.getElem?_eq_getElem hlt) 1 _ rfl; simpa using this
        have e2 : wo.cell? ⟨b3, o3 + k * 4 + 2, none⟩ = some (.int .i64 xs[k].start) := by
          rw [hb0.cell (p := ⟨b3, _, none⟩) hb3]; have := hcell3 k xs[k] (List.getElem?_eq_getElem hlt) 2 _ rfl; simpa using this
        have e3 : wo.cell? ⟨b3, o3 + k * 4 + 3, none⟩ = some (.int .i64 xs[k].fin) := by
          rw [hb0.cell (p := ⟨b3, _, none⟩) hb3]; have := hcell3 k xs[k] (List.getElem?_eq_getElem hlt) 3 _ rfl; simpa using this
        have HC := hide hcell3
        have HX := hide (getD_at hlt)
        clear hcell3 h3
        have HRW := hide (show stayRow bs fl xs k = (stayFit bs fl xs[k] && allUpTo (noClash xs xs[k]) k) by unfold stayRow; rw [HX.out])
        have HWF := hide (show IntKind.i64.wrap ((fl.length : Int) - 1) = (fl.length : Int) - 1 from IntWalk.i64_in _ (by omega))
        have HWB := hide (show IntKind.i64.wrap ((bs.length : Int) - 1) = (bs.length : Int) - 1 from IntWalk.i64_in _ (by omega))
        go_wp2_with fail
        generalize hW0 : (wo.alloc (.cells #[.int .i64 xs[k].ship, .int .i64 xs[k].berth, .int .i64 xs[k].start, .int .i64 xs[k].fin] 97)) = W0
        have hB0 : Below wo.heap.size wo W0 := by rw [← hW0]; exact (by repeat (first | exact Below.refl _ _ | assumption | refine Below.setCell ?_ (by first | omega | (simp <;> omega)) _ | refine Below.alloc ?_ (by first | omega | (simp <;> omega)) _ | refine below_drewN ?_ _ | refine Below.drew ?_ | refine Below.trans ?_ (Below.mono (by assumption) (by first | omega | (simp <;> omega)))))
        have hl0 : wo.heap.size < W0.heap.size := by rw [← hW0]; simp
        have hx0 : W0.cell? ⟨wo.heap.size, 0, none⟩ = some (.int .i64 xs[k].ship) := by rw [← hW0]; simp [go_sem]
        have hx1 : W0.cell? ⟨wo.heap.size, 1, none⟩ = some (.int .i64 xs[k].berth) := by rw [← hW0]; simp [go_sem]
        have hx2 : W0.cell? ⟨wo.heap.size, 2, none⟩ = some (.int .i64 xs[k].start) := by rw [← hW0]; simp [go_sem]
        have hx3 : W0.cell? ⟨wo.heap.size, 3, none⟩ = some (.int .i64 xs[k].fin) := by rw [← hW0]; simp [go_sem]
        have hbw := bnext hb0 hB0 (Nat.le_refl _)
        have hbws := hbw.size
        clear hW0 e0 e1 e2 e3
        rcases ch4 (inB xs[k].ship 0 ((fl.length : Int) - 1)) (inB xs[k].berth 0 ((bs.length : Int) - 1)) (lasts xs[k]) (fitsBerth (bs.getD xs[k].berth.toNat default) (fl.getD xs[k].ship.toNat default)) with ⟨g1, g2, g3, g4⟩ | g1 | ⟨g1, g2⟩ | ⟨g1, g2, g3⟩ | ⟨g1, g2, g3, g4⟩
        · have HA := hide (show inB xs[k].ship 0 (IntKind.i64.wrap ((fl.length : Int) - 1)) = true by rw [HWF.out]; exact g1)
          have HB := hide (show inB xs[k].berth 0 (IntKind.i64.wrap ((bs.length : Int) - 1)) = true by rw [HWB.out]; exact g2)
          obtain ⟨a, ha, ha2⟩ := idx_nat g1
          obtain ⟨b, hbq, hbq2⟩ := idx_nat g2
          obtain ⟨b1, o1, rfl, hb1, hcell1⟩ := h1 (by omega)
          obtain ⟨b2, o2, rfl, hb2, hcell2⟩ := h2 (by omega)
          have f0 : W0.cell? ⟨b1, o1 + b * 3, none⟩ = some (.string bs[b].name) := by
            rw [hbw.cell (p := ⟨b1, _, none⟩) hb1]; have := hcell1 b bs[b] (List.getElem?_eq_getElem hbq2) 0 _ rfl; simpa using this
          have f1 : W0.cell? ⟨b1, o1 + b * 3 + 1, none⟩ = some (.int .i64 bs[b].length) := by
            rw [hbw.cell (p := ⟨b1, _, none⟩) hb1]; have := hcell1 b bs[b] (List.getElem?_eq_getElem hbq2) 1 _ rfl; simpa using this
          have f2 : W0.cell? ⟨b1, o1 + b * 3 + 2, none⟩ = some (.int .i64 bs[b].depth) := by
            rw [hbw.cell (p := ⟨b1, _, none⟩) hb1]; have := hcell1 b bs[b] (List.getElem?_eq_getElem hbq2) 2 _ rfl; simpa using this
          have y0 : W0.cell? ⟨b2, o2 + a * 6, none⟩ = some (.string fl[a].name) := by
            rw [hbw.cell (p := ⟨b2, _, none⟩) hb2]; have := hcell2 a fl[a] (List.getElem?_eq_getElem ha2) 0 _ rfl; simpa using this
          have y1 : W0.cell? ⟨b2, o2 + a * 6 + 1, none⟩ = some (.int .i64 fl[a].length) := by
            rw [hbw.cell (p := ⟨b2, _, none⟩) hb2]; have := hcell2 a fl[a] (List.getElem?_eq_getElem ha2) 1 _ rfl; simpa using this
          have y2 : W0.cell? ⟨b2, o2 + a * 6 + 2, none⟩ = some (.int .i64 fl[a].draught) := by
            rw [hbw.cell (p := ⟨b2, _, none⟩) hb2]; have := hcell2 a fl[a] (List.getElem?_eq_getElem ha2) 2 _ rfl; simpa using this
          have y3 : W0.cell? ⟨b2, o2 + a * 6 + 3, none⟩ = some (.int .i64 fl[a].line) := by
            rw [hbw.cell (p := ⟨b2, _, none⟩) hb2]; have := hcell2 a fl[a] (List.getElem?_eq_getElem ha2) 3 _ rfl; simpa using this
          have y4 : W0.cell? ⟨b2, o2 + a * 6 + 4, none⟩ = some (.int .i64 fl[a].tugs) := by
            rw [hbw.cell (p := ⟨b2, _, none⟩) hb2]; have := hcell2 a fl[a] (List.getElem?_eq_getElem ha2) 4 _ rfl; simpa using this
          have y5 : W0.cell? ⟨b2, o2 + a * 6 + 5, none⟩ = some (.bool fl[a].slow) := by
            rw [hbw.cell (p := ⟨b2, _, none⟩) hb2]; have := hcell2 a fl[a] (List.getElem?_eq_getElem ha2) 5 _ rfl; simpa using this
          have hz1 : b1 < W0.heap.size := by omega
          have hz2 : b2 < W0.heap.size := by omega
          have ha3 : (a : Int) < fl.length := by omega
          have hb3q : (b : Int) < bs.length := by omega
          have hsz := ShipD.ok_size (hokf fl[a] (List.getElem_mem ha2))
          have HFit := hide (show stayFit bs fl xs[k] = fitsBerth bs[b] fl[a] by unfold stayFit; rw [g1, g2, g3, ha, hbq, Int.toNat_natCast, Int.toNat_natCast, getD_at ha2, getD_at hbq2]; rfl)
          rw [ha] at hx0; rw [hbq] at hx1
          have HA := hide (show inB (a : Int) 0 (IntKind.i64.wrap ((fl.length : Int) - 1)) = true by rw [← ha]; exact HA.out)
          have HB := hide (show inB (b : Int) 0 (IntKind.i64.wrap ((bs.length : Int) - 1)) = true by rw [← hbq]; exact HB.out)
          have HSa := hide ha; have HSb := hide hbq
          have HC2 := hide g3
          clear hcell1 hcell2 h1 h2 ha hbq
          have HD := hide (show fitsBerth bs[b] fl[a] = true by rw [HSa.out, HSb.out, Int.toNat_natCast, Int.toNat_natCast, getD_at ha2, getD_at hbq2] at g4; exact g4)
          clear g1 g2 g3 g4
          have C0 := fun w : World => calls_bool (l01In_any (a : Int) 0 _ w) HA.out
          have C1 := fun w : World => calls_bool (l01In_any (b : Int) 0 _ w) HB.out
          have C2 := fun w : World => calls_bool (spec_l12Time_any (a : Int) (b : Int) xs[k].start xs[k].fin w) (show lasts ⟨(a : Int), (b : Int), xs[k].start, xs[k].fin⟩ = true by have h := HC2.out; unfold lasts at h ⊢; exact h)
          have C3 := fun w : World => calls_bool (spec_FitsBerth_any bs[b] fl[a] w hsz) HD.out
          refine wp_region_below (Below.refl W0.heap.size _) (by kernel_rfl) (by kernel_rfl) ?_
          repeat (first
            | go_big_quiet_skip
            | (go_big_quiet_want
               first
                | (refine quiet_value ?_; apply Exists.intro
                   refine ⟨fun wq hq => ?_, ?_⟩
                   · (obtain ⟨hc, hf⟩ := bcell hq; go_simp; first | done | rfl)
                   go_big_quiet_on
                   simp only [Act.put, List.setIfInBounds_toArray, List.set_cons_zero, List.set_cons_succ])
                | (refine quiet_call ?_; apply Exists.intro; apply Exists.intro; apply Exists.intro
                   refine ⟨fun wq hq => ?_, fun wq hq => ?_, ?_⟩
                   · (obtain ⟨hc, hf⟩ := bcell hq; go_simp; exact ⟨rfl, rfl⟩)
                   · (first | with_reducible exact (C0 _).mono fun e w'' ⟨he, hw⟩ => ⟨he, hw ▸ hq⟩ | with_reducible exact (C0 _).mono fun e w'' ⟨he, hb'⟩ => ⟨he, bnext hq hb'⟩ | with_reducible exact (C1 _).mono fun e w'' ⟨he, hw⟩ => ⟨he, hw ▸ hq⟩ | with_reducible exact (C1 _).mono fun e w'' ⟨he, hb'⟩ => ⟨he, bnext hq hb'⟩ | with_reducible exact (C2 _).mono fun e w'' ⟨he, hw⟩ => ⟨he, hw ▸ hq⟩ | with_reducible exact (C2 _).mono fun e w'' ⟨he, hb'⟩ => ⟨he, bnext hq hb'⟩ | with_reducible exact (C3 _).mono fun e w'' ⟨he, hw⟩ => ⟨he, hw ▸ hq⟩ | with_reducible exact (C3 _).mono fun e w'' ⟨he, hb'⟩ => ⟨he, bnext hq hb'⟩ |  exact (C0 _).mono fun e w'' ⟨he, hb'⟩ => ⟨he, bnext hq hb'⟩ |  exact (C0 _).mono fun e w'' ⟨he, hw⟩ => ⟨he, hw ▸ hq⟩ |  exact (C1 _).mono fun e w'' ⟨he, hb'⟩ => ⟨he, bnext hq hb'⟩ |  exact (C1 _).mono fun e w'' ⟨he, hw⟩ => ⟨he, hw ▸ hq⟩ |  exact (C2 _).mono fun e w'' ⟨he, hb'⟩ => ⟨he, bnext hq hb'⟩ |  exact (C2 _).mono fun e w'' ⟨he, hw⟩ => ⟨he, hw ▸ hq⟩ |  exact (C3 _).mono fun e w'' ⟨he, hb'⟩ => ⟨he, bnext hq hb'⟩ |  exact (C3 _).mono fun e w'' ⟨he, hw⟩ => ⟨he, hw ▸ hq⟩)
                   go_big_quiet_on
                   simp only [Act.put, List.setIfInBounds_toArray, List.set_cons_zero, List.set_cons_succ])
                | (go_big_quiet_op; go_big_quiet_on)
               ))
          refine wpQuiet_nil (fun wq hbq => ?_)
          clear C0 C1 C2 C3
          have hbk0 := bnext hbw hbq (Nat.le_refl _)
          have p0 := cellKeep hbq hx0 hl0; have p1 := cellKeep hbq hx1 hl0; have p2 := cellKeep hbq hx2 hl0; have p3 := cellKeep hbq hx3 hl0
          have hl1 : wo.heap.size < wq.heap.size := by have := hbq.size; omega
          clear hx0 hx1 hx2 hx3 f0 f1 f2 y0 y1 y2 y3 y4 y5
          rw [← HSa.out] at p0; rw [← HSb.out] at p1
          go_wp2
          go_loopw [70] (fun i wr => ∃ j : Nat, j ≤ k ∧ i = .int .i64 j ∧ Hid (allUpTo (noClash xs xs[k]) j = true) ∧ wr.cell? ⟨wo.heap.size, 0, none⟩ = some (.int .i64 xs[k].ship) ∧ wr.cell? ⟨wo.heap.size, 1, none⟩ = some (.int .i64 xs[k].berth) ∧ wr.cell? ⟨wo.heap.size, 2, none⟩ = some (.int .i64 xs[k].start) ∧ wr.cell? ⟨wo.heap.size, 3, none⟩ = some (.int .i64 xs[k].fin) ∧ wo.heap.size < wr.heap.size ∧ Below wq.heap.size wq wr) (fun i _ => k - (intOf i).toNat)
          case atStart => exact ⟨0, Nat.zero_le _, rfl, hide rfl, p0, p1, p2, p3, hl1, Below.refl _ _⟩
          case round =>
            obtain ⟨j, hj, rfl, HJ, z0, z1, z2, z3, hl2, hbj⟩ := hrel
            have hbk := bnext hbk0 hbj (Nat.le_refl _)
            have hbks := hbk.size
            by_cases hjk : j < k
            · have hjl : j < xs.length := by omega
              have hcell := HC.out
              have f0 : wr.cell? ⟨b3, o3 + j * 4, none⟩ = some (.int .i64 xs[j].ship) := by
                rw [hbk.cell (p := ⟨b3, _, none⟩) hb3]; have := hcell j xs[j] (List.getElem?_eq_getElem hjl) 0 _ rfl; simpa using this
              have f1 : wr.cell? ⟨b3, o3 + j * 4 + 1, none⟩ = some (.int .i64 xs[j].berth) := by
                rw [hbk.cell (p := ⟨b3, _, none⟩) hb3]; have := hcell j xs[j] (List.getElem?_eq_getElem hjl) 1 _ rfl; simpa using this
              have f2 : wr.cell? ⟨b3, o3 + j * 4 + 2, none⟩ = some (.int .i64 xs[j].start) := by
                rw [hbk.cell (p := ⟨b3, _, none⟩) hb3]; have := hcell j xs[j] (List.getElem?_eq_getElem hjl) 2 _ rfl; simpa using this
              have f3 : wr.cell? ⟨b3, o3 + j * 4 + 3, none⟩ = some (.int .i64 xs[j].fin) := by
                rw [hbk.cell (p := ⟨b3, _, none⟩) hb3]; have := hcell j xs[j] (List.getElem?_eq_getElem hjl) 3 _ rfl; simpa using this
              have hz3 : b3 < wr.heap.size := by omega
              have HXJ := hide (getD_at hjl)
              clear hcell p0 p1 p2 p3
              obtain ⟨o, ho⟩ : ∃ o, decide (max xs[j].start xs[k].start < min xs[j].fin xs[k].fin) = o := ⟨_, rfl⟩
              have HNC := hide (show noClash xs xs[k] j = !((decide (xs[j].ship = xs[k].ship) || decide (xs[j].berth = xs[k].berth)) && o) by unfold noClash stayClash; rw [HXJ.out, ho])
              have HO := hide ho; clear ho
              rcases ch1 (noClash xs xs[k] j) with hn | hn
              · have HG := hide hn
                go_wp2
                all_goals first
                  | exact (show False by omega).elim
                  | (go_roundw
                     case rel => exact ⟨j + 1, by omega, by go_num, hide (allUpTo_succ HJ.out HG.out), cellKeep (B := wr.heap.size) (w1 := wr) (by repeat (first | exact Below.refl _ _ | assumption | refine Below.setCell ?_ (by first | omega | (simp <;> omega)) _ | refine Below.alloc ?_ (by first | omega | (simp <;> omega)) _ | refine below_drewN ?_ _ | refine Below.drew ?_ | refine Below.trans ?_ (Below.mono (by assumption) (by first | omega | (simp <;> omega))))) z0 hl2, cellKeep (B := wr.heap.size) (w1 := wr) (by repeat (first | exact Below.refl _ _ | assumption | refine Below.setCell ?_ (by first | omega | (simp <;> omega)) _ | refine Below.alloc ?_ (by first | omega | (simp <;> omega)) _ | refine below_drewN ?_ _ | refine Below.drew ?_ | refine Below.trans ?_ (Below.mono (by assumption) (by first | omega | (simp <;> omega))))) z1 hl2, cellKeep (B := wr.heap.size) (w1 := wr) (by repeat (first | exact Below.refl _ _ | assumption | refine Below.setCell ?_ (by first | omega | (simp <;> omega)) _ | refine Below.alloc ?_ (by first | omega | (simp <;> omega)) _ | refine below_drewN ?_ _ | refine Below.drew ?_ | refine Below.trans ?_ (Below.mono (by assumption) (by first | omega | (simp <;> omega))))) z2 hl2, cellKeep (B := wr.heap.size) (w1 := wr) (by repeat (first | exact Below.refl _ _ | assumption | refine Below.setCell ?_ (by first | omega | (simp <;> omega)) _ | refine Below.alloc ?_ (by first | omega | (simp <;> omega)) _ | refine below_drewN ?_ _ | refine Below.drew ?_ | refine Below.trans ?_ (Below.mono (by assumption) (by first | omega | (simp <;> omega))))) z3 hl2, by first | omega | (simp <;> omega), bnext hbj (w1 := wr) (by repeat (first | exact Below.refl _ _ | assumption | refine Below.setCell ?_ (by first | omega | (simp <;> omega)) _ | refine Below.alloc ?_ (by first | omega | (simp <;> omega)) _ | refine below_drewN ?_ _ | refine Below.drew ?_ | refine Below.trans ?_ (Below.mono (by assumption) (by first | omega | (simp <;> omega))))) (Nat.le_refl _)⟩
                     case measure => simp [intOf]; omega)
                  | (exfalso; have h1 := HG.out; rw [HNC.out] at h1; have h2 := HO.out; simp_all; done)
                  | (exfalso; have h1 := HG.out; rw [HNC.out] at h1; have h2 := HO.out; simp_all; omega)
              · have HF := hide (show stayRow bs fl xs k = false by rw [HRW.out, allUpTo_bad hjk hn]; simp)
                have HG := hide hn
                go_wp2
                all_goals first
                  | exact (show False by omega).elim
                  | (go_ret; exact ⟨by simp [staysOk, allUpTo_bad hlt HF.out], (by repeat (first | exact Below.refl _ _ | assumption | refine Below.setCell ?_ (by first | omega | (simp <;> omega)) _ | refine Below.alloc ?_ (by first | omega | (simp <;> omega)) _ | refine below_drewN ?_ _ | refine Below.drew ?_ | refine Below.trans ?_ (Below.mono (by assumption) (by first | omega | (simp <;> omega)))))⟩)
                  | (exfalso; have h1 := HG.out; rw [HNC.out] at h1; have h2 := HO.out; simp_all; done)
                  | (exfalso; have h1 := HG.out; rw [HNC.out] at h1; have h2 := HO.out; simp_all; omega)
            · obtain rfl : j = k := by omega
              have HT := hide (show stayRow bs fl xs j = true by rw [HRW.out, HFit.out, HD.out, HJ.out]; rfl)
              go_wp2
              go_roundw
              case rel => exact ⟨j + 1, by omega, by go_num, hide (allUpTo_succ HN.out HT.out), hbk⟩
              case measure => simp [intOf]; omega
        · have HA := hide (show inB xs[k].ship 0 (IntKind.i64.wrap ((fl.length : Int) - 1)) = false by rw [HWF.out]; exact g1)
          have HW := hide (allUpTo_bad hlt (show stayRow bs fl xs k = false by rw [HRW.out]; unfold stayFit; simp only [g1, Bool.and_false, Bool.false_and, Bool.true_and]))
          clear g1
          have C0 := fun w : World => calls_bool (l01In_any xs[k].ship 0 _ w) HA.out
          refine wp_region_below (Below.refl W0.heap.size _) (by kernel_rfl) (by kernel_rfl) ?_
          repeat (first
            | go_big_quiet_skip
            | (go_big_quiet_want
               first
                | (refine quiet_value ?_; apply Exists.intro
                   refine ⟨fun wq hq => ?_, ?_⟩
                   · (obtain ⟨hc, hf⟩ := bcell hq; go_simp; first | done | rfl)
                   go_big_quiet_on
                   simp only [Act.put, List.setIfInBounds_toArray, List.set_cons_zero, List.set_cons_succ])
                | (refine quiet_call ?_; apply Exists.intro; apply Exists.intro; apply Exists.intro
                   refine ⟨fun wq hq => ?_, fun wq hq => ?_, ?_⟩
                   · (obtain ⟨hc, hf⟩ := bcell hq; go_simp; exact ⟨rfl, rfl⟩)
                   · (first | with_reducible exact (C0 _).mono fun e w'' ⟨he, hw⟩ => ⟨he, hw ▸ hq⟩ | with_reducible exact (C0 _).mono fun e w'' ⟨he, hb'⟩ => ⟨he, bnext hq hb'⟩ |  exact (C0 _).mono fun e w'' ⟨he, hb'⟩ => ⟨he, bnext hq hb'⟩ |  exact (C0 _).mono fun e w'' ⟨he, hw⟩ => ⟨he, hw ▸ hq⟩)
                   go_big_quiet_on
                   simp only [Act.put, List.setIfInBounds_toArray, List.set_cons_zero, List.set_cons_succ])
                | (go_big_quiet_op; go_big_quiet_on)
               ))
          refine wpQuiet_nil (fun wq hbq => ?_)
          clear C0
          go_wp2
          go_ret
          exact ⟨by simp [staysOk, HW.out], (by repeat (first | exact Below.refl _ _ | assumption | refine Below.setCell ?_ (by first | omega | (simp <;> omega)) _ | refine Below.alloc ?_ (by first | omega | (simp <;> omega)) _ | refine below_drewN ?_ _ | refine Below.drew ?_ | refine Below.trans ?_ (Below.mono (by assumption) (by first | omega | (simp <;> omega)))))⟩
        · have HA := hide (show inB xs[k].ship 0 (IntKind.i64.wrap ((fl.length : Int) - 1)) = true by rw [HWF.out]; exact g1)
          have HB := hide (show inB xs[k].berth 0 (IntKind.i64.wrap ((bs.length : Int) - 1)) = false by rw [HWB.out]; exact g2)
          have HW := hide (allUpTo_bad hlt (show stayRow bs fl xs k = false by rw [HRW.out]; unfold stayFit; simp only [g2, Bool.and_false, Bool.false_and, Bool.true_and]))
          clear g1 g2
          have C0 := fun w : World => calls_bool (l01In_any xs[k].ship 0 _ w) HA.out
          have C1 := fun w : World => calls_bool (l01In_any xs[k].berth 0 _ w) HB.out
          refine wp_region_below (Below.refl W0.heap.size _) (by kernel_rfl) (by kernel_rfl) ?_
          repeat (first
            | go_big_quiet_skip
            | (go_big_quiet_want
               first
                | (refine quiet_value ?_; apply Exists.intro
                   refine ⟨fun wq hq => ?_, ?_⟩
                   · (obtain ⟨hc, hf⟩ := bcell hq; go_simp; first | done | rfl)
                   go_big_quiet_on
                   simp only [Act.put, List.setIfInBounds_toArray, List.set_cons_zero, List.set_cons_succ])
                | (refine quiet_call ?_; apply Exists.intro; apply Exists.intro; apply Exists.intro
                   refine ⟨fun wq hq => ?_, fun wq hq => ?_, ?_⟩
                   · (obtain ⟨hc, hf⟩ := bcell hq; go_simp; exact ⟨rfl, rfl⟩)
                   · (first | with_reducible exact (C0 _).mono fun e w'' ⟨he, hw⟩ => ⟨he, hw ▸ hq⟩ | with_reducible exact (C0 _).mono fun e w'' ⟨he, hb'⟩ => ⟨he, bnext hq hb'⟩ | with_reducible exact (C1 _).mono fun e w'' ⟨he, hw⟩ => ⟨he, hw ▸ hq⟩ | with_reducible exact (C1 _).mono fun e w'' ⟨he, hb'⟩ => ⟨he, bnext hq hb'⟩ |  exact (C0 _).mono fun e w'' ⟨he, hb'⟩ => ⟨he, bnext hq hb'⟩ |  exact (C0 _).mono fun e w'' ⟨he, hw⟩ => ⟨he, hw ▸ hq⟩ |  exact (C1 _).mono fun e w'' ⟨he, hb'⟩ => ⟨he, bnext hq hb'⟩ |  exact (C1 _).mono fun e w'' ⟨he, hw⟩ => ⟨he, hw ▸ hq⟩)
                   go_big_quiet_on
                   simp only [Act.put, List.setIfInBounds_toArray, List.set_cons_zero, List.set_cons_succ])
                | (go_big_quiet_op; go_big_quiet_on)
               ))
          refine wpQuiet_nil (fun wq hbq => ?_)
          clear C0 C1
          go_wp2
          go_ret
          exact ⟨by simp [staysOk, HW.out], (by repeat (first | exact Below.refl _ _ | assumption | refine Below.setCell ?_ (by first | omega | (simp <;> omega)) _ | refine Below.alloc ?_ (by first | omega | (simp <;> omega)) _ | refine below_drewN ?_ _ | refine Below.drew ?_ | refine Below.trans ?_ (Below.mono (by assumption) (by first | omega | (simp <;> omega)))))⟩
        · have HA := hide (show inB xs[k].ship 0 (IntKind.i64.wrap ((fl.length : Int) - 1)) = true by rw [HWF.out]; exact g1)
          have HB := hide (show inB xs[k].berth 0 (IntKind.i64.wrap ((bs.length : Int) - 1)) = true by rw [HWB.out]; exact g2)
          have HC2 := hide g3
          have HW := hide (allUpTo_bad hlt (show stayRow bs fl xs k = false by rw [HRW.out]; unfold stayFit; simp only [g3, Bool.and_false, Bool.false_and, Bool.true_and]))
          clear g1 g2 g3
          have C0 := fun w : World => calls_bool (l01In_any xs[k].ship 0 _ w) HA.out
          have C1 := fun w : World => calls_bool (l01In_any xs[k].berth 0 _ w) HB.out
          have C2 := fun w : World => calls_bool (spec_l12Time_any xs[k].ship xs[k].berth xs[k].start xs[k].fin w) (show lasts ⟨xs[k].ship, xs[k].berth, xs[k].start, xs[k].fin⟩ = false by have h := HC2.out; unfold lasts at h ⊢; exact h)
          refine wp_region_below (Below.refl W0.heap.size _) (by kernel_rfl) (by kernel_rfl) ?_
          repeat (first
            | go_big_quiet_skip
            | (go_big_quiet_want
               first
                | (refine quiet_value ?_; apply Exists.intro
                   refine ⟨fun wq hq => ?_, ?_⟩
                   · (obtain ⟨hc, hf⟩ := bcell hq; go_simp; first | done | rfl)
                   go_big_quiet_on
                   simp only [Act.put, List.setIfInBounds_toArray, List.set_cons_zero, List.set_cons_succ])
                | (refine quiet_call ?_; apply Exists.intro; apply Exists.intro; apply Exists.intro
                   refine ⟨fun wq hq => ?_, fun wq hq => ?_, ?_⟩
                   · (obtain ⟨hc, hf⟩ := bcell hq; go_simp; exact ⟨rfl, rfl⟩)
                   · (first | with_reducible exact (C0 _).mono fun e w'' ⟨he, hw⟩ => ⟨he, hw ▸ hq⟩ | with_reducible exact (C0 _).mono fun e w'' ⟨he, hb'⟩ => ⟨he, bnext hq hb'⟩ | with_reducible exact (C1 _).mono fun e w'' ⟨he, hw⟩ => ⟨he, hw ▸ hq⟩ | with_reducible exact (C1 _).mono fun e w'' ⟨he, hb'⟩ => ⟨he, bnext hq hb'⟩ | with_reducible exact (C2 _).mono fun e w'' ⟨he, hw⟩ => ⟨he, hw ▸ hq⟩ | with_reducible exact (C2 _).mono fun e w'' ⟨he, hb'⟩ => ⟨he, bnext hq hb'⟩ |  exact (C0 _).mono fun e w'' ⟨he, hb'⟩ => ⟨he, bnext hq hb'⟩ |  exact (C0 _).mono fun e w'' ⟨he, hw⟩ => ⟨he, hw ▸ hq⟩ |  exact (C1 _).mono fun e w'' ⟨he, hb'⟩ => ⟨he, bnext hq hb'⟩ |  exact (C1 _).mono fun e w'' ⟨he, hw⟩ => ⟨he, hw ▸ hq⟩ |  exact (C2 _).mono fun e w'' ⟨he, hb'⟩ => ⟨he, bnext hq hb'⟩ |  exact (C2 _).mono fun e w'' ⟨he, hw⟩ => ⟨he, hw ▸ hq⟩)
                   go_big_quiet_on
                   simp only [Act.put, List.setIfInBounds_toArray, List.set_cons_zero, List.set_cons_succ])
                | (go_big_quiet_op; go_big_quiet_on)
               ))
          refine wpQuiet_nil (fun wq hbq => ?_)
          clear C0 C1 C2
          go_wp2
          go_ret
          exact ⟨by simp [staysOk, HW.out], (by repeat (first | exact Below.refl _ _ | assumption | refine Below.setCell ?_ (by first | omega | (simp <;> omega)) _ | refine Below.alloc ?_ (by first | omega | (simp <;> omega)) _ | refine below_drewN ?_ _ | refine Below.drew ?_ | refine Below.trans ?_ (Below.mono (by assumption) (by first | omega | (simp <;> omega)))))⟩
        · have HA := hide (show inB xs[k].ship 0 (IntKind.i64.wrap ((fl.length : Int) - 1)) = true by rw [HWF.out]; exact g1)
          have HB := hide (show inB xs[k].berth 0 (IntKind.i64.wrap ((bs.length : Int) - 1)) = true by rw [HWB.out]; exact g2)
          obtain ⟨a, ha, ha2⟩ := idx_nat g1
          obtain ⟨b, hbq, hbq2⟩ := idx_nat g2
          obtain ⟨b1, o1, rfl, hb1, hcell1⟩ := h1 (by omega)
          obtain ⟨b2, o2, rfl, hb2, hcell2⟩ := h2 (by omega)
          have f0 : W0.cell? ⟨b1, o1 + b * 3, none⟩ = some (.string bs[b].name) := by
            rw [hbw.cell (p := ⟨b1, _, none⟩) hb1]; have := hcell1 b bs[b] (List.getElem?_eq_getElem hbq2) 0 _ rfl; simpa using this
          have f1 : W0.cell? ⟨b1, o1 + b * 3 + 1, none⟩ = some (.int .i64 bs[b].length) := by
            rw [hbw.cell (p := ⟨b1, _, none⟩) hb1]; have := hcell1 b bs[b] (List.getElem?_eq_getElem hbq2) 1 _ rfl; simpa using this
          have f2 : W0.cell? ⟨b1, o1 + b * 3 + 2, none⟩ = some (.int .i64 bs[b].depth) := by
            rw [hbw.cell (p := ⟨b1, _, none⟩) hb1]; have := hcell1 b bs[b] (List.getElem?_eq_getElem hbq2) 2 _ rfl; simpa using this
          have y0 : W0.cell? ⟨b2, o2 + a * 6, none⟩ = some (.string fl[a].name) := by
            rw [hbw.cell (p := ⟨b2, _, none⟩) hb2]; have := hcell2 a fl[a] (List.getElem?_eq_getElem ha2) 0 _ rfl; simpa using this
          have y1 : W0.cell? ⟨b2, o2 + a * 6 + 1, none⟩ = some (.int .i64 fl[a].length) := by
            rw [hbw.cell (p := ⟨b2, _, none⟩) hb2]; have := hcell2 a fl[a] (List.getElem?_eq_getElem ha2) 1 _ rfl; simpa using this
          have y2 : W0.cell? ⟨b2, o2 + a * 6 + 2, none⟩ = some (.int .i64 fl[a].draught) := by
            rw [hbw.cell (p := ⟨b2, _, none⟩) hb2]; have := hcell2 a fl[a] (List.getElem?_eq_getElem ha2) 2 _ rfl; simpa using this
          have y3 : W0.cell? ⟨b2, o2 + a * 6 + 3, none⟩ = some (.int .i64 fl[a].line) := by
            rw [hbw.cell (p := ⟨b2, _, none⟩) hb2]; have := hcell2 a fl[a] (List.getElem?_eq_getElem ha2) 3 _ rfl; simpa using this
          have y4 : W0.cell? ⟨b2, o2 + a * 6 + 4, none⟩ = some (.int .i64 fl[a].tugs) := by
            rw [hbw.cell (p := ⟨b2, _, none⟩) hb2]; have := hcell2 a fl[a] (List.getElem?_eq_getElem ha2) 4 _ rfl; simpa using this
          have y5 : W0.cell? ⟨b2, o2 + a * 6 + 5, none⟩ = some (.bool fl[a].slow) := by
            rw [hbw.cell (p := ⟨b2, _, none⟩) hb2]; have := hcell2 a fl[a] (List.getElem?_eq_getElem ha2) 5 _ rfl; simpa using this
          have hz1 : b1 < W0.heap.size := by omega
          have hz2 : b2 < W0.heap.size := by omega
          have ha3 : (a : Int) < fl.length := by omega
          have hb3q : (b : Int) < bs.length := by omega
          have hsz := ShipD.ok_size (hokf fl[a] (List.getElem_mem ha2))
          have HFit := hide (show stayFit bs fl xs[k] = fitsBerth bs[b] fl[a] by unfold stayFit; rw [g1, g2, g3, ha, hbq, Int.toNat_natCast, Int.toNat_natCast, getD_at ha2, getD_at hbq2]; rfl)
          rw [ha] at hx0; rw [hbq] at hx1
          have HA := hide (show inB (a : Int) 0 (IntKind.i64.wrap ((fl.length : Int) - 1)) = true by rw [← ha]; exact HA.out)
          have HB := hide (show inB (b : Int) 0 (IntKind.i64.wrap ((bs.length : Int) - 1)) = true by rw [← hbq]; exact HB.out)
          have HSa := hide ha; have HSb := hide hbq
          have HC2 := hide g3
          clear hcell1 hcell2 h1 h2 ha hbq
          have HD := hide (show fitsBerth bs[b] fl[a] = false by rw [HSa.out, HSb.out, Int.toNat_natCast, Int.toNat_natCast, getD_at ha2, getD_at hbq2] at g4; exact g4)
          have HW := hide (allUpTo_bad hlt (show stayRow bs fl xs k = false by rw [HRW.out, HFit.out, HD.out]; rfl))
          clear g1 g2 g3 g4
          have C0 := fun w : World => calls_bool (l01In_any (a : Int) 0 _ w) HA.out
          have C1 := fun w : World => calls_bool (l01In_any (b : Int) 0 _ w) HB.out
          have C2 := fun w : World => calls_bool (spec_l12Time_any (a : Int) (b : Int) xs[k].start xs[k].fin w) (show lasts ⟨(a : Int), (b : Int), xs[k].start, xs[k].fin⟩ = true by have h := HC2.out; unfold lasts at h ⊢; exact h)
          have C3 := fun w : World => calls_bool (spec_FitsBerth_any bs[b] fl[a] w hsz) HD.out
          refine wp_region_below (Below.refl W0.heap.size _) (by kernel_rfl) (by kernel_rfl) ?_
          repeat (first
            | go_big_quiet_skip
            | (go_big_quiet_want
               first
                | (refine quiet_value ?_; apply Exists.intro
                   refine ⟨fun wq hq => ?_, ?_⟩
                   · (obtain ⟨hc, hf⟩ := bcell hq; go_simp; first | done | rfl)
                   go_big_quiet_on
                   simp only [Act.put, List.setIfInBounds_toArray, List.set_cons_zero, List.set_cons_succ])
                | (refine quiet_call ?_; apply Exists.intro; apply Exists.intro; apply Exists.intro
                   refine ⟨fun wq hq => ?_, fun wq hq => ?_, ?_⟩
                   · (obtain ⟨hc, hf⟩ := bcell hq; go_simp; exact ⟨rfl, rfl⟩)
                   · (first | with_reducible exact (C0 _).mono fun e w'' ⟨he, hw⟩ => ⟨he, hw ▸ hq⟩ | with_reducible exact (C0 _).mono fun e w'' ⟨he, hb'⟩ => ⟨he, bnext hq hb'⟩ | with_reducible exact (C1 _).mono fun e w'' ⟨he, hw⟩ => ⟨he, hw ▸ hq⟩ | with_reducible exact (C1 _).mono fun e w'' ⟨he, hb'⟩ => ⟨he, bnext hq hb'⟩ | with_reducible exact (C2 _).mono fun e w'' ⟨he, hw⟩ => ⟨he, hw ▸ hq⟩ | with_reducible exact (C2 _).mono fun e w'' ⟨he, hb'⟩ => ⟨he, bnext hq hb'⟩ | with_reducible exact (C3 _).mono fun e w'' ⟨he, hw⟩ => ⟨he, hw ▸ hq⟩ | with_reducible exact (C3 _).mono fun e w'' ⟨he, hb'⟩ => ⟨he, bnext hq hb'⟩ |  exact (C0 _).mono fun e w'' ⟨he, hb'⟩ => ⟨he, bnext hq hb'⟩ |  exact (C0 _).mono fun e w'' ⟨he, hw⟩ => ⟨he, hw ▸ hq⟩ |  exact (C1 _).mono fun e w'' ⟨he, hb'⟩ => ⟨he, bnext hq hb'⟩ |  exact (C1 _).mono fun e w'' ⟨he, hw⟩ => ⟨he, hw ▸ hq⟩ |  exact (C2 _).mono fun e w'' ⟨he, hb'⟩ => ⟨he, bnext hq hb'⟩ |  exact (C2 _).mono fun e w'' ⟨he, hw⟩ => ⟨he, hw ▸ hq⟩ |  exact (C3 _).mono fun e w'' ⟨he, hb'⟩ => ⟨he, bnext hq hb'⟩ |  exact (C3 _).mono fun e w'' ⟨he, hw⟩ => ⟨he, hw ▸ hq⟩)
                   go_big_quiet_on
                   simp only [Act.put, List.setIfInBounds_toArray, List.set_cons_zero, List.set_cons_succ])
                | (go_big_quiet_op; go_big_quiet_on)
               ))
          refine wpQuiet_nil (fun wq hbq => ?_)
          clear C0 C1 C2 C3
          go_wp2
          go_ret
          exact ⟨by simp [staysOk, HW.out], (by repeat (first | exact Below.refl _ _ | assumption | refine Below.setCell ?_ (by first | omega | (simp <;> omega)) _ | refine Below.alloc ?_ (by first | omega | (simp <;> omega)) _ | refine below_drewN ?_ _ | refine Below.drew ?_ | refine Below.trans ?_ (Below.mono (by assumption) (by first | omega | (simp <;> omega)))))⟩
      · obtain rfl : k = xs.length := by omega
        go_wp2
        go_ret
        exact ⟨by have := HL.out; simp [staysOk, G1.out, G2.out, HN.out]; omega, hb0⟩
  all_goals
    have HF := hide (show staysOk bs fl xs = false by unfold staysOk; simp [*] <;> (simp at g3; omega))
    try (have l12 : (12 : Int) < (xs.length : Int) := by simp at g3; omega)
    try clear g3
    clear h1 h2 h3
    go_enter Try.func37, Try.ntmps37
    go_wp2_with (first
      | (go_at_call 25; refine (spec_BerthsOk_any _ bs _ ((HR1.out.keep (B' := w.heap.size) (by repeat (first | exact Below.refl _ _ | assumption | refine Below.setCell ?_ (by first | omega | (simp <;> omega)) _ | refine Below.alloc ?_ (by first | omega | (simp <;> omega)) _ | refine below_drewN ?_ _ | refine Below.drew ?_ | refine Below.trans ?_ (Below.mono (by assumption) (by first | omega | (simp <;> omega))))) (Nat.le_refl _)).mono (by first | omega | (simp <;> omega))) hokb).mono ?_; rintro e w1 ⟨rfl, hb'⟩; (first | have hb := bnext hb hb' | have hb := bnextA hb hb' | have hb := hb'); clear hb'; obtain ⟨hc, hf⟩ := bcell hb; have hz := hb.size; (try simp at hz))
      | (go_at_call 71; refine (spec_FleetOk_any _ fl _ ((HR2.out.keep (B' := w.heap.size) (by repeat (first | exact Below.refl _ _ | assumption | refine Below.setCell ?_ (by first | omega | (simp <;> omega)) _ | refine Below.alloc ?_ (by first | omega | (simp <;> omega)) _ | refine below_drewN ?_ _ | refine Below.drew ?_ | refine Below.trans ?_ (Below.mono (by assumption) (by first | omega | (simp <;> omega))))) (Nat.le_refl _)).mono (by first | omega | (simp <;> omega))) hokf).mono ?_; rintro e w1 ⟨rfl, hb'⟩; (first | have hb := bnext hb hb' | have hb := bnextA hb hb' | have hb := hb'); clear hb'; obtain ⟨hc, hf⟩ := bcell hb; have hz := hb.size; (try simp at hz)))
    go_ret
    exact ⟨by rw [HF.out]; first | done | rfl, (by repeat (first | exact Below.refl _ _ | assumption | refine Below.setCell ?_ (by first | omega | (simp <;> omega)) _ | refine Below.alloc ?_ (by first | omega | (simp <;> omega)) _ | refine below_drewN ?_ _ | refine Below.drew ?_ | refine Below.trans ?_ (Below.mono (by assumption) (by first | omega | (simp <;> omega)))))⟩
set_option maxRecDepth 100000 in
set_option maxHeartbeats 16000000 in
theorem impl_StaysOk_any (v1 v2 v3 : Value) (bs : List BerthD) (fl : List ShipD) (xs : List StayD) (w : World) (h1 : RdBerth w v1 bs) (h2 : RdShip w v2 fl) (h3 : RdStay w v3 xs)
    (hokb : ∀ x ∈ bs, x.name.size ≤ maxLen) (hokf : ∀ x ∈ fl, x.ok) :
    Calls Try.prog 39 #[v1, v2, v3] w fun e w' => e = .returned (.bool (staysOk bs fl xs)) ∧ Below w.heap.size w w' := by
  have HR1 := hide h1; have HR2 := hide h2
  obtain ⟨A1, c1, rfl, hc1, hm1, h1⟩ := h1
  obtain ⟨A2, c2, rfl, hc2, hm2, h2⟩ := h2
  obtain ⟨A3, c3, rfl, hc3, hm3, h3⟩ := h3
  unfold maxLen at hm1 hm2 hm3
  rcases ch3 (berthsOk bs) (fleetOk fl) (decide ((xs.length : Int) ≤ 12)) with ⟨g1, g2, g3⟩ | g1 | ⟨g1, g2⟩ | ⟨g1, g2, g3⟩
  · have G1 := hide g1; have G2 := hide g2
    have l12 : (xs.length : Int) ≤ 12 := by simpa using g3
    have HL := hide l12
    clear g3
    go_enter Try.func39, Try.ntmps39
    go_wp2_with (first
      | (go_at_call 27; refine (impl_BerthsOk_any _ bs _ ((HR1.out.keep (B' := w.heap.size) (by repeat (first | exact Below.refl _ _ | assumption | refine Below.setCell ?_ (by first | omega | (simp <;> omega)) _ | refine Below.alloc ?_ (by first | omega | (simp <;> omega)) _ | refine below_drewN ?_ _ | refine Below.drew ?_ | refine Below.trans ?_ (Below.mono (by assumption) (by first | omega | (simp <;> omega))))) (Nat.le_refl _)).mono (by first | omega | (simp <;> omega))) hokb).mono ?_; rintro e w1 ⟨rfl, hb'⟩; (first | have hb := bnext hb hb' | have hb := bnextA hb hb' | have hb := hb'); clear hb'; obtain ⟨hc, hf⟩ := bcell hb; have hz := hb.size; (try simp at hz))
      | (go_at_call 35; refine (impl_FleetOk_any _ fl _ ((HR2.out.keep (B' := w.heap.size) (by repeat (first | exact Below.refl _ _ | assumption | refine Below.setCell ?_ (by first | omega | (simp <;> omega)) _ | refine Below.alloc ?_ (by first | omega | (simp <;> omega)) _ | refine below_drewN ?_ _ | refine Below.drew ?_ | refine Below.trans ?_ (Below.mono (by assumption) (by first | omega | (simp <;> omega))))) (Nat.le_refl _)).mono (by first | omega | (simp <;> omega))) hokf).mono ?_; rintro e w1 ⟨rfl, hb'⟩; (first | have hb := bnext hb hb' | have hb := bnextA hb hb' | have hb := hb'); clear hb'; obtain ⟨hc, hf⟩ := bcell hb; have hz := hb.size; (try simp at hz)))
    clear g1 g2
    go_loopw [26] (fun i wr => ∃ k : Nat, k ≤ xs.length ∧ i = .int .i64 k ∧ Hid (allUpTo (stayRow bs fl xs) k = true) ∧ Below w.heap.size w wr) (fun i _ => xs.length - (intOf i).toNat)
    case atStart => exact ⟨0, Nat.zero_le _, rfl, hide rfl, (by repeat (first | exact Below.refl _ _ | assumption | refine Below.setCell ?_ (by first | omega | (simp <;> omega)) _ | refine Below.alloc ?_ (by first | omega | (simp <;> omega)) _ | refine below_drewN ?_ _ | refine Below.drew ?_ | refine Below.trans ?_ (Below.mono (by assumption) (by first | omega | (simp <;> omega)))))⟩
    case round =>
      clear hc hf hz hb
      obtain ⟨k, hk, rfl, HN, hb0⟩ := hrel
      obtain ⟨wo, rfl⟩ : ∃ wo : World, wo = wr := ⟨_, rfl⟩
      have hbs := hb0.size
      by_cases hlt : k < xs.length
      · obtain ⟨b3, o3, rfl, hb3, hcell3⟩ := h3 (by omega)
        have e0 : wo.cell? ⟨b3, o3 + k * 4, none⟩ = some (.int .i64 xs[k].ship) := by
          rw [hb0.cell (p := ⟨b3, _, none⟩) hb3]; have := hcell3 k xs[k] (List.getElem?_eq_getElem hlt) 0 _ rfl; simpa using this
        have e1 : wo.cell? ⟨b3, o3 + k * 4 + 1, none⟩ = some (.int .i64 xs[k].berth) := by
          rw [hb0.cell (p := ⟨b3, _, none⟩) hb3]; have := hcell3 k xs[k] (List.getElem?_eq_getElem hlt) 1 _ rfl; simpa using this
        have e2 : wo.cell? ⟨b3, o3 + k * 4 + 2, none⟩ = some (.int .i64 xs[k].start) := by
          rw [hb0.cell (p := ⟨b3, _, none⟩) hb3]; have := hcell3 k xs[k] (List.getElem?_eq_getElem hlt) 2 _ rfl; simpa using this
        have e3 : wo.cell? ⟨b3, o3 + k * 4 + 3, none⟩ = some (.int .i64 xs[k].fin) := by
          rw [hb0.cell (p := ⟨b3, _, none⟩) hb3]; have := hcell3 k xs[k] (List.getElem?_eq_getElem hlt) 3 _ rfl; simpa using this
        have HC := hide hcell3
        have HX := hide (getD_at hlt)
        clear hcell3 h3
        have HRW := hide (show stayRow bs fl xs k = (stayFit bs fl xs[k] && allUpTo (noClash xs xs[k]) k) by unfold stayRow; rw [HX.out])
        have HWF := hide (show IntKind.i64.wrap ((fl.length : Int) - 1) = (fl.length : Int) - 1 from IntWalk.i64_in _ (by omega))
        have HWB := hide (show IntKind.i64.wrap ((bs.length : Int) - 1) = (bs.length : Int) - 1 from IntWalk.i64_in _ (by omega))
        go_wp2_with fail
        generalize hW0 : (wo.alloc (.cells #[.int .i64 xs[k].ship, .int .i64 xs[k].berth, .int .i64 xs[k].start, .int .i64 xs[k].fin] 97)) = W0
        have hB0 : Below wo.heap.size wo W0 := by rw [← hW0]; exact (by repeat (first | exact Below.refl _ _ | assumption | refine Below.setCell ?_ (by first | omega | (simp <;> omega)) _ | refine Below.alloc ?_ (by first | omega | (simp <;> omega)) _ | refine below_drewN ?_ _ | refine Below.drew ?_ | refine Below.trans ?_ (Below.mono (by assumption) (by first | omega | (simp <;> omega)))))
        have hl0 : wo.heap.size < W0.heap.size := by rw [← hW0]; simp
        have hx0 : W0.cell? ⟨wo.heap.size, 0, none⟩ = some (.int .i64 xs[k].ship) := by rw [← hW0]; simp [go_sem]
        have hx1 : W0.cell? ⟨wo.heap.size, 1, none⟩ = some (.int .i64 xs[k].berth) := by rw [← hW0]; simp [go_sem]
        have hx2 : W0.cell? ⟨wo.heap.size, 2, none⟩ = some (.int .i64 xs[k].start) := by rw [← hW0]; simp [go_sem]
        have hx3 : W0.cell? ⟨wo.heap.size, 3, none⟩ = some (.int .i64 xs[k].fin) := by rw [← hW0]; simp [go_sem]
        have hbw := bnext hb0 hB0 (Nat.le_refl _)
        have hbws := hbw.size
        clear hW0 e0 e1 e2 e3
        rcases ch4 (inB xs[k].ship 0 ((fl.length : Int) - 1)) (inB xs[k].berth 0 ((bs.length : Int) - 1)) (lasts xs[k]) (fitsBerth (bs.getD xs[k].berth.toNat default) (fl.getD xs[k].ship.toNat default)) with ⟨g1, g2, g3, g4⟩ | g1 | ⟨g1, g2⟩ | ⟨g1, g2, g3⟩ | ⟨g1, g2, g3, g4⟩
        · have HA := hide (show inB xs[k].ship 0 ((fl.length : Int) - 1) = true by exact g1)
          have HB := hide (show inB xs[k].berth 0 ((bs.length : Int) - 1) = true by exact g2)
          obtain ⟨a, ha, ha2⟩ := idx_nat g1
          obtain ⟨b, hbq, hbq2⟩ := idx_nat g2
          obtain ⟨b1, o1, rfl, hb1, hcell1⟩ := h1 (by omega)
          obtain ⟨b2, o2, rfl, hb2, hcell2⟩ := h2 (by omega)
          have f0 : W0.cell? ⟨b1, o1 + b * 3, none⟩ = some (.string bs[b].name) := by
            rw [hbw.cell (p := ⟨b1, _, none⟩) hb1]; have := hcell1 b bs[b] (List.getElem?_eq_getElem hbq2) 0 _ rfl; simpa using this
          have f1 : W0.cell? ⟨b1, o1 + b * 3 + 1, none⟩ = some (.int .i64 bs[b].length) := by
            rw [hbw.cell (p := ⟨b1, _, none⟩) hb1]; have := hcell1 b bs[b] (List.getElem?_eq_getElem hbq2) 1 _ rfl; simpa using this
          have f2 : W0.cell? ⟨b1, o1 + b * 3 + 2, none⟩ = some (.int .i64 bs[b].depth) := by
            rw [hbw.cell (p := ⟨b1, _, none⟩) hb1]; have := hcell1 b bs[b] (List.getElem?_eq_getElem hbq2) 2 _ rfl; simpa using this
          have y0 : W0.cell? ⟨b2, o2 + a * 6, none⟩ = some (.string fl[a].name) := by
            rw [hbw.cell (p := ⟨b2, _, none⟩) hb2]; have := hcell2 a fl[a] (List.getElem?_eq_getElem ha2) 0 _ rfl; simpa using this
          have y1 : W0.cell? ⟨b2, o2 + a * 6 + 1, none⟩ = some (.int .i64 fl[a].length) := by
            rw [hbw.cell (p := ⟨b2, _, none⟩) hb2]; have := hcell2 a fl[a] (List.getElem?_eq_getElem ha2) 1 _ rfl; simpa using this
          have y2 : W0.cell? ⟨b2, o2 + a * 6 + 2, none⟩ = some (.int .i64 fl[a].draught) := by
            rw [hbw.cell (p := ⟨b2, _, none⟩) hb2]; have := hcell2 a fl[a] (List.getElem?_eq_getElem ha2) 2 _ rfl; simpa using this
          have y3 : W0.cell? ⟨b2, o2 + a * 6 + 3, none⟩ = some (.int .i64 fl[a].line) := by
            rw [hbw.cell (p := ⟨b2, _, none⟩) hb2]; have := hcell2 a fl[a] (List.getElem?_eq_getElem ha2) 3 _ rfl; simpa using this
          have y4 : W0.cell? ⟨b2, o2 + a * 6 + 4, none⟩ = some (.int .i64 fl[a].tugs) := by
            rw [hbw.cell (p := ⟨b2, _, none⟩) hb2]; have := hcell2 a fl[a] (List.getElem?_eq_getElem ha2) 4 _ rfl; simpa using this
          have y5 : W0.cell? ⟨b2, o2 + a * 6 + 5, none⟩ = some (.bool fl[a].slow) := by
            rw [hbw.cell (p := ⟨b2, _, none⟩) hb2]; have := hcell2 a fl[a] (List.getElem?_eq_getElem ha2) 5 _ rfl; simpa using this
          have hz1 : b1 < W0.heap.size := by omega
          have hz2 : b2 < W0.heap.size := by omega
          have ha3 : (a : Int) < fl.length := by omega
          have hb3q : (b : Int) < bs.length := by omega
          have hsz := ShipD.ok_size (hokf fl[a] (List.getElem_mem ha2))
          have HFit := hide (show stayFit bs fl xs[k] = fitsBerth bs[b] fl[a] by unfold stayFit; rw [g1, g2, g3, ha, hbq, Int.toNat_natCast, Int.toNat_natCast, getD_at ha2, getD_at hbq2]; rfl)
          rw [ha] at hx0; rw [hbq] at hx1
          have HA := hide (show inB (a : Int) 0 ((fl.length : Int) - 1) = true by rw [← ha]; exact HA.out)
          have HB := hide (show inB (b : Int) 0 ((bs.length : Int) - 1) = true by rw [← hbq]; exact HB.out)
          have HSa := hide ha; have HSb := hide hbq
          have HC2 := hide g3
          clear hcell1 hcell2 h1 h2 ha hbq
          have HD := hide (show fitsBerth bs[b] fl[a] = true by rw [HSa.out, HSb.out, Int.toNat_natCast, Int.toNat_natCast, getD_at ha2, getD_at hbq2] at g4; exact g4)
          clear g1 g2 g3 g4
          have C0 := fun w : World => calls_bool (isIndexB (a : Int) (fl.length : Int) ((fl.length : Int) - 1) w (by omega)) HA.out
          have C1 := fun w : World => calls_bool (isIndexB (b : Int) (bs.length : Int) ((bs.length : Int) - 1) w (by omega)) HB.out
          have C2 := fun w : World => calls_bool (impl_lasts_any (a : Int) (b : Int) xs[k].start xs[k].fin w) (show lasts ⟨(a : Int), (b : Int), xs[k].start, xs[k].fin⟩ = true by have h := HC2.out; unfold lasts at h ⊢; exact h)
          have C3 := fun w : World => calls_bool (impl_FitsBerth_any bs[b] fl[a] w hsz) HD.out
          refine wp_region_below (Below.refl W0.heap.size _) (by kernel_rfl) (by kernel_rfl) ?_
          repeat (first
            | go_big_quiet_skip
            | (go_big_quiet_want
               first
                | (refine quiet_value ?_; apply Exists.intro
                   refine ⟨fun wq hq => ?_, ?_⟩
                   · (obtain ⟨hc, hf⟩ := bcell hq; go_simp; first | done | rfl)
                   go_big_quiet_on
                   simp only [Act.put, List.setIfInBounds_toArray, List.set_cons_zero, List.set_cons_succ])
                | (refine quiet_call ?_; apply Exists.intro; apply Exists.intro; apply Exists.intro
                   refine ⟨fun wq hq => ?_, fun wq hq => ?_, ?_⟩
                   · (obtain ⟨hc, hf⟩ := bcell hq; go_simp; exact ⟨rfl, rfl⟩)
                   · (first | with_reducible exact (C0 _).mono fun e w'' ⟨he, hw⟩ => ⟨he, hw ▸ hq⟩ | with_reducible exact (C0 _).mono fun e w'' ⟨he, hb'⟩ => ⟨he, bnext hq hb'⟩ | with_reducible exact (C1 _).mono fun e w'' ⟨he, hw⟩ => ⟨he, hw ▸ hq⟩ | with_reducible exact (C1 _).mono fun e w'' ⟨he, hb'⟩ => ⟨he, bnext hq hb'⟩ | with_reducible exact (C2 _).mono fun e w'' ⟨he, hw⟩ => ⟨he, hw ▸ hq⟩ | with_reducible exact (C2 _).mono fun e w'' ⟨he, hb'⟩ => ⟨he, bnext hq hb'⟩ | with_reducible exact (C3 _).mono fun e w'' ⟨he, hw⟩ => ⟨he, hw ▸ hq⟩ | with_reducible exact (C3 _).mono fun e w'' ⟨he, hb'⟩ => ⟨he, bnext hq hb'⟩ |  exact (C0 _).mono fun e w'' ⟨he, hb'⟩ => ⟨he, bnext hq hb'⟩ |  exact (C0 _).mono fun e w'' ⟨he, hw⟩ => ⟨he, hw ▸ hq⟩ |  exact (C1 _).mono fun e w'' ⟨he, hb'⟩ => ⟨he, bnext hq hb'⟩ |  exact (C1 _).mono fun e w'' ⟨he, hw⟩ => ⟨he, hw ▸ hq⟩ |  exact (C2 _).mono fun e w'' ⟨he, hb'⟩ => ⟨he, bnext hq hb'⟩ |  exact (C2 _).mono fun e w'' ⟨he, hw⟩ => ⟨he, hw ▸ hq⟩ |  exact (C3 _).mono fun e w'' ⟨he, hb'⟩ => ⟨he, bnext hq hb'⟩ |  exact (C3 _).mono fun e w'' ⟨he, hw⟩ => ⟨he, hw ▸ hq⟩)
                   go_big_quiet_on
                   simp only [Act.put, List.setIfInBounds_toArray, List.set_cons_zero, List.set_cons_succ])
                | (go_big_quiet_op; go_big_quiet_on)
               ))
          refine wpQuiet_nil (fun wq hbq => ?_)
          clear C0 C1 C2 C3
          have hbk0 := bnext hbw hbq (Nat.le_refl _)
          have p0 := cellKeep hbq hx0 hl0; have p1 := cellKeep hbq hx1 hl0; have p2 := cellKeep hbq hx2 hl0; have p3 := cellKeep hbq hx3 hl0
          have hl1 : wo.heap.size < wq.heap.size := by have := hbq.size; omega
          clear hx0 hx1 hx2 hx3 f0 f1 f2 y0 y1 y2 y3 y4 y5
          rw [← HSa.out] at p0; rw [← HSb.out] at p1
          go_wp2
          go_loopw [68] (fun i wr => ∃ j : Nat, j ≤ k ∧ i = .int .i64 j ∧ Hid (allUpTo (noClash xs xs[k]) j = true) ∧ wr.cell? ⟨wo.heap.size, 0, none⟩ = some (.int .i64 xs[k].ship) ∧ wr.cell? ⟨wo.heap.size, 1, none⟩ = some (.int .i64 xs[k].berth) ∧ wr.cell? ⟨wo.heap.size, 2, none⟩ = some (.int .i64 xs[k].start) ∧ wr.cell? ⟨wo.heap.size, 3, none⟩ = some (.int .i64 xs[k].fin) ∧ wo.heap.size < wr.heap.size ∧ Below wq.heap.size wq wr) (fun i _ => k - (intOf i).toNat)
          case atStart => exact ⟨0, Nat.zero_le _, rfl, hide rfl, p0, p1, p2, p3, hl1, Below.refl _ _⟩
          case round =>
            obtain ⟨j, hj, rfl, HJ, z0, z1, z2, z3, hl2, hbj⟩ := hrel
            have hbk := bnext hbk0 hbj (Nat.le_refl _)
            have hbks := hbk.size
            by_cases hjk : j < k
            · have hjl : j < xs.length := by omega
              have hcell := HC.out
              have f0 : wr.cell? ⟨b3, o3 + j * 4, none⟩ = some (.int .i64 xs[j].ship) := by
                rw [hbk.cell (p := ⟨b3, _, none⟩) hb3]; have := hcell j xs[j] (List.getElem?_eq_getElem hjl) 0 _ rfl; simpa using this
              have f1 : wr.cell? ⟨b3, o3 + j * 4 + 1, none⟩ = some (.int .i64 xs[j].berth) := by
                rw [hbk.cell (p := ⟨b3, _, none⟩) hb3]; have := hcell j xs[j] (List.getElem?_eq_getElem hjl) 1 _ rfl; simpa using this
              have f2 : wr.cell? ⟨b3, o3 + j * 4 + 2, none⟩ = some (.int .i64 xs[j].start) := by
                rw [hbk.cell (p := ⟨b3, _, none⟩) hb3]; have := hcell j xs[j] (List.getElem?_eq_getElem hjl) 2 _ rfl; simpa using this
              have f3 : wr.cell? ⟨b3, o3 + j * 4 + 3, none⟩ = some (.int .i64 xs[j].fin) := by
                rw [hbk.cell (p := ⟨b3, _, none⟩) hb3]; have := hcell j xs[j] (List.getElem?_eq_getElem hjl) 3 _ rfl; simpa using this
              have hz3 : b3 < wr.heap.size := by omega
              have HXJ := hide (getD_at hjl)
              clear hcell p0 p1 p2 p3
              obtain ⟨o, ho⟩ : ∃ o, decide (max xs[j].start xs[k].start < min xs[j].fin xs[k].fin) = o := ⟨_, rfl⟩
              have HNC := hide (show noClash xs xs[k] j = !((decide (xs[j].ship = xs[k].ship) || decide (xs[j].berth = xs[k].berth)) && o) by unfold noClash stayClash; rw [HXJ.out, ho])
              have HO := hide ho; clear ho
              rcases ch1 (noClash xs xs[k] j) with hn | hn
              · have HG := hide hn
                go_wp2
                all_goals first
                  | exact (show False by omega).elim
                  | (go_roundw
                     case rel => exact ⟨j + 1, by omega, by go_num, hide (allUpTo_succ HJ.out HG.out), cellKeep (B := wr.heap.size) (w1 := wr) (by repeat (first | exact Below.refl _ _ | assumption | refine Below.setCell ?_ (by first | omega | (simp <;> omega)) _ | refine Below.alloc ?_ (by first | omega | (simp <;> omega)) _ | refine below_drewN ?_ _ | refine Below.drew ?_ | refine Below.trans ?_ (Below.mono (by assumption) (by first | omega | (simp <;> omega))))) z0 hl2, cellKeep (B := wr.heap.size) (w1 := wr) (by repeat (first | exact Below.refl _ _ | assumption | refine Below.setCell ?_ (by first | omega | (simp <;> omega)) _ | refine Below.alloc ?_ (by first | omega | (simp <;> omega)) _ | refine below_drewN ?_ _ | refine Below.drew ?_ | refine Below.trans ?_ (Below.mono (by assumption) (by first | omega | (simp <;> omega))))) z1 hl2, cellKeep (B := wr.heap.size) (w1 := wr) (by repeat (first | exact Below.refl _ _ | assumption | refine Below.setCell ?_ (by first | omega | (simp <;> omega)) _ | refine Below.alloc ?_ (by first | omega | (simp <;> omega)) _ | refine below_drewN ?_ _ | refine Below.drew ?_ | refine Below.trans ?_ (Below.mono (by assumption) (by first | omega | (simp <;> omega))))) z2 hl2, cellKeep (B := wr.heap.size) (w1 := wr) (by repeat (first | exact Below.refl _ _ | assumption | refine Below.setCell ?_ (by first | omega | (simp <;> omega)) _ | refine Below.alloc ?_ (by first | omega | (simp <;> omega)) _ | refine below_drewN ?_ _ | refine Below.drew ?_ | refine Below.trans ?_ (Below.mono (by assumption) (by first | omega | (simp <;> omega))))) z3 hl2, by first | omega | (simp <;> omega), bnext hbj (w1 := wr) (by repeat (first | exact Below.refl _ _ | assumption | refine Below.setCell ?_ (by first | omega | (simp <;> omega)) _ | refine Below.alloc ?_ (by first | omega | (simp <;> omega)) _ | refine below_drewN ?_ _ | refine Below.drew ?_ | refine Below.trans ?_ (Below.mono (by assumption) (by first | omega | (simp <;> omega))))) (Nat.le_refl _)⟩
                     case measure => simp [intOf]; omega)
                  | (exfalso; have h1 := HG.out; rw [HNC.out] at h1; have h2 := HO.out; simp_all; done)
                  | (exfalso; have h1 := HG.out; rw [HNC.out] at h1; have h2 := HO.out; simp_all; omega)
              · have HF := hide (show stayRow bs fl xs k = false by rw [HRW.out, allUpTo_bad hjk hn]; simp)
                have HG := hide hn
                go_wp2
                all_goals first
                  | exact (show False by omega).elim
                  | (go_ret; exact ⟨by simp [staysOk, allUpTo_bad hlt HF.out], (by repeat (first | exact Below.refl _ _ | assumption | refine Below.setCell ?_ (by first | omega | (simp <;> omega)) _ | refine Below.alloc ?_ (by first | omega | (simp <;> omega)) _ | refine below_drewN ?_ _ | refine Below.drew ?_ | refine Below.trans ?_ (Below.mono (by assumption) (by first | omega | (simp <;> omega)))))⟩)
                  | (exfalso; have h1 := HG.out; rw [HNC.out] at h1; have h2 := HO.out; simp_all; done)
                  | (exfalso; have h1 := HG.out; rw [HNC.out] at h1; have h2 := HO.out; simp_all; omega)
            · obtain rfl : j = k := by omega
              have HT := hide (show stayRow bs fl xs j = true by rw [HRW.out, HFit.out, HD.out, HJ.out]; rfl)
              go_wp2
              go_roundw
              case rel => exact ⟨j + 1, by omega, by go_num, hide (allUpTo_succ HN.out HT.out), hbk⟩
              case measure => simp [intOf]; omega
        · have HA := hide (show inB xs[k].ship 0 ((fl.length : Int) - 1) = false by exact g1)
          have HW := hide (allUpTo_bad hlt (show stayRow bs fl xs k = false by rw [HRW.out]; unfold stayFit; simp only [g1, Bool.and_false, Bool.false_and, Bool.true_and]))
          clear g1
          have C0 := fun w : World => calls_bool (isIndexB xs[k].ship (fl.length : Int) ((fl.length : Int) - 1) w (by omega)) HA.out
          refine wp_region_below (Below.refl W0.heap.size _) (by kernel_rfl) (by kernel_rfl) ?_
          repeat (first
            | go_big_quiet_skip
            | (go_big_quiet_want
               first
                | (refine quiet_value ?_; apply Exists.intro
                   refine ⟨fun wq hq => ?_, ?_⟩
                   · (obtain ⟨hc, hf⟩ := bcell hq; go_simp; first | done | rfl)
                   go_big_quiet_on
                   simp only [Act.put, List.setIfInBounds_toArray, List.set_cons_zero, List.set_cons_succ])
                | (refine quiet_call ?_; apply Exists.intro; apply Exists.intro; apply Exists.intro
                   refine ⟨fun wq hq => ?_, fun wq hq => ?_, ?_⟩
                   · (obtain ⟨hc, hf⟩ := bcell hq; go_simp; exact ⟨rfl, rfl⟩)
                   · (first | with_reducible exact (C0 _).mono fun e w'' ⟨he, hw⟩ => ⟨he, hw ▸ hq⟩ | with_reducible exact (C0 _).mono fun e w'' ⟨he, hb'⟩ => ⟨he, bnext hq hb'⟩ |  exact (C0 _).mono fun e w'' ⟨he, hb'⟩ => ⟨he, bnext hq hb'⟩ |  exact (C0 _).mono fun e w'' ⟨he, hw⟩ => ⟨he, hw ▸ hq⟩)
                   go_big_quiet_on
                   simp only [Act.put, List.setIfInBounds_toArray, List.set_cons_zero, List.set_cons_succ])
                | (go_big_quiet_op; go_big_quiet_on)
               ))
          refine wpQuiet_nil (fun wq hbq => ?_)
          clear C0
          go_wp2
          go_ret
          exact ⟨by simp [staysOk, HW.out], (by repeat (first | exact Below.refl _ _ | assumption | refine Below.setCell ?_ (by first | omega | (simp <;> omega)) _ | refine Below.alloc ?_ (by first | omega | (simp <;> omega)) _ | refine below_drewN ?_ _ | refine Below.drew ?_ | refine Below.trans ?_ (Below.mono (by assumption) (by first | omega | (simp <;> omega)))))⟩
        · have HA := hide (show inB xs[k].ship 0 ((fl.length : Int) - 1) = true by exact g1)
          have HB := hide (show inB xs[k].berth 0 ((bs.length : Int) - 1) = false by exact g2)
          have HW := hide (allUpTo_bad hlt (show stayRow bs fl xs k = false by rw [HRW.out]; unfold stayFit; simp only [g2, Bool.and_false, Bool.false_and, Bool.true_and]))
          clear g1 g2
          have C0 := fun w : World => calls_bool (isIndexB xs[k].ship (fl.length : Int) ((fl.length : Int) - 1) w (by omega)) HA.out
          have C1 := fun w : World => calls_bool (isIndexB xs[k].berth (bs.length : Int) ((bs.length : Int) - 1) w (by omega)) HB.out
          refine wp_region_below (Below.refl W0.heap.size _) (by kernel_rfl) (by kernel_rfl) ?_
          repeat (first
            | go_big_quiet_skip
            | (go_big_quiet_want
               first
                | (refine quiet_value ?_; apply Exists.intro
                   refine ⟨fun wq hq => ?_, ?_⟩
                   · (obtain ⟨hc, hf⟩ := bcell hq; go_simp; first | done | rfl)
                   go_big_quiet_on
                   simp only [Act.put, List.setIfInBounds_toArray, List.set_cons_zero, List.set_cons_succ])
                | (refine quiet_call ?_; apply Exists.intro; apply Exists.intro; apply Exists.intro
                   refine ⟨fun wq hq => ?_, fun wq hq => ?_, ?_⟩
                   · (obtain ⟨hc, hf⟩ := bcell hq; go_simp; exact ⟨rfl, rfl⟩)
                   · (first | with_reducible exact (C0 _).mono fun e w'' ⟨he, hw⟩ => ⟨he, hw ▸ hq⟩ | with_reducible exact (C0 _).mono fun e w'' ⟨he, hb'⟩ => ⟨he, bnext hq hb'⟩ | with_reducible exact (C1 _).mono fun e w'' ⟨he, hw⟩ => ⟨he, hw ▸ hq⟩ | with_reducible exact (C1 _).mono fun e w'' ⟨he, hb'⟩ => ⟨he, bnext hq hb'⟩ |  exact (C0 _).mono fun e w'' ⟨he, hb'⟩ => ⟨he, bnext hq hb'⟩ |  exact (C0 _).mono fun e w'' ⟨he, hw⟩ => ⟨he, hw ▸ hq⟩ |  exact (C1 _).mono fun e w'' ⟨he, hb'⟩ => ⟨he, bnext hq hb'⟩ |  exact (C1 _).mono fun e w'' ⟨he, hw⟩ => ⟨he, hw ▸ hq⟩)
                   go_big_quiet_on
                   simp only [Act.put, List.setIfInBounds_toArray, List.set_cons_zero, List.set_cons_succ])
                | (go_big_quiet_op; go_big_quiet_on)
               ))
          refine wpQuiet_nil (fun wq hbq => ?_)
          clear C0 C1
          go_wp2
          go_ret
          exact ⟨by simp [staysOk, HW.out], (by repeat (first | exact Below.refl _ _ | assumption | refine Below.setCell ?_ (by first | omega | (simp <;> omega)) _ | refine Below.alloc ?_ (by first | omega | (simp <;> omega)) _ | refine below_drewN ?_ _ | refine Below.drew ?_ | refine Below.trans ?_ (Below.mono (by assumption) (by first | omega | (simp <;> omega)))))⟩
        · have HA := hide (show inB xs[k].ship 0 ((fl.length : Int) - 1) = true by exact g1)
          have HB := hide (show inB xs[k].berth 0 ((bs.length : Int) - 1) = true by exact g2)
          have HC2 := hide g3
          have HW := hide (allUpTo_bad hlt (show stayRow bs fl xs k = false by rw [HRW.out]; unfold stayFit; simp only [g3, Bool.and_false, Bool.false_and, Bool.true_and]))
          clear g1 g2 g3
          have C0 := fun w : World => calls_bool (isIndexB xs[k].ship (fl.length : Int) ((fl.length : Int) - 1) w (by omega)) HA.out
          have C1 := fun w : World => calls_bool (isIndexB xs[k].berth (bs.length : Int) ((bs.length : Int) - 1) w (by omega)) HB.out
          have C2 := fun w : World => calls_bool (impl_lasts_any xs[k].ship xs[k].berth xs[k].start xs[k].fin w) (show lasts ⟨xs[k].ship, xs[k].berth, xs[k].start, xs[k].fin⟩ = false by have h := HC2.out; unfold lasts at h ⊢; exact h)
          refine wp_region_below (Below.refl W0.heap.size _) (by kernel_rfl) (by kernel_rfl) ?_
          repeat (first
            | go_big_quiet_skip
            | (go_big_quiet_want
               first
                | (refine quiet_value ?_; apply Exists.intro
                   refine ⟨fun wq hq => ?_, ?_⟩
                   · (obtain ⟨hc, hf⟩ := bcell hq; go_simp; first | done | rfl)
                   go_big_quiet_on
                   simp only [Act.put, List.setIfInBounds_toArray, List.set_cons_zero, List.set_cons_succ])
                | (refine quiet_call ?_; apply Exists.intro; apply Exists.intro; apply Exists.intro
                   refine ⟨fun wq hq => ?_, fun wq hq => ?_, ?_⟩
                   · (obtain ⟨hc, hf⟩ := bcell hq; go_simp; exact ⟨rfl, rfl⟩)
                   · (first | with_reducible exact (C0 _).mono fun e w'' ⟨he, hw⟩ => ⟨he, hw ▸ hq⟩ | with_reducible exact (C0 _).mono fun e w'' ⟨he, hb'⟩ => ⟨he, bnext hq hb'⟩ | with_reducible exact (C1 _).mono fun e w'' ⟨he, hw⟩ => ⟨he, hw ▸ hq⟩ | with_reducible exact (C1 _).mono fun e w'' ⟨he, hb'⟩ => ⟨he, bnext hq hb'⟩ | with_reducible exact (C2 _).mono fun e w'' ⟨he, hw⟩ => ⟨he, hw ▸ hq⟩ | with_reducible exact (C2 _).mono fun e w'' ⟨he, hb'⟩ => ⟨he, bnext hq hb'⟩ |  exact (C0 _).mono fun e w'' ⟨he, hb'⟩ => ⟨he, bnext hq hb'⟩ |  exact (C0 _).mono fun e w'' ⟨he, hw⟩ => ⟨he, hw ▸ hq⟩ |  exact (C1 _).mono fun e w'' ⟨he, hb'⟩ => ⟨he, bnext hq hb'⟩ |  exact (C1 _).mono fun e w'' ⟨he, hw⟩ => ⟨he, hw ▸ hq⟩ |  exact (C2 _).mono fun e w'' ⟨he, hb'⟩ => ⟨he, bnext hq hb'⟩ |  exact (C2 _).mono fun e w'' ⟨he, hw⟩ => ⟨he, hw ▸ hq⟩)
                   go_big_quiet_on
                   simp only [Act.put, List.setIfInBounds_toArray, List.set_cons_zero, List.set_cons_succ])
                | (go_big_quiet_op; go_big_quiet_on)
               ))
          refine wpQuiet_nil (fun wq hbq => ?_)
          clear C0 C1 C2
          go_wp2
          go_ret
          exact ⟨by simp [staysOk, HW.out], (by repeat (first | exact Below.refl _ _ | assumption | refine Below.setCell ?_ (by first | omega | (simp <;> omega)) _ | refine Below.alloc ?_ (by first | omega | (simp <;> omega)) _ | refine below_drewN ?_ _ | refine Below.drew ?_ | refine Below.trans ?_ (Below.mono (by assumption) (by first | omega | (simp <;> omega)))))⟩
        · have HA := hide (show inB xs[k].ship 0 ((fl.length : Int) - 1) = true by exact g1)
          have HB := hide (show inB xs[k].berth 0 ((bs.length : Int) - 1) = true by exact g2)
          obtain ⟨a, ha, ha2⟩ := idx_nat g1
          obtain ⟨b, hbq, hbq2⟩ := idx_nat g2
          obtain ⟨b1, o1, rfl, hb1, hcell1⟩ := h1 (by omega)
          obtain ⟨b2, o2, rfl, hb2, hcell2⟩ := h2 (by omega)
          have f0 : W0.cell? ⟨b1, o1 + b * 3, none⟩ = some (.string bs[b].name) := by
            rw [hbw.cell (p := ⟨b1, _, none⟩) hb1]; have := hcell1 b bs[b] (List.getElem?_eq_getElem hbq2) 0 _ rfl; simpa using this
          have f1 : W0.cell? ⟨b1, o1 + b * 3 + 1, none⟩ = some (.int .i64 bs[b].length) := by
            rw [hbw.cell (p := ⟨b1, _, none⟩) hb1]; have := hcell1 b bs[b] (List.getElem?_eq_getElem hbq2) 1 _ rfl; simpa using this
          have f2 : W0.cell? ⟨b1, o1 + b * 3 + 2, none⟩ = some (.int .i64 bs[b].depth) := by
            rw [hbw.cell (p := ⟨b1, _, none⟩) hb1]; have := hcell1 b bs[b] (List.getElem?_eq_getElem hbq2) 2 _ rfl; simpa using this
          have y0 : W0.cell? ⟨b2, o2 + a * 6, none⟩ = some (.string fl[a].name) := by
            rw [hbw.cell (p := ⟨b2, _, none⟩) hb2]; have := hcell2 a fl[a] (List.getElem?_eq_getElem ha2) 0 _ rfl; simpa using this
          have y1 : W0.cell? ⟨b2, o2 + a * 6 + 1, none⟩ = some (.int .i64 fl[a].length) := by
            rw [hbw.cell (p := ⟨b2, _, none⟩) hb2]; have := hcell2 a fl[a] (List.getElem?_eq_getElem ha2) 1 _ rfl; simpa using this
          have y2 : W0.cell? ⟨b2, o2 + a * 6 + 2, none⟩ = some (.int .i64 fl[a].draught) := by
            rw [hbw.cell (p := ⟨b2, _, none⟩) hb2]; have := hcell2 a fl[a] (List.getElem?_eq_getElem ha2) 2 _ rfl; simpa using this
          have y3 : W0.cell? ⟨b2, o2 + a * 6 + 3, none⟩ = some (.int .i64 fl[a].line) := by
            rw [hbw.cell (p := ⟨b2, _, none⟩) hb2]; have := hcell2 a fl[a] (List.getElem?_eq_getElem ha2) 3 _ rfl; simpa using this
          have y4 : W0.cell? ⟨b2, o2 + a * 6 + 4, none⟩ = some (.int .i64 fl[a].tugs) := by
            rw [hbw.cell (p := ⟨b2, _, none⟩) hb2]; have := hcell2 a fl[a] (List.getElem?_eq_getElem ha2) 4 _ rfl; simpa using this
          have y5 : W0.cell? ⟨b2, o2 + a * 6 + 5, none⟩ = some (.bool fl[a].slow) := by
            rw [hbw.cell (p := ⟨b2, _, none⟩) hb2]; have := hcell2 a fl[a] (List.getElem?_eq_getElem ha2) 5 _ rfl; simpa using this
          have hz1 : b1 < W0.heap.size := by omega
          have hz2 : b2 < W0.heap.size := by omega
          have ha3 : (a : Int) < fl.length := by omega
          have hb3q : (b : Int) < bs.length := by omega
          have hsz := ShipD.ok_size (hokf fl[a] (List.getElem_mem ha2))
          have HFit := hide (show stayFit bs fl xs[k] = fitsBerth bs[b] fl[a] by unfold stayFit; rw [g1, g2, g3, ha, hbq, Int.toNat_natCast, Int.toNat_natCast, getD_at ha2, getD_at hbq2]; rfl)
          rw [ha] at hx0; rw [hbq] at hx1
          have HA := hide (show inB (a : Int) 0 ((fl.length : Int) - 1) = true by rw [← ha]; exact HA.out)
          have HB := hide (show inB (b : Int) 0 ((bs.length : Int) - 1) = true by rw [← hbq]; exact HB.out)
          have HSa := hide ha; have HSb := hide hbq
          have HC2 := hide g3
          clear hcell1 hcell2 h1 h2 ha hbq
          have HD := hide (show fitsBerth bs[b] fl[a] = false by rw [HSa.out, HSb.out, Int.toNat_natCast, Int.toNat_natCast, getD_at ha2, getD_at hbq2] at g4; exact g4)
          have HW := hide (allUpTo_bad hlt (show stayRow bs fl xs k = false by rw [HRW.out, HFit.out, HD.out]; rfl))
          clear g1 g2 g3 g4
          have C0 := fun w : World => calls_bool (isIndexB (a : Int) (fl.length : Int) ((fl.length : Int) - 1) w (by omega)) HA.out
          have C1 := fun w : World => calls_bool (isIndexB (b : Int) (bs.length : Int) ((bs.length : Int) - 1) w (by omega)) HB.out
          have C2 := fun w : World => calls_bool (impl_lasts_any (a : Int) (b : Int) xs[k].start xs[k].fin w) (show lasts ⟨(a : Int), (b : Int), xs[k].start, xs[k].fin⟩ = true by have h := HC2.out; unfold lasts at h ⊢; exact h)
          have C3 := fun w : World => calls_bool (impl_FitsBerth_any bs[b] fl[a] w hsz) HD.out
          refine wp_region_below (Below.refl W0.heap.size _) (by kernel_rfl) (by kernel_rfl) ?_
          repeat (first
            | go_big_quiet_skip
            | (go_big_quiet_want
               first
                | (refine quiet_value ?_; apply Exists.intro
                   refine ⟨fun wq hq => ?_, ?_⟩
                   · (obtain ⟨hc, hf⟩ := bcell hq; go_simp; first | done | rfl)
                   go_big_quiet_on
                   simp only [Act.put, List.setIfInBounds_toArray, List.set_cons_zero, List.set_cons_succ])
                | (refine quiet_call ?_; apply Exists.intro; apply Exists.intro; apply Exists.intro
                   refine ⟨fun wq hq => ?_, fun wq hq => ?_, ?_⟩
                   · (obtain ⟨hc, hf⟩ := bcell hq; go_simp; exact ⟨rfl, rfl⟩)
                   · (first | with_reducible exact (C0 _).mono fun e w'' ⟨he, hw⟩ => ⟨he, hw ▸ hq⟩ | with_reducible exact (C0 _).mono fun e w'' ⟨he, hb'⟩ => ⟨he, bnext hq hb'⟩ | with_reducible exact (C1 _).mono fun e w'' ⟨he, hw⟩ => ⟨he, hw ▸ hq⟩ | with_reducible exact (C1 _).mono fun e w'' ⟨he, hb'⟩ => ⟨he, bnext hq hb'⟩ | with_reducible exact (C2 _).mono fun e w'' ⟨he, hw⟩ => ⟨he, hw ▸ hq⟩ | with_reducible exact (C2 _).mono fun e w'' ⟨he, hb'⟩ => ⟨he, bnext hq hb'⟩ | with_reducible exact (C3 _).mono fun e w'' ⟨he, hw⟩ => ⟨he, hw ▸ hq⟩ | with_reducible exact (C3 _).mono fun e w'' ⟨he, hb'⟩ => ⟨he, bnext hq hb'⟩ |  exact (C0 _).mono fun e w'' ⟨he, hb'⟩ => ⟨he, bnext hq hb'⟩ |  exact (C0 _).mono fun e w'' ⟨he, hw⟩ => ⟨he, hw ▸ hq⟩ |  exact (C1 _).mono fun e w'' ⟨he, hb'⟩ => ⟨he, bnext hq hb'⟩ |  exact (C1 _).mono fun e w'' ⟨he, hw⟩ => ⟨he, hw ▸ hq⟩ |  exact (C2 _).mono fun e w'' ⟨he, hb'⟩ => ⟨he, bnext hq hb'⟩ |  exact (C2 _).mono fun e w'' ⟨he, hw⟩ => ⟨he, hw ▸ hq⟩ |  exact (C3 _).mono fun e w'' ⟨he, hb'⟩ => ⟨he, bnext hq hb'⟩ |  exact (C3 _).mono fun e w'' ⟨he, hw⟩ => ⟨he, hw ▸ hq⟩)
                   go_big_quiet_on
                   simp only [Act.put, List.setIfInBounds_toArray, List.set_cons_zero, List.set_cons_succ])
                | (go_big_quiet_op; go_big_quiet_on)
               ))
          refine wpQuiet_nil (fun wq hbq => ?_)
          clear C0 C1 C2 C3
          go_wp2
          go_ret
          exact ⟨by simp [staysOk, HW.out], (by repeat (first | exact Below.refl _ _ | assumption | refine Below.setCell ?_ (by first | omega | (simp <;> omega)) _ | refine Below.alloc ?_ (by first | omega | (simp <;> omega)) _ | refine below_drewN ?_ _ | refine Below.drew ?_ | refine Below.trans ?_ (Below.mono (by assumption) (by first | omega | (simp <;> omega)))))⟩
      · obtain rfl : k = xs.length := by omega
        go_wp2
        go_ret
        exact ⟨by have := HL.out; simp [staysOk, G1.out, G2.out, HN.out]; omega, hb0⟩
  all_goals
    have HF := hide (show staysOk bs fl xs = false by unfold staysOk; simp [*] <;> (simp at g3; omega))
    try (have l12 : (12 : Int) < (xs.length : Int) := by simp at g3; omega)
    try clear g3
    clear h1 h2 h3
    go_enter Try.func39, Try.ntmps39
    go_wp2_with (first
      | (go_at_call 27; refine (impl_BerthsOk_any _ bs _ ((HR1.out.keep (B' := w.heap.size) (by repeat (first | exact Below.refl _ _ | assumption | refine Below.setCell ?_ (by first | omega | (simp <;> omega)) _ | refine Below.alloc ?_ (by first | omega | (simp <;> omega)) _ | refine below_drewN ?_ _ | refine Below.drew ?_ | refine Below.trans ?_ (Below.mono (by assumption) (by first | omega | (simp <;> omega))))) (Nat.le_refl _)).mono (by first | omega | (simp <;> omega))) hokb).mono ?_; rintro e w1 ⟨rfl, hb'⟩; (first | have hb := bnext hb hb' | have hb := bnextA hb hb' | have hb := hb'); clear hb'; obtain ⟨hc, hf⟩ := bcell hb; have hz := hb.size; (try simp at hz))
      | (go_at_call 35; refine (impl_FleetOk_any _ fl _ ((HR2.out.keep (B' := w.heap.size) (by repeat (first | exact Below.refl _ _ | assumption | refine Below.setCell ?_ (by first | omega | (simp <;> omega)) _ | refine Below.alloc ?_ (by first | omega | (simp <;> omega)) _ | refine below_drewN ?_ _ | refine Below.drew ?_ | refine Below.trans ?_ (Below.mono (by assumption) (by first | omega | (simp <;> omega))))) (Nat.le_refl _)).mono (by first | omega | (simp <;> omega))) hokf).mono ?_; rintro e w1 ⟨rfl, hb'⟩; (first | have hb := bnext hb hb' | have hb := bnextA hb hb' | have hb := hb'); clear hb'; obtain ⟨hc, hf⟩ := bcell hb; have hz := hb.size; (try simp at hz)))
    go_ret
    exact ⟨by rw [HF.out]; first | done | rfl, (by repeat (first | exact Below.refl _ _ | assumption | refine Below.setCell ?_ (by first | omega | (simp <;> omega)) _ | refine Below.alloc ?_ (by first | omega | (simp <;> omega)) _ | refine below_drewN ?_ _ | refine Below.drew ?_ | refine Below.trans ?_ (Below.mono (by assumption) (by first | omega | (simp <;> omega)))))⟩
end Go.Proofs.Ytjfppjhlkeopnaa
