/- Berths given to stays. No condition. -/
import Derived.Test.YtjfppjhlkeopnaaFind
namespace Go.Proofs.Ytjfppjhlkeopnaa
open Go.RowKit
set_option linter.unusedVariables false

def firstSome {β : Type} (f : Nat → Option β) : Nat → Option β
  | 0 => none
  | k + 1 => match firstSome f k with
    | some y => some y
    | none => f k
theorem firstSome_step {β : Type} {f : Nat → Option β} {k : Nat} (h : firstSome f k = none) (hk : f k = none) : firstSome f (k + 1) = none := by rw [firstSome, h]; exact hk
theorem firstSome_hit {β : Type} {f : Nat → Option β} {k : Nat} {y : β} (h : firstSome f k = none) (hk : f k = some y) : ∀ {n : Nat}, k < n → firstSome f n = some y
  | 0, h1 => by omega
  | n + 1, h1 => by
    rw [firstSome]
    by_cases e : k = n
    · subst e; rw [h]; exact hk
    · rw [firstSome_hit h hk (n := n) (by omega)]
theorem firstSome_none {β : Type} {f : Nat → Option β} (h : ∀ k, f k = none) : ∀ n, firstSome f n = none
  | 0 => rfl
  | n + 1 => firstSome_step (firstSome_none h n) (h n)
def askAt (asks d : List StayD) (b : Int) : StayD := ⟨(asks.getD d.length default).ship, b, (asks.getD d.length default).start, (asks.getD d.length default).fin⟩
def allotL (bs : List BerthD) (fl : List ShipD) (asks : List StayD) : Nat → List StayD → Option (List StayD)
  | 0, d => if staysOk bs fl d = true then some d else none
  | n + 1, d => firstSome (fun b : Nat => if staysOk bs fl (d ++ [askAt asks d (b : Int)]) = true then allotL bs fl asks n (d ++ [askAt asks d (b : Int)]) else none) bs.length
def allotBerths (bs : List BerthD) (fl : List ShipD) (asks : List StayD) : Option (List StayD) := if asks.length ≤ 6 then allotL bs fl asks asks.length [] else none
theorem staysOk_nil {bs : List BerthD} {fl : List ShipD} {d : List StayD} (h : staysOk bs fl [] = false) : staysOk bs fl d = false := by
  have e : staysOk bs fl [] = (berthsOk bs && fleetOk fl) := by unfold staysOk; simp [allUpTo]
  rw [e] at h
  unfold staysOk; rw [h]; simp
theorem allotL_nil {bs : List BerthD} {fl : List ShipD} {asks : List StayD} (h : staysOk bs fl [] = false) : ∀ (n : Nat) (d : List StayD), allotL bs fl asks n d = none
  | 0, d => by rw [allotL, if_neg (by rw [staysOk_nil h]; simp)]
  | n + 1, d => by rw [allotL]; exact firstSome_none (fun b => by rw [if_neg (by rw [staysOk_nil h]; simp)]) _
theorem firstSome_mem {β : Type} {f : Nat → Option β} {y : β} : ∀ {n : Nat}, firstSome f n = some y → ∃ k, f k = some y
  | 0, h => by cases h
  | n + 1, h => by
    rw [firstSome] at h
    cases hq : firstSome f n with
    | some z => rw [hq] at h; exact firstSome_mem (hq.trans h)
    | none => rw [hq] at h; exact ⟨n, h⟩
theorem allotL_len {bs : List BerthD} {fl : List ShipD} {asks : List StayD} : ∀ {n : Nat} {d ys : List StayD}, allotL bs fl asks n d = some ys → ys.length = n + d.length
  | 0, d, ys, h => by
    rw [allotL] at h; split at h
    · have := Option.some.inj h; subst this; simp
    · cases h
  | n + 1, d, ys, h => by
    rw [allotL] at h
    obtain ⟨k, hk⟩ := firstSome_mem h
    split at hk
    · have := allotL_len hk; simp at this; omega
    · cases hk
theorem allot_len (bs : List BerthD) (fl : List ShipD) (asks : List StayD) : ((allotBerths bs fl asks).getD []).length ≤ 6 := by
  unfold allotBerths; split
  · cases hq : allotL bs fl asks asks.length [] with
    | none => simp
    | some ys => have := allotL_len hq; simp at this ⊢; omega
  · simp
def AllotRes (w' : World) (lo : Nat) (v vd : Value) (o : Option (List StayD)) : Prop := (∀ ys, o = some ys → Own w' lo 97 4 StayD.enc v ys) ∧ (o = none → v = .slice none 0 0 ∨ v = vd)
set_option maxRecDepth 100000 in
set_option maxHeartbeats 16000000 in
theorem l12Allot_any (v1 v2 v3 : Value) (bs : List BerthD) (fl : List ShipD) (asks : List StayD) : ∀ (n : Nat) (d : List StayD) (vd : Value) (lo : Nat) (w : World), RdBerth w v1 bs → RdShip w v2 fl → RdStay w v3 asks → Own w lo 97 4 StayD.enc vd d → lo ≤ w.heap.size → asks.length = n + d.length → asks.length ≤ 6 →
    (∀ x ∈ bs, x.name.size ≤ maxLen) → (∀ x ∈ fl, x.ok) →
    Calls Try.prog 82 #[v1, v2, v3, vd] w fun e w' => ∃ v, e = .returned (.tuple #[v, .bool (allotL bs fl asks n d).isSome]) ∧ AllotRes w' lo v vd (allotL bs fl asks n d) ∧ Below w.heap.size w w' := by
  intro n
  induction n with
  | zero =>
    intro d vd lo w h1 h2 h3 ho hlo hlen hle hokb hokf
    have HR1 := hide h1; have HR2 := hide h2; have HR3 := hide h3; have HO := hide ho
    have hrd := Own.rd StayD.enc_len ho
    have HRD := hide hrd
    obtain ⟨A1, c1, rfl, hc1, hm1, h1⟩ := h1
    obtain ⟨A2, c2, rfl, hc2, hm2, h2⟩ := h2
    obtain ⟨A3, c3, rfl, hc3, hm3, h3⟩ := h3
    obtain ⟨A4, c4, rfl, hc4, hm4, h4⟩ := hrd
    unfold maxLen at hm1 hm2 hm3 hm4
    clear h1 h2 h3 h4 ho
    have hln : asks.length = d.length := by omega
    have hln' : ((d.length : Int) == (asks.length : Int)) = true := by simp; omega
    have HL := hide hln; clear hln hlen
    rcases ch1 (staysOk bs fl d) with g | g
    all_goals
      have HG := hide g
      go_enter Try.func82, Try.ntmps82
      go_wp2_with (go_at_call 37; with_reducible refine (spec_StaysOk_any _ _ _ bs fl d _ ((HR1.out.keep (B' := w.heap.size) (by repeat (first | exact Below.refl _ _ | assumption | refine Below.setCell ?_ (by first | omega | (simp <;> omega)) _ | refine Below.alloc ?_ (by first | omega | (simp <;> omega)) _ | refine below_drewN ?_ _ | refine Below.drew ?_ | refine Below.trans ?_ (Below.mono (by assumption) (by first | omega | (simp <;> omega))))) (Nat.le_refl _)).mono (by first | omega | (simp <;> omega))) ((HR2.out.keep (B' := w.heap.size) (by repeat (first | exact Below.refl _ _ | assumption | refine Below.setCell ?_ (by first | omega | (simp <;> omega)) _ | refine Below.alloc ?_ (by first | omega | (simp <;> omega)) _ | refine below_drewN ?_ _ | refine Below.drew ?_ | refine Below.trans ?_ (Below.mono (by assumption) (by first | omega | (simp <;> omega))))) (Nat.le_refl _)).mono (by first | omega | (simp <;> omega))) HRD.out hokb hokf).mono ?_; rintro e w1 ⟨rfl, hb'⟩; have ho := HO.out.below hb'; (first | have hb := bnext hb hb' | have hb := bnextA hb hb' | have hb := hb'); clear hb'; obtain ⟨hc, hf⟩ := bcell hb; have hz := hb.size; (try simp at hz))
      go_ret2
      refine ⟨_, by rw [allotL, HG.out]; rfl, ⟨fun ys hy => ?_, fun hn => .inr rfl⟩, (by repeat (first | exact Below.refl _ _ | assumption | refine Below.setCell ?_ (by first | omega | (simp <;> omega)) _ | refine Below.alloc ?_ (by first | omega | (simp <;> omega)) _ | refine below_drewN ?_ _ | refine Below.drew ?_ | refine Below.trans ?_ (Below.mono (by assumption) (by first | omega | (simp <;> omega)))))⟩
      rw [allotL, HG.out] at hy; simp at hy
      try (subst hy; exact ho)
  | succ n ih =>
    intro d vd lo w h1 h2 h3 ho hlo hlen hle hokb hokf
    have HR1 := hide h1; have HR2 := hide h2; have HR3 := hide h3; have HO := hide ho
    have hrd := Own.rd StayD.enc_len ho
    have HRD := hide hrd
    obtain ⟨A1, c1, rfl, hc1, hm1, h1⟩ := h1
    obtain ⟨A2, c2, rfl, hc2, hm2, h2⟩ := h2
    obtain ⟨A3, c3, rfl, hc3, hm3, h3⟩ := h3
    obtain ⟨A4, c4, rfl, hc4, hm4, h4⟩ := hrd
    unfold maxLen at hm1 hm2 hm3 hm4
    have hdl : d.length < asks.length := by omega
    have hd7 : d.length ≤ 6 := by omega
    obtain ⟨b3, o3, rfl, hb3, hcell3⟩ := h3 (by omega)
    have hrr := Below.refl w.heap.size w
    have e0 : w.cell? ⟨b3, o3 + d.length * 4, none⟩ = some (.int .i64 asks[d.length].ship) := by
      rw [hrr.cell (p := ⟨b3, _, none⟩) hb3]; have := hcell3 d.length asks[d.length] (List.getElem?_eq_getElem hdl) 0 _ rfl; simpa using this
    have e1 : w.cell? ⟨b3, o3 + d.length * 4 + 1, none⟩ = some (.int .i64 asks[d.length].berth) := by
      rw [hrr.cell (p := ⟨b3, _, none⟩) hb3]; have := hcell3 d.length asks[d.length] (List.getElem?_eq_getElem hdl) 1 _ rfl; simpa using this
    have e2 : w.cell? ⟨b3, o3 + d.length * 4 + 2, none⟩ = some (.int .i64 asks[d.length].start) := by
      rw [hrr.cell (p := ⟨b3, _, none⟩) hb3]; have := hcell3 d.length asks[d.length] (List.getElem?_eq_getElem hdl) 2 _ rfl; simpa using this
    have e3 : w.cell? ⟨b3, o3 + d.length * 4 + 3, none⟩ = some (.int .i64 asks[d.length].fin) := by
      rw [hrr.cell (p := ⟨b3, _, none⟩) hb3]; have := hcell3 d.length asks[d.length] (List.getElem?_eq_getElem hdl) 3 _ rfl; simpa using this
    have HASK := hide (show ∀ b : Int, askAt asks d b = ⟨asks[d.length].ship, b, asks[d.length].start, asks[d.length].fin⟩ by intro b; unfold askAt; rw [getD_at hdl])
    clear h1 h2 hcell3 h4 hrr ho
    obtain ⟨a, ha⟩ : ∃ a, asks[d.length] = a := ⟨_, rfl⟩
    rw [ha] at e0 e1 e2 e3 HASK
    have hln' : ((d.length : Int) == (asks.length : Int)) = false := by rw [beq_eq_false_iff_ne]; omega
    have hdl' : (d.length : Int) < asks.length := by omega
    have HLEN := hide hlen; clear hlen
    have HAL := hide (show allotL bs fl asks (n + 1) d = firstSome (fun b : Nat => if staysOk bs fl (d ++ [(⟨a.ship, (b : Int), a.start, a.fin⟩ : StayD)]) = true then allotL bs fl asks n (d ++ [(⟨a.ship, (b : Int), a.start, a.fin⟩ : StayD)]) else none) bs.length by
      rw [allotL]; congr 1; funext b; rw [HASK.out])
    clear HASK ha
    go_enter Try.func82, Try.ntmps82
    go_wp2
    go_loopw [32] (fun i wr => ∃ k : Nat, k ≤ bs.length ∧ i = .int .i64 k ∧ Hid (firstSome (fun b : Nat => if staysOk bs fl (d ++ [(⟨a.ship, (b : Int), a.start, a.fin⟩ : StayD)]) = true then allotL bs fl asks n (d ++ [(⟨a.ship, (b : Int), a.start, a.fin⟩ : StayD)]) else none) k = none) ∧ wr.cell? ⟨w.heap.size, 0, none⟩ = some (.int .i64 a.ship) ∧ (∃ u, wr.cell? ⟨w.heap.size, 1, none⟩ = some u) ∧ wr.cell? ⟨w.heap.size, 2, none⟩ = some (.int .i64 a.start) ∧ wr.cell? ⟨w.heap.size, 3, none⟩ = some (.int .i64 a.fin) ∧ wr.frozen? ⟨w.heap.size, 1, none⟩ = false ∧ w.heap.size < wr.heap.size ∧ Below w.heap.size w wr) (fun i _ => bs.length - (intOf i).toNat)
    case atStart => exact ⟨0, Nat.zero_le _, rfl, hide rfl, by simp [go_sem], ⟨_, by simp [go_sem]; rfl⟩, by simp [go_sem], by simp [go_sem], by simp [go_sem], by simp, (by repeat (first | exact Below.refl _ _ | assumption | refine Below.setCell ?_ (by first | omega | (simp <;> omega)) _ | refine Below.alloc ?_ (by first | omega | (simp <;> omega)) _ | refine below_drewN ?_ _ | refine Below.drew ?_ | refine Below.trans ?_ (Below.mono (by assumption) (by first | omega | (simp <;> omega)))))⟩
    case round =>
      obtain ⟨k, hk, rfl, HN, z0, ⟨u1, z1⟩, z2, z3, z4, hl1, hbk⟩ := hrel
      obtain ⟨wo, rfl⟩ : ∃ wo : World, wo = wr := ⟨_, rfl⟩
      have hbs := hbk.size
      clear e0 e1 e2 e3
      by_cases hlt : k < bs.length
      · rcases ch2 (staysOk bs fl (d ++ [(⟨a.ship, (k : Int), a.start, a.fin⟩ : StayD)])) (allotL bs fl asks n (d ++ [(⟨a.ship, (k : Int), a.start, a.fin⟩ : StayD)])).isSome with ⟨q1, q2⟩ | q1 | ⟨q1, q2⟩
        · have Q1 := hide q1; have Q2 := hide q2
          go_wp2_with fail
          have hrd := (HRD.out.keep hbk (Nat.le_refl _)).mono (Nat.le_of_lt hl1)
          refine (l12With_any _ d ⟨a.ship, (k : Int), a.start, a.fin⟩ _ (RdB.mono (RdB.keep HRD.out (B' := w.heap.size) (by repeat (first | exact Below.refl _ _ | assumption | refine Below.setCell ?_ (by first | omega | (simp <;> omega)) _ | refine Below.alloc ?_ (by first | omega | (simp <;> omega)) _ | refine below_drewN ?_ _ | refine Below.drew ?_ | refine Below.trans ?_ (Below.mono (by assumption) (by first | omega | (simp <;> omega))))) (Nat.le_refl _)) (by simp [World.setCell]; omega)) (by omega)).mono ?_; rintro e w1 ⟨u, rfl, hown, hb'⟩
          have hr1 := Own.rd StayD.enc_len hown
          have hsx := hb'.size
          simp [World.setCell] at hsx
          have hown := hown.mono (base' := w.heap.size) (by simp [World.setCell]; omega)
          have hb : Below w.heap.size w w1 := Below.trans (b := wo.setCell ⟨w.heap.size, 1, none⟩ (.int .i64 k)) (by repeat (first | exact Below.refl _ _ | assumption | refine Below.setCell ?_ (by first | omega | (simp <;> omega)) _ | refine Below.alloc ?_ (by first | omega | (simp <;> omega)) _ | refine below_drewN ?_ _ | refine Below.drew ?_ | refine Below.trans ?_ (Below.mono (by assumption) (by first | omega | (simp <;> omega))))) (hb'.mono (by simp [World.setCell]; omega))
          have c0 : w1.cell? ⟨w.heap.size, 0, none⟩ = some (.int .i64 a.ship) := cellKeep hb' (by simp [go_sem, z0]) (by simp [World.setCell]; omega)
          have c1 : w1.cell? ⟨w.heap.size, 1, none⟩ = some (.int .i64 k) := cellKeep hb' (by simp [go_sem, z1]) (by simp [World.setCell]; omega)
          have c2 : w1.cell? ⟨w.heap.size, 2, none⟩ = some (.int .i64 a.start) := cellKeep hb' (by simp [go_sem, z2]) (by simp [World.setCell]; omega)
          have c3 : w1.cell? ⟨w.heap.size, 3, none⟩ = some (.int .i64 a.fin) := cellKeep hb' (by simp [go_sem, z3]) (by simp [World.setCell]; omega)
          have c4 : w1.frozen? ⟨w.heap.size, 1, none⟩ = false := by rw [(bcell hb').2 _ _ (by simp [World.setCell]; omega)]; simp [go_sem, z4]
          have hl2 : w.heap.size < w1.heap.size := by omega
          clear hb' hrd z0 z1 z2 z3 z4
          obtain ⟨hc, hf⟩ := bcell hb; have hz := hb.size
          have hbb := Below.refl w1.heap.size w1
          go_wp2_with (first | (go_at_call 37; with_reducible refine (spec_StaysOk_any _ _ _ bs fl (d ++ [(⟨a.ship, (k : Int), a.start, a.fin⟩ : StayD)]) _ ((HR1.out.keep (B' := w.heap.size) (by repeat (first | exact Below.refl _ _ | assumption | refine Below.setCell ?_ (by first | omega | (simp <;> omega)) _ | refine Below.alloc ?_ (by first | omega | (simp <;> omega)) _ | refine below_drewN ?_ _ | refine Below.drew ?_ | refine Below.trans ?_ (Below.mono (by assumption) (by first | omega | (simp <;> omega))))) (Nat.le_refl _)).mono (by first | omega | (simp <;> omega))) ((HR2.out.keep (B' := w.heap.size) (by repeat (first | exact Below.refl _ _ | assumption | refine Below.setCell ?_ (by first | omega | (simp <;> omega)) _ | refine Below.alloc ?_ (by first | omega | (simp <;> omega)) _ | refine below_drewN ?_ _ | refine Below.drew ?_ | refine Below.trans ?_ (Below.mono (by assumption) (by first | omega | (simp <;> omega))))) (Nat.le_refl _)).mono (by first | omega | (simp <;> omega))) hr1 hokb hokf).mono ?_; rintro e w2 ⟨rfl, hb'⟩; have ho1 := hown.below hb'; have hx1 := hb'.size; have hbb := bnext hbb hb' (Nat.le_refl _); (first | have hb := bnext hb hb' | have hb := bnextA hb hb' | have hb := hb'); clear hb'; obtain ⟨hc, hf⟩ := bcell hb; have hz := hb.size; (try simp at hz)) | (go_at_call 82; with_reducible refine (ih (d ++ [(⟨a.ship, (k : Int), a.start, a.fin⟩ : StayD)]) _ lo _ ((HR1.out.keep (B' := w.heap.size) (by repeat (first | exact Below.refl _ _ | assumption | refine Below.setCell ?_ (by first | omega | (simp <;> omega)) _ | refine Below.alloc ?_ (by first | omega | (simp <;> omega)) _ | refine below_drewN ?_ _ | refine Below.drew ?_ | refine Below.trans ?_ (Below.mono (by assumption) (by first | omega | (simp <;> omega))))) (Nat.le_refl _)).mono (by first | omega | (simp <;> omega))) ((HR2.out.keep (B' := w.heap.size) (by repeat (first | exact Below.refl _ _ | assumption | refine Below.setCell ?_ (by first | omega | (simp <;> omega)) _ | refine Below.alloc ?_ (by first | omega | (simp <;> omega)) _ | refine below_drewN ?_ _ | refine Below.drew ?_ | refine Below.trans ?_ (Below.mono (by assumption) (by first | omega | (simp <;> omega))))) (Nat.le_refl _)).mono (by first | omega | (simp <;> omega))) ((HR3.out.keep (B' := w.heap.size) (by repeat (first | exact Below.refl _ _ | assumption | refine Below.setCell ?_ (by first | omega | (simp <;> omega)) _ | refine Below.alloc ?_ (by first | omega | (simp <;> omega)) _ | refine below_drewN ?_ _ | refine Below.drew ?_ | refine Below.trans ?_ (Below.mono (by assumption) (by first | omega | (simp <;> omega))))) (Nat.le_refl _)).mono (by first | omega | (simp <;> omega))) (ho1.mono (by omega)) (by omega) (by have h9 := HLEN.out; simp; omega) hle hokb hokf).mono ?_; rintro e w3 ⟨v3', rfl, hres, hb'⟩; have hbb := bnext hbb hb' (by omega); (first | have hb := bnext hb hb' | have hb := bnextA hb hb' | have hb := hb'); clear hb'; obtain ⟨hc, hf⟩ := bcell hb; have hz := hb.size; (try simp at hz)))
          go_ret2
          obtain ⟨ys, hys⟩ := Option.isSome_iff_exists.1 Q2.out
          have hA : allotL bs fl asks (n + 1) d = some ys := by rw [HAL.out]; exact firstSome_hit HN.out (by simp only [Q1.out, if_true]; exact hys) hlt
          exact ⟨_, by rw [hA]; rfl, ⟨(fun zs hz => by rw [hA] at hz; have := Option.some.inj hz; subst this; exact hres.1 _ hys), (fun hn => by rw [hA] at hn; cases hn)⟩, (by repeat (first | exact Below.refl _ _ | assumption | refine Below.setCell ?_ (by first | omega | (simp <;> omega)) _ | refine Below.alloc ?_ (by first | omega | (simp <;> omega)) _ | refine below_drewN ?_ _ | refine Below.drew ?_ | refine Below.trans ?_ (Below.mono (by assumption) (by first | omega | (simp <;> omega)))))⟩
        · have Q1 := hide q1
          go_wp2_with fail
          have hrd := (HRD.out.keep hbk (Nat.le_refl _)).mono (Nat.le_of_lt hl1)
          refine (l12With_any _ d ⟨a.ship, (k : Int), a.start, a.fin⟩ _ (RdB.mono (RdB.keep HRD.out (B' := w.heap.size) (by repeat (first | exact Below.refl _ _ | assumption | refine Below.setCell ?_ (by first | omega | (simp <;> omega)) _ | refine Below.alloc ?_ (by first | omega | (simp <;> omega)) _ | refine below_drewN ?_ _ | refine Below.drew ?_ | refine Below.trans ?_ (Below.mono (by assumption) (by first | omega | (simp <;> omega))))) (Nat.le_refl _)) (by simp [World.setCell]; omega)) (by omega)).mono ?_; rintro e w1 ⟨u, rfl, hown, hb'⟩
          have hr1 := Own.rd StayD.enc_len hown
          have hsx := hb'.size
          simp [World.setCell] at hsx
          have hown := hown.mono (base' := w.heap.size) (by simp [World.setCell]; omega)
          have hb : Below w.heap.size w w1 := Below.trans (b := wo.setCell ⟨w.heap.size, 1, none⟩ (.int .i64 k)) (by repeat (first | exact Below.refl _ _ | assumption | refine Below.setCell ?_ (by first | omega | (simp <;> omega)) _ | refine Below.alloc ?_ (by first | omega | (simp <;> omega)) _ | refine below_drewN ?_ _ | refine Below.drew ?_ | refine Below.trans ?_ (Below.mono (by assumption) (by first | omega | (simp <;> omega))))) (hb'.mono (by simp [World.setCell]; omega))
          have c0 : w1.cell? ⟨w.heap.size, 0, none⟩ = some (.int .i64 a.ship) := cellKeep hb' (by simp [go_sem, z0]) (by simp [World.setCell]; omega)
          have c1 : w1.cell? ⟨w.heap.size, 1, none⟩ = some (.int .i64 k) := cellKeep hb' (by simp [go_sem, z1]) (by simp [World.setCell]; omega)
          have c2 : w1.cell? ⟨w.heap.size, 2, none⟩ = some (.int .i64 a.start) := cellKeep hb' (by simp [go_sem, z2]) (by simp [World.setCell]; omega)
          have c3 : w1.cell? ⟨w.heap.size, 3, none⟩ = some (.int .i64 a.fin) := cellKeep hb' (by simp [go_sem, z3]) (by simp [World.setCell]; omega)
          have c4 : w1.frozen? ⟨w.heap.size, 1, none⟩ = false := by rw [(bcell hb').2 _ _ (by simp [World.setCell]; omega)]; simp [go_sem, z4]
          have hl2 : w.heap.size < w1.heap.size := by omega
          clear hb' hrd z0 z1 z2 z3 z4
          obtain ⟨hc, hf⟩ := bcell hb; have hz := hb.size
          have hbb := Below.refl w1.heap.size w1
          go_wp2_with (first | (go_at_call 37; with_reducible refine (spec_StaysOk_any _ _ _ bs fl (d ++ [(⟨a.ship, (k : Int), a.start, a.fin⟩ : StayD)]) _ ((HR1.out.keep (B' := w.heap.size) (by repeat (first | exact Below.refl _ _ | assumption | refine Below.setCell ?_ (by first | omega | (simp <;> omega)) _ | refine Below.alloc ?_ (by first | omega | (simp <;> omega)) _ | refine below_drewN ?_ _ | refine Below.drew ?_ | refine Below.trans ?_ (Below.mono (by assumption) (by first | omega | (simp <;> omega))))) (Nat.le_refl _)).mono (by first | omega | (simp <;> omega))) ((HR2.out.keep (B' := w.heap.size) (by repeat (first | exact Below.refl _ _ | assumption | refine Below.setCell ?_ (by first | omega | (simp <;> omega)) _ | refine Below.alloc ?_ (by first | omega | (simp <;> omega)) _ | refine below_drewN ?_ _ | refine Below.drew ?_ | refine Below.trans ?_ (Below.mono (by assumption) (by first | omega | (simp <;> omega))))) (Nat.le_refl _)).mono (by first | omega | (simp <;> omega))) hr1 hokb hokf).mono ?_; rintro e w2 ⟨rfl, hb'⟩; have ho1 := hown.below hb'; have hx1 := hb'.size; have hbb := bnext hbb hb' (Nat.le_refl _); (first | have hb := bnext hb hb' | have hb := bnextA hb hb' | have hb := hb'); clear hb'; obtain ⟨hc, hf⟩ := bcell hb; have hz := hb.size; (try simp at hz)))
          go_roundw
          case rel => exact ⟨k + 1, by omega, by go_num, hide (firstSome_step HN.out (by rw [if_neg (by rw [Q1.out]; simp)])), cellKeep (B := w1.heap.size) (w1 := w1) hbb c0 hl2, ⟨_, cellKeep (B := w1.heap.size) (w1 := w1) hbb c1 hl2⟩, cellKeep (B := w1.heap.size) (w1 := w1) hbb c2 hl2, cellKeep (B := w1.heap.size) (w1 := w1) hbb c3 hl2, by rw [(bcell (B := w1.heap.size) (W := w1) hbb).2 _ _ hl2]; exact c4, by have := hbb.size; omega, hb⟩
          case measure => simp [intOf]; omega
        · have Q1 := hide q1; have Q2 := hide q2
          go_wp2_with fail
          have hrd := (HRD.out.keep hbk (Nat.le_refl _)).mono (Nat.le_of_lt hl1)
          refine (l12With_any _ d ⟨a.ship, (k : Int), a.start, a.fin⟩ _ (RdB.mono (RdB.keep HRD.out (B' := w.heap.size) (by repeat (first | exact Below.refl _ _ | assumption | refine Below.setCell ?_ (by first | omega | (simp <;> omega)) _ | refine Below.alloc ?_ (by first | omega | (simp <;> omega)) _ | refine below_drewN ?_ _ | refine Below.drew ?_ | refine Below.trans ?_ (Below.mono (by assumption) (by first | omega | (simp <;> omega))))) (Nat.le_refl _)) (by simp [World.setCell]; omega)) (by omega)).mono ?_; rintro e w1 ⟨u, rfl, hown, hb'⟩
          have hr1 := Own.rd StayD.enc_len hown
          have hsx := hb'.size
          simp [World.setCell] at hsx
          have hown := hown.mono (base' := w.heap.size) (by simp [World.setCell]; omega)
          have hb : Below w.heap.size w w1 := Below.trans (b := wo.setCell ⟨w.heap.size, 1, none⟩ (.int .i64 k)) (by repeat (first | exact Below.refl _ _ | assumption | refine Below.setCell ?_ (by first | omega | (simp <;> omega)) _ | refine Below.alloc ?_ (by first | omega | (simp <;> omega)) _ | refine below_drewN ?_ _ | refine Below.drew ?_ | refine Below.trans ?_ (Below.mono (by assumption) (by first | omega | (simp <;> omega))))) (hb'.mono (by simp [World.setCell]; omega))
          have c0 : w1.cell? ⟨w.heap.size, 0, none⟩ = some (.int .i64 a.ship) := cellKeep hb' (by simp [go_sem, z0]) (by simp [World.setCell]; omega)
          have c1 : w1.cell? ⟨w.heap.size, 1, none⟩ = some (.int .i64 k) := cellKeep hb' (by simp [go_sem, z1]) (by simp [World.setCell]; omega)
          have c2 : w1.cell? ⟨w.heap.size, 2, none⟩ = some (.int .i64 a.start) := cellKeep hb' (by simp [go_sem, z2]) (by simp [World.setCell]; omega)
          have c3 : w1.cell? ⟨w.heap.size, 3, none⟩ = some (.int .i64 a.fin) := cellKeep hb' (by simp [go_sem, z3]) (by simp [World.setCell]; omega)
          have c4 : w1.frozen? ⟨w.heap.size, 1, none⟩ = false := by rw [(bcell hb').2 _ _ (by simp [World.setCell]; omega)]; simp [go_sem, z4]
          have hl2 : w.heap.size < w1.heap.size := by omega
          clear hb' hrd z0 z1 z2 z3 z4
          obtain ⟨hc, hf⟩ := bcell hb; have hz := hb.size
          have hbb := Below.refl w1.heap.size w1
          go_wp2_with (first | (go_at_call 37; with_reducible refine (spec_StaysOk_any _ _ _ bs fl (d ++ [(⟨a.ship, (k : Int), a.start, a.fin⟩ : StayD)]) _ ((HR1.out.keep (B' := w.heap.size) (by repeat (first | exact Below.refl _ _ | assumption | refine Below.setCell ?_ (by first | omega | (simp <;> omega)) _ | refine Below.alloc ?_ (by first | omega | (simp <;> omega)) _ | refine below_drewN ?_ _ | refine Below.drew ?_ | refine Below.trans ?_ (Below.mono (by assumption) (by first | omega | (simp <;> omega))))) (Nat.le_refl _)).mono (by first | omega | (simp <;> omega))) ((HR2.out.keep (B' := w.heap.size) (by repeat (first | exact Below.refl _ _ | assumption | refine Below.setCell ?_ (by first | omega | (simp <;> omega)) _ | refine Below.alloc ?_ (by first | omega | (simp <;> omega)) _ | refine below_drewN ?_ _ | refine Below.drew ?_ | refine Below.trans ?_ (Below.mono (by assumption) (by first | omega | (simp <;> omega))))) (Nat.le_refl _)).mono (by first | omega | (simp <;> omega))) hr1 hokb hokf).mono ?_; rintro e w2 ⟨rfl, hb'⟩; have ho1 := hown.below hb'; have hx1 := hb'.size; have hbb := bnext hbb hb' (Nat.le_refl _); (first | have hb := bnext hb hb' | have hb := bnextA hb hb' | have hb := hb'); clear hb'; obtain ⟨hc, hf⟩ := bcell hb; have hz := hb.size; (try simp at hz)) | (go_at_call 82; with_reducible refine (ih (d ++ [(⟨a.ship, (k : Int), a.start, a.fin⟩ : StayD)]) _ lo _ ((HR1.out.keep (B' := w.heap.size) (by repeat (first | exact Below.refl _ _ | assumption | refine Below.setCell ?_ (by first | omega | (simp <;> omega)) _ | refine Below.alloc ?_ (by first | omega | (simp <;> omega)) _ | refine below_drewN ?_ _ | refine Below.drew ?_ | refine Below.trans ?_ (Below.mono (by assumption) (by first | omega | (simp <;> omega))))) (Nat.le_refl _)).mono (by first | omega | (simp <;> omega))) ((HR2.out.keep (B' := w.heap.size) (by repeat (first | exact Below.refl _ _ | assumption | refine Below.setCell ?_ (by first | omega | (simp <;> omega)) _ | refine Below.alloc ?_ (by first | omega | (simp <;> omega)) _ | refine below_drewN ?_ _ | refine Below.drew ?_ | refine Below.trans ?_ (Below.mono (by assumption) (by first | omega | (simp <;> omega))))) (Nat.le_refl _)).mono (by first | omega | (simp <;> omega))) ((HR3.out.keep (B' := w.heap.size) (by repeat (first | exact Below.refl _ _ | assumption | refine Below.setCell ?_ (by first | omega | (simp <;> omega)) _ | refine Below.alloc ?_ (by first | omega | (simp <;> omega)) _ | refine below_drewN ?_ _ | refine Below.drew ?_ | refine Below.trans ?_ (Below.mono (by assumption) (by first | omega | (simp <;> omega))))) (Nat.le_refl _)).mono (by first | omega | (simp <;> omega))) (ho1.mono (by omega)) (by omega) (by have h9 := HLEN.out; simp; omega) hle hokb hokf).mono ?_; rintro e w3 ⟨v3', rfl, hres, hb'⟩; have hbb := bnext hbb hb' (by omega); (first | have hb := bnext hb hb' | have hb := bnextA hb hb' | have hb := hb'); clear hb'; obtain ⟨hc, hf⟩ := bcell hb; have hz := hb.size; (try simp at hz)))
          go_roundw
          case rel => exact ⟨k + 1, by omega, by go_num, hide (firstSome_step HN.out (by rw [if_pos Q1.out]; simpa using Q2.out)), cellKeep (B := w1.heap.size) (w1 := w1) hbb c0 hl2, ⟨_, cellKeep (B := w1.heap.size) (w1 := w1) hbb c1 hl2⟩, cellKeep (B := w1.heap.size) (w1 := w1) hbb c2 hl2, cellKeep (B := w1.heap.size) (w1 := w1) hbb c3 hl2, by rw [(bcell (B := w1.heap.size) (W := w1) hbb).2 _ _ hl2]; exact c4, by have := hbb.size; omega, hb⟩
          case measure => simp [intOf]; omega
      · obtain rfl : k = bs.length := by omega
        go_wp2
        go_ret2
        have hA : allotL bs fl asks (n + 1) d = none := by rw [HAL.out]; exact HN.out
        exact ⟨_, by rw [hA]; rfl, ⟨(fun zs hz => by rw [hA] at hz; cases hz), fun _ => .inl rfl⟩, hbk⟩
set_option maxRecDepth 100000 in
set_option maxHeartbeats 16000000 in
theorem allot_any (v1 v2 v3 : Value) (bs : List BerthD) (fl : List ShipD) (asks : List StayD) : ∀ (n : Nat) (d : List StayD) (vd : Value) (lo : Nat) (w : World), RdBerth w v1 bs → RdShip w v2 fl → RdStay w v3 asks → Own w lo 97 4 StayD.enc vd d → lo ≤ w.heap.size → asks.length = n + d.length → asks.length ≤ 6 →
    (∀ x ∈ bs, x.name.size ≤ maxLen) → (∀ x ∈ fl, x.ok) → staysOk bs fl d = true →
    Calls Try.prog 83 #[v1, v2, v3, vd] w fun e w' => ∃ v, e = .returned (.tuple #[v, .bool (allotL bs fl asks n d).isSome]) ∧ AllotRes w' lo v vd (allotL bs fl asks n d) ∧ Below w.heap.size w w' := by
  intro n
  induction n with
  | zero =>
    intro d vd lo w h1 h2 h3 ho hlo hlen hle hokb hokf hds
    have HR1 := hide h1; have HR2 := hide h2; have HR3 := hide h3; have HO := hide ho
    have hrd := Own.rd StayD.enc_len ho
    have HRD := hide hrd
    obtain ⟨A1, c1, rfl, hc1, hm1, h1⟩ := h1
    obtain ⟨A2, c2, rfl, hc2, hm2, h2⟩ := h2
    obtain ⟨A3, c3, rfl, hc3, hm3, h3⟩ := h3
    obtain ⟨A4, c4, rfl, hc4, hm4, h4⟩ := hrd
    unfold maxLen at hm1 hm2 hm3 hm4
    clear h1 h2 h3 h4 ho
    have hln' : ((d.length : Int) == (asks.length : Int)) = true := by simp; omega
    clear hlen
    go_enter Try.func83, Try.ntmps83
    go_wp2
    go_ret2
    refine ⟨_, by rw [allotL, if_pos hds]; rfl, ⟨fun ys hy => ?_, fun hn => .inr rfl⟩, (by repeat (first | exact Below.refl _ _ | assumption | refine Below.setCell ?_ (by first | omega | (simp <;> omega)) _ | refine Below.alloc ?_ (by first | omega | (simp <;> omega)) _ | refine below_drewN ?_ _ | refine Below.drew ?_ | refine Below.trans ?_ (Below.mono (by assumption) (by first | omega | (simp <;> omega)))))⟩
    rw [allotL, if_pos hds] at hy
    have := Option.some.inj hy; subst this; exact HO.out
  | succ n ih =>
    intro d vd lo w h1 h2 h3 ho hlo hlen hle hokb hokf hds
    have HR1 := hide h1; have HR2 := hide h2; have HR3 := hide h3; have HO := hide ho
    have hrd := Own.rd StayD.enc_len ho
    have HRD := hide hrd
    obtain ⟨A1, c1, rfl, hc1, hm1, h1⟩ := h1
    obtain ⟨A2, c2, rfl, hc2, hm2, h2⟩ := h2
    obtain ⟨A3, c3, rfl, hc3, hm3, h3⟩ := h3
    obtain ⟨A4, c4, rfl, hc4, hm4, h4⟩ := hrd
    unfold maxLen at hm1 hm2 hm3 hm4
    have hdl : d.length < asks.length := by omega
    have hd7 : d.length ≤ 6 := by omega
    obtain ⟨b3, o3, rfl, hb3, hcell3⟩ := h3 (by omega)
    have hrr := Below.refl w.heap.size w
    have e0 : w.cell? ⟨b3, o3 + d.length * 4, none⟩ = some (.int .i64 asks[d.length].ship) := by
      rw [hrr.cell (p := ⟨b3, _, none⟩) hb3]; have := hcell3 d.length asks[d.length] (List.getElem?_eq_getElem hdl) 0 _ rfl; simpa using this
    have e1 : w.cell? ⟨b3, o3 + d.length * 4 + 1, none⟩ = some (.int .i64 asks[d.length].berth) := by
      rw [hrr.cell (p := ⟨b3, _, none⟩) hb3]; have := hcell3 d.length asks[d.length] (List.getElem?_eq_getElem hdl) 1 _ rfl; simpa using this
    have e2 : w.cell? ⟨b3, o3 + d.length * 4 + 2, none⟩ = some (.int .i64 asks[d.length].start) := by
      rw [hrr.cell (p := ⟨b3, _, none⟩) hb3]; have := hcell3 d.length asks[d.length] (List.getElem?_eq_getElem hdl) 2 _ rfl; simpa using this
    have e3 : w.cell? ⟨b3, o3 + d.length * 4 + 3, none⟩ = some (.int .i64 asks[d.length].fin) := by
      rw [hrr.cell (p := ⟨b3, _, none⟩) hb3]; have := hcell3 d.length asks[d.length] (List.getElem?_eq_getElem hdl) 3 _ rfl; simpa using this
    obtain ⟨i0, hi, hz0, hz1, hz2⟩ := info_parts stay_info
    have HASK := hide (show ∀ b : Int, askAt asks d b = ⟨asks[d.length].ship, b, asks[d.length].start, asks[d.length].fin⟩ by intro b; unfold askAt; rw [getD_at hdl])
    clear h1 h2 hcell3 h4 hrr ho
    obtain ⟨a, ha⟩ : ∃ a, asks[d.length] = a := ⟨_, rfl⟩
    rw [ha] at e0 e1 e2 e3 HASK
    have hln' : ((d.length : Int) == (asks.length : Int)) = false := by rw [beq_eq_false_iff_ne]; omega
    have hdl' : (d.length : Int) < asks.length := by omega
    have HLEN := hide hlen; clear hlen
    have HAL := hide (show allotL bs fl asks (n + 1) d = firstSome (fun b : Nat => if staysOk bs fl (d ++ [(⟨a.ship, (b : Int), a.start, a.fin⟩ : StayD)]) = true then allotL bs fl asks n (d ++ [(⟨a.ship, (b : Int), a.start, a.fin⟩ : StayD)]) else none) bs.length by
      rw [allotL]; congr 1; funext b; rw [HASK.out])
    clear HASK ha
    go_enter Try.func83, Try.ntmps83
    go_wp2
    go_loopw [28] (fun i wr => ∃ k : Nat, k ≤ bs.length ∧ i = .int .i64 k ∧ Hid (firstSome (fun b : Nat => if staysOk bs fl (d ++ [(⟨a.ship, (b : Int), a.start, a.fin⟩ : StayD)]) = true then allotL bs fl asks n (d ++ [(⟨a.ship, (b : Int), a.start, a.fin⟩ : StayD)]) else none) k = none) ∧ wr.cell? ⟨w.heap.size, 0, none⟩ = some (.int .i64 a.ship) ∧ wr.cell? ⟨w.heap.size, 2, none⟩ = some (.int .i64 a.start) ∧ wr.cell? ⟨w.heap.size, 3, none⟩ = some (.int .i64 a.fin) ∧ w.heap.size < wr.heap.size ∧ Below w.heap.size w wr) (fun i _ => bs.length - (intOf i).toNat)
    case atStart => exact ⟨0, Nat.zero_le _, rfl, hide rfl, by simp [go_sem], by simp [go_sem], by simp [go_sem], by simp, (by repeat (first | exact Below.refl _ _ | assumption | refine Below.setCell ?_ (by first | omega | (simp <;> omega)) _ | refine Below.alloc ?_ (by first | omega | (simp <;> omega)) _ | refine below_drewN ?_ _ | refine Below.drew ?_ | refine Below.trans ?_ (Below.mono (by assumption) (by first | omega | (simp <;> omega)))))⟩
    case round =>
      obtain ⟨k, hk, rfl, HN, z0, z2, z3, hl1, hbk⟩ := hrel
      obtain ⟨wo, rfl⟩ : ∃ wo : World, wo = wr := ⟨_, rfl⟩
      have hbs := hbk.size
      clear e0 e1 e2 e3
      by_cases hlt : k < bs.length
      · rcases ch2 (staysOk bs fl (d ++ [(⟨a.ship, (k : Int), a.start, a.fin⟩ : StayD)])) (allotL bs fl asks n (d ++ [(⟨a.ship, (k : Int), a.start, a.fin⟩ : StayD)])).isSome with ⟨q1, q2⟩ | q1 | ⟨q1, q2⟩
        · have Q1 := hide q1; have Q2 := hide q2
          have keepS : ∀ w', Below wo.heap.size wo w' → w'.cell? ⟨w.heap.size, 0, none⟩ = some (.int .i64 a.ship) ∧ w'.cell? ⟨w.heap.size, 2, none⟩ = some (.int .i64 a.start) ∧ w'.cell? ⟨w.heap.size, 3, none⟩ = some (.int .i64 a.fin) ∧ Below wo.heap.size wo w' := fun w' hB => ⟨cellKeep hB z0 hl1, cellKeep hB z2 hl1, cellKeep hB z3 hl1, hB⟩
          have hnd : d.length ≤ 1048576 := by omega
          go_wp2_with fail
          go_region_held3 (fun w' => w'.cell? ⟨w.heap.size, 0, none⟩ = some (.int .i64 a.ship) ∧ w'.cell? ⟨w.heap.size, 2, none⟩ = some (.int .i64 a.start) ∧ w'.cell? ⟨w.heap.size, 3, none⟩ = some (.int .i64 a.fin) ∧ Below wo.heap.size wo w')
            (first
              | exact keepS _ (Below.drew (Below.refl _ _))
              | exact keepS _ hB10
              | exact keepS _ hB7
              | (obtain ⟨_, _, _, qB⟩ := (by with_reducible assumption : _ ∧ _); exact keepS _ (qB.alloc qB.size _)))
            (first
              | (go_at_call 75; obtain ⟨_, _, _, qB⟩ := (by with_reducible assumption : _ ∧ _); with_reducible refine (cloneStay_any _ d _ ((RdB.keep HRD.out (hbk.trans (qB.mono hbs)) (Nat.le_refl _)).mono (Nat.le_trans hbs qB.size)) hnd).mono ?_; rintro e w7 ⟨u7, rfl, hown7, hb7⟩; have hB7 := bnext qB hb7 (Nat.le_refl _))
              | (obtain ⟨_, _, _, qB⟩ := (by with_reducible assumption : _ ∧ _); refine step_append_rd _ StayD.enc_len stay_one (by rfl) _ _ 37 (by rfl) wo.heap.size 97 i0 (.agg #[.int .i64 0, .int .i64 0, .int .i64 0, .int .i64 0]) 32 Try.underlying37 hi hz0 hz1 hz2 rfl (by decide) u7 d (by rfl) (by first | exact hown7.mono (by first | exact Nat.le_refl _ | (simp; done) | (simp <;> omega)) | exact (hown7.below (by repeat (first | exact Below.refl _ _ | assumption | refine Below.setCell ?_ (by first | omega | (simp <;> omega)) _ | refine Below.alloc ?_ (by first | omega | (simp <;> omega)) _ | refine below_drewN ?_ _ | refine Below.drew ?_ | refine Below.trans ?_ (Below.mono (by assumption) (by first | omega | (simp <;> omega)))))).mono (by first | exact Nat.le_refl _ | (simp; done) | (simp <;> omega))) _ (.slice (some ⟨_, 0, none⟩) 1 1) [(⟨a.ship, (k : Int), a.start, a.fin⟩ : StayD)] (by rfl) (by first | with_reducible exact rd9a w7 97 a.ship (k : Int) a.start a.fin | exact Rd.below (Rd.below (rd9a wo 97 a.ship (k : Int) a.start a.fin) (Below.drew (Below.refl _ _))) hb7 | exact Rd.below (rd9a wo 97 a.ship (k : Int) a.start a.fin) hb7) (by unfold maxLen; simp; omega) (by simp; omega) qB.size ?_; intro v10 w10 hown10 hgrow10 hblk10; have hB10 := qB.trans (Own.belowGrown (B := wo.heap.size) (by first | exact hown7.mono (by first | exact Nat.le_refl _ | (simp; done) | (simp <;> omega)) | exact (hown7.below (by repeat (first | exact Below.refl _ _ | assumption | refine Below.setCell ?_ (by first | omega | (simp <;> omega)) _ | refine Below.alloc ?_ (by first | omega | (simp <;> omega)) _ | refine below_drewN ?_ _ | refine Below.drew ?_ | refine Below.trans ?_ (Below.mono (by assumption) (by first | omega | (simp <;> omega)))))).mono (by first | exact Nat.le_refl _ | (simp; done) | (simp <;> omega))) hgrow10 (Nat.le_refl _) qB.size)))
          all_goals
            have hown := hown10.mono (base' := w.heap.size) hbs
            have hr1 := Own.rd StayD.enc_len hown
            have hb := hbk.trans (hB10.mono hbs)
            have c0 := cellKeep hB10 z0 hl1; have c2 := cellKeep hB10 z2 hl1; have c3 := cellKeep hB10 z3 hl1
            have hsx := hB10.size
            have hl2 : w.heap.size < w10.heap.size := by omega
            obtain ⟨hc, hf⟩ := bcell hb; have hz := hb.size
            have hbb := Below.refl w10.heap.size w10
            go_wp2_with (first | (go_at_call 39; with_reducible refine (impl_StaysOk_any _ _ _ bs fl (d ++ [(⟨a.ship, (k : Int), a.start, a.fin⟩ : StayD)]) _ ((HR1.out.keep (B' := w.heap.size) (by repeat (first | exact Below.refl _ _ | assumption | refine Below.setCell ?_ (by first | omega | (simp <;> omega)) _ | refine Below.alloc ?_ (by first | omega | (simp <;> omega)) _ | refine below_drewN ?_ _ | refine Below.drew ?_ | refine Below.trans ?_ (Below.mono (by assumption) (by first | omega | (simp <;> omega))))) (Nat.le_refl _)).mono (by first | omega | (simp <;> omega))) ((HR2.out.keep (B' := w.heap.size) (by repeat (first | exact Below.refl _ _ | assumption | refine Below.setCell ?_ (by first | omega | (simp <;> omega)) _ | refine Below.alloc ?_ (by first | omega | (simp <;> omega)) _ | refine below_drewN ?_ _ | refine Below.drew ?_ | refine Below.trans ?_ (Below.mono (by assumption) (by first | omega | (simp <;> omega))))) (Nat.le_refl _)).mono (by first | omega | (simp <;> omega))) hr1 hokb hokf).mono ?_; rintro e w2 ⟨rfl, hb'⟩; have ho1 := hown.below hb'; have hx1 := hb'.size; have hbb := bnext hbb hb' (Nat.le_refl _); (first | have hb := bnext hb hb' | have hb := bnextA hb hb' | have hb := hb'); clear hb'; obtain ⟨hc, hf⟩ := bcell hb; have hz := hb.size; (try simp at hz)) | (go_at_call 83; with_reducible refine (ih (d ++ [(⟨a.ship, (k : Int), a.start, a.fin⟩ : StayD)]) _ lo _ ((HR1.out.keep (B' := w.heap.size) (by repeat (first | exact Below.refl _ _ | assumption | refine Below.setCell ?_ (by first | omega | (simp <;> omega)) _ | refine Below.alloc ?_ (by first | omega | (simp <;> omega)) _ | refine below_drewN ?_ _ | refine Below.drew ?_ | refine Below.trans ?_ (Below.mono (by assumption) (by first | omega | (simp <;> omega))))) (Nat.le_refl _)).mono (by first | omega | (simp <;> omega))) ((HR2.out.keep (B' := w.heap.size) (by repeat (first | exact Below.refl _ _ | assumption | refine Below.setCell ?_ (by first | omega | (simp <;> omega)) _ | refine Below.alloc ?_ (by first | omega | (simp <;> omega)) _ | refine below_drewN ?_ _ | refine Below.drew ?_ | refine Below.trans ?_ (Below.mono (by assumption) (by first | omega | (simp <;> omega))))) (Nat.le_refl _)).mono (by first | omega | (simp <;> omega))) ((HR3.out.keep (B' := w.heap.size) (by repeat (first | exact Below.refl _ _ | assumption | refine Below.setCell ?_ (by first | omega | (simp <;> omega)) _ | refine Below.alloc ?_ (by first | omega | (simp <;> omega)) _ | refine below_drewN ?_ _ | refine Below.drew ?_ | refine Below.trans ?_ (Below.mono (by assumption) (by first | omega | (simp <;> omega))))) (Nat.le_refl _)).mono (by first | omega | (simp <;> omega))) (ho1.mono (by omega)) (by omega) (by have h9 := HLEN.out; simp; omega) hle hokb hokf q1).mono ?_; rintro e w3 ⟨v3', rfl, hres, hb'⟩; have hbb := bnext hbb hb' (by omega); (first | have hb := bnext hb hb' | have hb := bnextA hb hb' | have hb := hb'); clear hb'; obtain ⟨hc, hf⟩ := bcell hb; have hz := hb.size; (try simp at hz)))
            go_ret2
            obtain ⟨ys, hys⟩ := Option.isSome_iff_exists.1 Q2.out
            have hA : allotL bs fl asks (n + 1) d = some ys := by rw [HAL.out]; exact firstSome_hit HN.out (by simp only [Q1.out, if_true]; exact hys) hlt
            exact ⟨_, by rw [hA]; rfl, ⟨(fun zs hz => by rw [hA] at hz; have := Option.some.inj hz; subst this; exact hres.1 _ hys), (fun hn => by rw [hA] at hn; cases hn)⟩, (by repeat (first | exact Below.refl _ _ | assumption | refine Below.setCell ?_ (by first | omega | (simp <;> omega)) _ | refine Below.alloc ?_ (by first | omega | (simp <;> omega)) _ | refine below_drewN ?_ _ | refine Below.drew ?_ | refine Below.trans ?_ (Below.mono (by assumption) (by first | omega | (simp <;> omega)))))⟩
        · have Q1 := hide q1
          have keepS : ∀ w', Below wo.heap.size wo w' → w'.cell? ⟨w.heap.size, 0, none⟩ = some (.int .i64 a.ship) ∧ w'.cell? ⟨w.heap.size, 2, none⟩ = some (.int .i64 a.start) ∧ w'.cell? ⟨w.heap.size, 3, none⟩ = some (.int .i64 a.fin) ∧ Below wo.heap.size wo w' := fun w' hB => ⟨cellKeep hB z0 hl1, cellKeep hB z2 hl1, cellKeep hB z3 hl1, hB⟩
          have hnd : d.length ≤ 1048576 := by omega
          go_wp2_with fail
          go_region_held3 (fun w' => w'.cell? ⟨w.heap.size, 0, none⟩ = some (.int .i64 a.ship) ∧ w'.cell? ⟨w.heap.size, 2, none⟩ = some (.int .i64 a.start) ∧ w'.cell? ⟨w.heap.size, 3, none⟩ = some (.int .i64 a.fin) ∧ Below wo.heap.size wo w')
            (first
              | exact keepS _ (Below.drew (Below.refl _ _))
              | exact keepS _ hB10
              | exact keepS _ hB7
              | (obtain ⟨_, _, _, qB⟩ := (by with_reducible assumption : _ ∧ _); exact keepS _ (qB.alloc qB.size _)))
            (first
              | (go_at_call 75; obtain ⟨_, _, _, qB⟩ := (by with_reducible assumption : _ ∧ _); with_reducible refine (cloneStay_any _ d _ ((RdB.keep HRD.out (hbk.trans (qB.mono hbs)) (Nat.le_refl _)).mono (Nat.le_trans hbs qB.size)) hnd).mono ?_; rintro e w7 ⟨u7, rfl, hown7, hb7⟩; have hB7 := bnext qB hb7 (Nat.le_refl _))
              | (obtain ⟨_, _, _, qB⟩ := (by with_reducible assumption : _ ∧ _); refine step_append_rd _ StayD.enc_len stay_one (by rfl) _ _ 37 (by rfl) wo.heap.size 97 i0 (.agg #[.int .i64 0, .int .i64 0, .int .i64 0, .int .i64 0]) 32 Try.underlying37 hi hz0 hz1 hz2 rfl (by decide) u7 d (by rfl) (by first | exact hown7.mono (by first | exact Nat.le_refl _ | (simp; done) | (simp <;> omega)) | exact (hown7.below (by repeat (first | exact Below.refl _ _ | assumption | refine Below.setCell ?_ (by first | omega | (simp <;> omega)) _ | refine Below.alloc ?_ (by first | omega | (simp <;> omega)) _ | refine below_drewN ?_ _ | refine Below.drew ?_ | refine Below.trans ?_ (Below.mono (by assumption) (by first | omega | (simp <;> omega)))))).mono (by first | exact Nat.le_refl _ | (simp; done) | (simp <;> omega))) _ (.slice (some ⟨_, 0, none⟩) 1 1) [(⟨a.ship, (k : Int), a.start, a.fin⟩ : StayD)] (by rfl) (by first | with_reducible exact rd9a w7 97 a.ship (k : Int) a.start a.fin | exact Rd.below (Rd.below (rd9a wo 97 a.ship (k : Int) a.start a.fin) (Below.drew (Below.refl _ _))) hb7 | exact Rd.below (rd9a wo 97 a.ship (k : Int) a.start a.fin) hb7) (by unfold maxLen; simp; omega) (by simp; omega) qB.size ?_; intro v10 w10 hown10 hgrow10 hblk10; have hB10 := qB.trans (Own.belowGrown (B := wo.heap.size) (by first | exact hown7.mono (by first | exact Nat.le_refl _ | (simp; done) | (simp <;> omega)) | exact (hown7.below (by repeat (first | exact Below.refl _ _ | assumption | refine Below.setCell ?_ (by first | omega | (simp <;> omega)) _ | refine Below.alloc ?_ (by first | omega | (simp <;> omega)) _ | refine below_drewN ?_ _ | refine Below.drew ?_ | refine Below.trans ?_ (Below.mono (by assumption) (by first | omega | (simp <;> omega)))))).mono (by first | exact Nat.le_refl _ | (simp; done) | (simp <;> omega))) hgrow10 (Nat.le_refl _) qB.size)))
          all_goals
            have hown := hown10.mono (base' := w.heap.size) hbs
            have hr1 := Own.rd StayD.enc_len hown
            have hb := hbk.trans (hB10.mono hbs)
            have c0 := cellKeep hB10 z0 hl1; have c2 := cellKeep hB10 z2 hl1; have c3 := cellKeep hB10 z3 hl1
            have hsx := hB10.size
            have hl2 : w.heap.size < w10.heap.size := by omega
            obtain ⟨hc, hf⟩ := bcell hb; have hz := hb.size
            have hbb := Below.refl w10.heap.size w10
            go_wp2_with (first | (go_at_call 39; with_reducible refine (impl_StaysOk_any _ _ _ bs fl (d ++ [(⟨a.ship, (k : Int), a.start, a.fin⟩ : StayD)]) _ ((HR1.out.keep (B' := w.heap.size) (by repeat (first | exact Below.refl _ _ | assumption | refine Below.setCell ?_ (by first | omega | (simp <;> omega)) _ | refine Below.alloc ?_ (by first | omega | (simp <;> omega)) _ | refine below_drewN ?_ _ | refine Below.drew ?_ | refine Below.trans ?_ (Below.mono (by assumption) (by first | omega | (simp <;> omega))))) (Nat.le_refl _)).mono (by first | omega | (simp <;> omega))) ((HR2.out.keep (B' := w.heap.size) (by repeat (first | exact Below.refl _ _ | assumption | refine Below.setCell ?_ (by first | omega | (simp <;> omega)) _ | refine Below.alloc ?_ (by first | omega | (simp <;> omega)) _ | refine below_drewN ?_ _ | refine Below.drew ?_ | refine Below.trans ?_ (Below.mono (by assumption) (by first | omega | (simp <;> omega))))) (Nat.le_refl _)).mono (by first | omega | (simp <;> omega))) hr1 hokb hokf).mono ?_; rintro e w2 ⟨rfl, hb'⟩; have ho1 := hown.below hb'; have hx1 := hb'.size; have hbb := bnext hbb hb' (Nat.le_refl _); (first | have hb := bnext hb hb' | have hb := bnextA hb hb' | have hb := hb'); clear hb'; obtain ⟨hc, hf⟩ := bcell hb; have hz := hb.size; (try simp at hz)))
            go_roundw
            case rel => exact ⟨k + 1, by omega, by go_num, hide (firstSome_step HN.out (by rw [if_neg (by rw [Q1.out]; simp)])), cellKeep (B := w10.heap.size) (w1 := w10) hbb c0 hl2, cellKeep (B := w10.heap.size) (w1 := w10) hbb c2 hl2, cellKeep (B := w10.heap.size) (w1 := w10) hbb c3 hl2, by have := hbb.size; omega, hb⟩
            case measure => simp [intOf]; omega
        · have Q1 := hide q1; have Q2 := hide q2
          have keepS : ∀ w', Below wo.heap.size wo w' → w'.cell? ⟨w.heap.size, 0, none⟩ = some (.int .i64 a.ship) ∧ w'.cell? ⟨w.heap.size, 2, none⟩ = some (.int .i64 a.start) ∧ w'.cell? ⟨w.heap.size, 3, none⟩ = some (.int .i64 a.fin) ∧ Below wo.heap.size wo w' := fun w' hB => ⟨cellKeep hB z0 hl1, cellKeep hB z2 hl1, cellKeep hB z3 hl1, hB⟩
          have hnd : d.length ≤ 1048576 := by omega
          go_wp2_with fail
          go_region_held3 (fun w' => w'.cell? ⟨w.heap.size, 0, none⟩ = some (.int .i64 a.ship) ∧ w'.cell? ⟨w.heap.size, 2, none⟩ = some (.int .i64 a.start) ∧ w'.cell? ⟨w.heap.size, 3, none⟩ = some (.int .i64 a.fin) ∧ Below wo.heap.size wo w')
            (first
              | exact keepS _ (Below.drew (Below.refl _ _))
              | exact keepS _ hB10
              | exact keepS _ hB7
              | (obtain ⟨_, _, _, qB⟩ := (by with_reducible assumption : _ ∧ _); exact keepS _ (qB.alloc qB.size _)))
            (first
              | (go_at_call 75; obtain ⟨_, _, _, qB⟩ := (by with_reducible assumption : _ ∧ _); with_reducible refine (cloneStay_any _ d _ ((RdB.keep HRD.out (hbk.trans (qB.mono hbs)) (Nat.le_refl _)).mono (Nat.le_trans hbs qB.size)) hnd).mono ?_; rintro e w7 ⟨u7, rfl, hown7, hb7⟩; have hB7 := bnext qB hb7 (Nat.le_refl _))
              | (obtain ⟨_, _, _, qB⟩ := (by with_reducible assumption : _ ∧ _); refine step_append_rd _ StayD.enc_len stay_one (by rfl) _ _ 37 (by rfl) wo.heap.size 97 i0 (.agg #[.int .i64 0, .int .i64 0, .int .i64 0, .int .i64 0]) 32 Try.underlying37 hi hz0 hz1 hz2 rfl (by decide) u7 d (by rfl) (by first | exact hown7.mono (by first | exact Nat.le_refl _ | (simp; done) | (simp <;> omega)) | exact (hown7.below (by repeat (first | exact Below.refl _ _ | assumption | refine Below.setCell ?_ (by first | omega | (simp <;> omega)) _ | refine Below.alloc ?_ (by first | omega | (simp <;> omega)) _ | refine below_drewN ?_ _ | refine Below.drew ?_ | refine Below.trans ?_ (Below.mono (by assumption) (by first | omega | (simp <;> omega)))))).mono (by first | exact Nat.le_refl _ | (simp; done) | (simp <;> omega))) _ (.slice (some ⟨_, 0, none⟩) 1 1) [(⟨a.ship, (k : Int), a.start, a.fin⟩ : StayD)] (by rfl) (by first | with_reducible exact rd9a w7 97 a.ship (k : Int) a.start a.fin | exact Rd.below (Rd.below (rd9a wo 97 a.ship (k : Int) a.start a.fin) (Below.drew (Below.refl _ _))) hb7 | exact Rd.below (rd9a wo 97 a.ship (k : Int) a.start a.fin) hb7) (by unfold maxLen; simp; omega) (by simp; omega) qB.size ?_; intro v10 w10 hown10 hgrow10 hblk10; have hB10 := qB.trans (Own.belowGrown (B := wo.heap.size) (by first | exact hown7.mono (by first | exact Nat.le_refl _ | (simp; done) | (simp <;> omega)) | exact (hown7.below (by repeat (first | exact Below.refl _ _ | assumption | refine Below.setCell ?_ (by first | omega | (simp <;> omega)) _ | refine Below.alloc ?_ (by first | omega | (simp <;> omega)) _ | refine below_drewN ?_ _ | refine Below.drew ?_ | refine Below.trans ?_ (Below.mono (by assumption) (by first | omega | (simp <;> omega)))))).mono (by first | exact Nat.le_refl _ | (simp; done) | (simp <;> omega))) hgrow10 (Nat.le_refl _) qB.size)))
          all_goals
            have hown := hown10.mono (base' := w.heap.size) hbs
            have hr1 := Own.rd StayD.enc_len hown
            have hb := hbk.trans (hB10.mono hbs)
            have c0 := cellKeep hB10 z0 hl1; have c2 := cellKeep hB10 z2 hl1; have c3 := cellKeep hB10 z3 hl1
            have hsx := hB10.size
            have hl2 : w.heap.size < w10.heap.size := by omega
            obtain ⟨hc, hf⟩ := bcell hb; have hz := hb.size
            have hbb := Below.refl w10.heap.size w10
            go_wp2_with (first | (go_at_call 39; with_reducible refine (impl_StaysOk_any _ _ _ bs fl (d ++ [(⟨a.ship, (k : Int), a.start, a.fin⟩ : StayD)]) _ ((HR1.out.keep (B' := w.heap.size) (by repeat (first | exact Below.refl _ _ | assumption | refine Below.setCell ?_ (by first | omega | (simp <;> omega)) _ | refine Below.alloc ?_ (by first | omega | (simp <;> omega)) _ | refine below_drewN ?_ _ | refine Below.drew ?_ | refine Below.trans ?_ (Below.mono (by assumption) (by first | omega | (simp <;> omega))))) (Nat.le_refl _)).mono (by first | omega | (simp <;> omega))) ((HR2.out.keep (B' := w.heap.size) (by repeat (first | exact Below.refl _ _ | assumption | refine Below.setCell ?_ (by first | omega | (simp <;> omega)) _ | refine Below.alloc ?_ (by first | omega | (simp <;> omega)) _ | refine below_drewN ?_ _ | refine Below.drew ?_ | refine Below.trans ?_ (Below.mono (by assumption) (by first | omega | (simp <;> omega))))) (Nat.le_refl _)).mono (by first | omega | (simp <;> omega))) hr1 hokb hokf).mono ?_; rintro e w2 ⟨rfl, hb'⟩; have ho1 := hown.below hb'; have hx1 := hb'.size; have hbb := bnext hbb hb' (Nat.le_refl _); (first | have hb := bnext hb hb' | have hb := bnextA hb hb' | have hb := hb'); clear hb'; obtain ⟨hc, hf⟩ := bcell hb; have hz := hb.size; (try simp at hz)) | (go_at_call 83; with_reducible refine (ih (d ++ [(⟨a.ship, (k : Int), a.start, a.fin⟩ : StayD)]) _ lo _ ((HR1.out.keep (B' := w.heap.size) (by repeat (first | exact Below.refl _ _ | assumption | refine Below.setCell ?_ (by first | omega | (simp <;> omega)) _ | refine Below.alloc ?_ (by first | omega | (simp <;> omega)) _ | refine below_drewN ?_ _ | refine Below.drew ?_ | refine Below.trans ?_ (Below.mono (by assumption) (by first | omega | (simp <;> omega))))) (Nat.le_refl _)).mono (by first | omega | (simp <;> omega))) ((HR2.out.keep (B' := w.heap.size) (by repeat (first | exact Below.refl _ _ | assumption | refine Below.setCell ?_ (by first | omega | (simp <;> omega)) _ | refine Below.alloc ?_ (by first | omega | (simp <;> omega)) _ | refine below_drewN ?_ _ | refine Below.drew ?_ | refine Below.trans ?_ (Below.mono (by assumption) (by first | omega | (simp <;> omega))))) (Nat.le_refl _)).mono (by first | omega | (simp <;> omega))) ((HR3.out.keep (B' := w.heap.size) (by repeat (first | exact Below.refl _ _ | assumption | refine Below.setCell ?_ (by first | omega | (simp <;> omega)) _ | refine Below.alloc ?_ (by first | omega | (simp <;> omega)) _ | refine below_drewN ?_ _ | refine Below.drew ?_ | refine Below.trans ?_ (Below.mono (by assumption) (by first | omega | (simp <;> omega))))) (Nat.le_refl _)).mono (by first | omega | (simp <;> omega))) (ho1.mono (by omega)) (by omega) (by have h9 := HLEN.out; simp; omega) hle hokb hokf q1).mono ?_; rintro e w3 ⟨v3', rfl, hres, hb'⟩; have hbb := bnext hbb hb' (by omega); (first | have hb := bnext hb hb' | have hb := bnextA hb hb' | have hb := hb'); clear hb'; obtain ⟨hc, hf⟩ := bcell hb; have hz := hb.size; (try simp at hz)))
            go_roundw
            case rel => exact ⟨k + 1, by omega, by go_num, hide (firstSome_step HN.out (by rw [if_pos Q1.out]; simpa using Q2.out)), cellKeep (B := w10.heap.size) (w1 := w10) hbb c0 hl2, cellKeep (B := w10.heap.size) (w1 := w10) hbb c2 hl2, cellKeep (B := w10.heap.size) (w1 := w10) hbb c3 hl2, by have := hbb.size; omega, hb⟩
            case measure => simp [intOf]; omega
      · obtain rfl : k = bs.length := by omega
        go_wp2
        go_ret2
        have hA : allotL bs fl asks (n + 1) d = none := by rw [HAL.out]; exact HN.out
        exact ⟨_, by rw [hA]; rfl, ⟨(fun zs hz => by rw [hA] at hz; cases hz), fun _ => .inl rfl⟩, hbk⟩
set_option maxRecDepth 100000 in
set_option maxHeartbeats 8000000 in
theorem spec_AllotBerths_any (v1 v2 v3 : Value) (bs : List BerthD) (fl : List ShipD) (asks : List StayD) (w : World) (h1 : RdBerth w v1 bs) (h2 : RdShip w v2 fl) (h3 : RdStay w v3 asks) (hokb : ∀ x ∈ bs, x.name.size ≤ maxLen) (hokf : ∀ x ∈ fl, x.ok) :
    Calls Try.prog 50 #[v1, v2, v3] w fun e w' => ∃ v, e = .returned (.tuple #[v, .bool (allotBerths bs fl asks).isSome]) ∧ Own w' w.heap.size 97 4 StayD.enc v ((allotBerths bs fl asks).getD []) ∧ Below w.heap.size w w' := by
  have HR1 := hide h1; have HR2 := hide h2; have HR3 := hide h3
  obtain ⟨A1, c1, rfl, hc1, hm1, h1⟩ := h1
  obtain ⟨A2, c2, rfl, hc2, hm2, h2⟩ := h2
  obtain ⟨A3, c3, rfl, hc3, hm3, h3⟩ := h3
  unfold maxLen at hm1 hm2 hm3
  clear h1 h2 h3
  by_cases hle : asks.length ≤ 6
  · have HA := hide (show allotBerths bs fl asks = allotL bs fl asks asks.length [] by unfold allotBerths; rw [if_pos hle])
    have hgt : decide ((6 : Int) < (asks.length : Int)) = false := by simp; omega
    go_enter Try.func50, Try.ntmps50
    go_wp2_with fail
    refine (l12Allot_any _ _ _ bs fl asks asks.length [] _ w.heap.size _ ((HR1.out.keep (B' := w.heap.size) (by repeat (first | exact Below.refl _ _ | assumption | refine Below.setCell ?_ (by first | omega | (simp <;> omega)) _ | refine Below.alloc ?_ (by first | omega | (simp <;> omega)) _ | refine below_drewN ?_ _ | refine Below.drew ?_ | refine Below.trans ?_ (Below.mono (by assumption) (by first | omega | (simp <;> omega))))) (Nat.le_refl _)).mono (by first | omega | (simp <;> omega))) ((HR2.out.keep (B' := w.heap.size) (by repeat (first | exact Below.refl _ _ | assumption | refine Below.setCell ?_ (by first | omega | (simp <;> omega)) _ | refine Below.alloc ?_ (by first | omega | (simp <;> omega)) _ | refine below_drewN ?_ _ | refine Below.drew ?_ | refine Below.trans ?_ (Below.mono (by assumption) (by first | omega | (simp <;> omega))))) (Nat.le_refl _)).mono (by first | omega | (simp <;> omega))) ((HR3.out.keep (B' := w.heap.size) (by repeat (first | exact Below.refl _ _ | assumption | refine Below.setCell ?_ (by first | omega | (simp <;> omega)) _ | refine Below.alloc ?_ (by first | omega | (simp <;> omega)) _ | refine below_drewN ?_ _ | refine Below.drew ?_ | refine Below.trans ?_ (Below.mono (by assumption) (by first | omega | (simp <;> omega))))) (Nat.le_refl _)).mono (by first | omega | (simp <;> omega))) (own_built0 _ _ _) (by first | omega | simp) (by simp) (by omega) hokb hokf).mono ?_; rintro e w3 ⟨v3', rfl, hres, hb'⟩
    have hb : Below w.heap.size w w3 := Below.trans (b := w.alloc (.cells #[] 97)) (by repeat (first | exact Below.refl _ _ | assumption | refine Below.setCell ?_ (by first | omega | (simp <;> omega)) _ | refine Below.alloc ?_ (by first | omega | (simp <;> omega)) _ | refine below_drewN ?_ _ | refine Below.drew ?_ | refine Below.trans ?_ (Below.mono (by assumption) (by first | omega | (simp <;> omega))))) (hb'.mono (by simp))
    go_wp2
    have hown : Own w3 w.heap.size 97 4 StayD.enc v3' ((allotBerths bs fl asks).getD []) := by
      rw [HA.out]
      cases hq : allotL bs fl asks asks.length [] with
      | some ys => exact hres.1 _ hq
      | none =>
        have hown0 : Own w3 w.heap.size 97 4 StayD.enc (.slice (some ⟨w.heap.size, 0, none⟩) 0 0) ([] : List StayD) := (own_built0 w 97 4).below (by assumption)
        rcases hres.2 hq with h | h
        · rw [h]; exact Own.nil_
        · rw [h]; exact hown0
    go_ret2
    exact ⟨_, by rw [HA.out]; rfl, hown, (by repeat (first | exact Below.refl _ _ | assumption | refine Below.setCell ?_ (by first | omega | (simp <;> omega)) _ | refine Below.alloc ?_ (by first | omega | (simp <;> omega)) _ | refine below_drewN ?_ _ | refine Below.drew ?_ | refine Below.trans ?_ (Below.mono (by assumption) (by first | omega | (simp <;> omega)))))⟩
  · have HA := hide (show allotBerths bs fl asks = none by unfold allotBerths; rw [if_neg hle])
    go_enter Try.func50, Try.ntmps50
    go_wp2
    go_ret2
    exact ⟨_, by rw [HA.out]; rfl, by rw [HA.out]; exact Own.nil_, (by repeat (first | exact Below.refl _ _ | assumption | refine Below.setCell ?_ (by first | omega | (simp <;> omega)) _ | refine Below.alloc ?_ (by first | omega | (simp <;> omega)) _ | refine below_drewN ?_ _ | refine Below.drew ?_ | refine Below.trans ?_ (Below.mono (by assumption) (by first | omega | (simp <;> omega)))))⟩
set_option maxRecDepth 100000 in
set_option maxHeartbeats 8000000 in
theorem impl_AllotBerths_any (v1 v2 v3 : Value) (bs : List BerthD) (fl : List ShipD) (asks : List StayD) (w : World) (h1 : RdBerth w v1 bs) (h2 : RdShip w v2 fl) (h3 : RdStay w v3 asks) (hokb : ∀ x ∈ bs, x.name.size ≤ maxLen) (hokf : ∀ x ∈ fl, x.ok) :
    Calls Try.prog 51 #[v1, v2, v3] w fun e w' => ∃ v, e = .returned (.tuple #[v, .bool (allotBerths bs fl asks).isSome]) ∧ Own w' w.heap.size 97 4 StayD.enc v ((allotBerths bs fl asks).getD []) ∧ Below w.heap.size w w' := by
  have HR1 := hide h1; have HR2 := hide h2; have HR3 := hide h3
  obtain ⟨A1, c1, rfl, hc1, hm1, h1⟩ := h1
  obtain ⟨A2, c2, rfl, hc2, hm2, h2⟩ := h2
  obtain ⟨A3, c3, rfl, hc3, hm3, h3⟩ := h3
  unfold maxLen at hm1 hm2 hm3
  clear h1 h2 h3
  by_cases hle : asks.length ≤ 6
  · have HA := hide (show allotBerths bs fl asks = allotL bs fl asks asks.length [] by unfold allotBerths; rw [if_pos hle])
    have hgt : decide ((6 : Int) < (asks.length : Int)) = false := by simp; omega
    rcases ch1 (staysOk bs fl []) with g | g
    · have HG := hide g
      go_enter Try.func51, Try.ntmps51
      go_wp2_with (first | (go_at_call 39; with_reducible refine (impl_StaysOk_any _ _ _ bs fl [] _ ((HR1.out.keep (B' := w.heap.size) (by repeat (first | exact Below.refl _ _ | assumption | refine Below.setCell ?_ (by first | omega | (simp <;> omega)) _ | refine Below.alloc ?_ (by first | omega | (simp <;> omega)) _ | refine below_drewN ?_ _ | refine Below.drew ?_ | refine Below.trans ?_ (Below.mono (by assumption) (by first | omega | (simp <;> omega))))) (Nat.le_refl _)).mono (by first | omega | (simp <;> omega))) ((HR2.out.keep (B' := w.heap.size) (by repeat (first | exact Below.refl _ _ | assumption | refine Below.setCell ?_ (by first | omega | (simp <;> omega)) _ | refine Below.alloc ?_ (by first | omega | (simp <;> omega)) _ | refine below_drewN ?_ _ | refine Below.drew ?_ | refine Below.trans ?_ (Below.mono (by assumption) (by first | omega | (simp <;> omega))))) (Nat.le_refl _)).mono (by first | omega | (simp <;> omega))) RdB.nil_ hokb hokf).mono ?_; rintro e w2 ⟨rfl, hb'⟩; (first | have hb := bnext hb hb' | have hb := bnextA hb hb' | have hb := hb'); clear hb'; obtain ⟨hc, hf⟩ := bcell hb; have hz := hb.size; (try simp at hz)) | (go_at_call 83; with_reducible refine (allot_any _ _ _ bs fl asks asks.length [] _ w.heap.size _ ((HR1.out.keep (B' := w.heap.size) (by repeat (first | exact Below.refl _ _ | assumption | refine Below.setCell ?_ (by first | omega | (simp <;> omega)) _ | refine Below.alloc ?_ (by first | omega | (simp <;> omega)) _ | refine below_drewN ?_ _ | refine Below.drew ?_ | refine Below.trans ?_ (Below.mono (by assumption) (by first | omega | (simp <;> omega))))) (Nat.le_refl _)).mono (by first | omega | (simp <;> omega))) ((HR2.out.keep (B' := w.heap.size) (by repeat (first | exact Below.refl _ _ | assumption | refine Below.setCell ?_ (by first | omega | (simp <;> omega)) _ | refine Below.alloc ?_ (by first | omega | (simp <;> omega)) _ | refine below_drewN ?_ _ | refine Below.drew ?_ | refine Below.trans ?_ (Below.mono (by assumption) (by first | omega | (simp <;> omega))))) (Nat.le_refl _)).mono (by first | omega | (simp <;> omega))) ((HR3.out.keep (B' := w.heap.size) (by repeat (first | exact Below.refl _ _ | assumption | refine Below.setCell ?_ (by first | omega | (simp <;> omega)) _ | refine Below.alloc ?_ (by first | omega | (simp <;> omega)) _ | refine below_drewN ?_ _ | refine Below.drew ?_ | refine Below.trans ?_ (Below.mono (by assumption) (by first | omega | (simp <;> omega))))) (Nat.le_refl _)).mono (by first | omega | (simp <;> omega))) Own.nil_ (by first | omega | (simp <;> omega)) (by simp) (by omega) hokb hokf HG.out).mono ?_; rintro e w3 ⟨v3', rfl, hres, hb' ⟩; (first | have hb := bnext hb hb' | have hb := bnextA hb hb' | have hb := hb'); clear hb'; obtain ⟨hc, hf⟩ := bcell hb; have hz := hb.size; (try simp at hz)))
      have hown : Own w3 w.heap.size 97 4 StayD.enc v3' ((allotBerths bs fl asks).getD []) := by
        rw [HA.out]
        cases hq : allotL bs fl asks asks.length [] with
        | some ys => exact hres.1 _ hq
        | none =>
          have hown0 : Own w3 w.heap.size 97 4 StayD.enc (.slice none 0 0) ([] : List StayD) := Own.nil_
          rcases hres.2 hq with h | h
          · rw [h]; exact Own.nil_
          · rw [h]; exact hown0
      go_ret2
      exact ⟨_, by rw [HA.out]; rfl, hown, (by repeat (first | exact Below.refl _ _ | assumption | refine Below.setCell ?_ (by first | omega | (simp <;> omega)) _ | refine Below.alloc ?_ (by first | omega | (simp <;> omega)) _ | refine below_drewN ?_ _ | refine Below.drew ?_ | refine Below.trans ?_ (Below.mono (by assumption) (by first | omega | (simp <;> omega)))))⟩
    · have HG := hide g
      have HN := hide (show allotBerths bs fl asks = none by rw [HA.out]; exact allotL_nil g _ _)
      go_enter Try.func51, Try.ntmps51
      go_wp2_with (go_at_call 39; with_reducible refine (impl_StaysOk_any _ _ _ bs fl [] _ ((HR1.out.keep (B' := w.heap.size) (by repeat (first | exact Below.refl _ _ | assumption | refine Below.setCell ?_ (by first | omega | (simp <;> omega)) _ | refine Below.alloc ?_ (by first | omega | (simp <;> omega)) _ | refine below_drewN ?_ _ | refine Below.drew ?_ | refine Below.trans ?_ (Below.mono (by assumption) (by first | omega | (simp <;> omega))))) (Nat.le_refl _)).mono (by first | omega | (simp <;> omega))) ((HR2.out.keep (B' := w.heap.size) (by repeat (first | exact Below.refl _ _ | assumption | refine Below.setCell ?_ (by first | omega | (simp <;> omega)) _ | refine Below.alloc ?_ (by first | omega | (simp <;> omega)) _ | refine below_drewN ?_ _ | refine Below.drew ?_ | refine Below.trans ?_ (Below.mono (by assumption) (by first | omega | (simp <;> omega))))) (Nat.le_refl _)).mono (by first | omega | (simp <;> omega))) RdB.nil_ hokb hokf).mono ?_; rintro e w2 ⟨rfl, hb'⟩; (first | have hb := bnext hb hb' | have hb := bnextA hb hb' | have hb := hb'); clear hb'; obtain ⟨hc, hf⟩ := bcell hb; have hz := hb.size; (try simp at hz))
      go_ret2
      exact ⟨_, by rw [HN.out]; rfl, by rw [HN.out]; exact Own.nil_, (by repeat (first | exact Below.refl _ _ | assumption | refine Below.setCell ?_ (by first | omega | (simp <;> omega)) _ | refine Below.alloc ?_ (by first | omega | (simp <;> omega)) _ | refine below_drewN ?_ _ | refine Below.drew ?_ | refine Below.trans ?_ (Below.mono (by assumption) (by first | omega | (simp <;> omega)))))⟩
  · have HA := hide (show allotBerths bs fl asks = none by unfold allotBerths; rw [if_neg hle])
    have hgt : decide ((6 : Int) < (asks.length : Int)) = true := by simp; omega
    go_enter Try.func51, Try.ntmps51
    go_wp2
    go_ret2
    exact ⟨_, by rw [HA.out]; rfl, by rw [HA.out]; exact Own.nil_, (by repeat (first | exact Below.refl _ _ | assumption | refine Below.setCell ?_ (by first | omega | (simp <;> omega)) _ | refine Below.alloc ?_ (by first | omega | (simp <;> omega)) _ | refine below_drewN ?_ _ | refine Below.drew ?_ | refine Below.trans ?_ (Below.mono (by assumption) (by first | omega | (simp <;> omega)))))⟩
end Go.Proofs.Ytjfppjhlkeopnaa
