/- The least number of lockings: both texts. No condition. -/
import Derived.Test.YtjmffhpfmfmnlaaPrefix
import Derived.Test.YtjmffhpfmfmnlaaPackedL
import Derived.Deep.RegionHeld3
namespace Go.Proofs.Ytjmffhpfmfmnlaa
open Go.RowKit
set_option linter.unusedVariables false
abbrev encB : Bool → List Value := fun b => [.bool b]
theorem encB_len (b : Bool) : (encB b).length = 1 := rfl
def leastLockings (x0 x1 x2 : Int) (ns : List Int) : Int := if lockFits x0 x1 x2 ns = true then leastF (fitB x0 x1.toNat ns) ns.length (2 ^ ns.length - 1) else -1
def rowG {α : Type} (n : Nat) (u : Nat → α) : List α := (List.range n).map u
theorem rowG_len {α : Type} (n : Nat) (u : Nat → α) : (rowG n u).length = n := by simp [rowG]
theorem rowG_at {α : Type} (n : Nat) (u : Nat → α) {k : Nat} (h : k < n) : (rowG n u)[k]'(by rw [rowG_len]; exact h) = u k := by simp [rowG]
theorem rowG_set {α : Type} (n : Nat) (u : Nat → α) (k : Nat) (v : α) : (rowG n u).set k v = rowG n (fun j => if j = k then v else u j) := by
  apply List.ext_getElem
  · simp [rowG]
  · intro i h1 h2
    simp only [rowG, List.getElem_set, List.getElem_map, List.getElem_range]
    by_cases e : k = i
    · subst e; simp
    · rw [if_neg e, if_neg (fun h => e h.symm)]
theorem rowG_congr {α : Type} {n : Nat} {u v : Nat → α} (h : ∀ j, j < n → u j = v j) : rowG n u = rowG n v := by
  apply List.ext_getElem
  · simp [rowG]
  · intro i h1 h2; simp [rowG] at h1 ⊢; exact h i h1
theorem rowG_rep {α : Type} (n : Nat) (x : α) : rowG n (fun _ => x) = List.replicate n x := by
  apply List.ext_getElem
  · simp [rowG]
  · intro i h1 h2; simp [rowG]
theorem repV {α : Type} (enc : α → List Value) (x : α) (v : Value) (h : enc x = [v]) : ∀ n : Nat, List.replicate n v = (List.replicate n x).flatMap enc
  | 0 => rfl
  | n + 1 => by rw [List.replicate_succ, List.replicate_succ, List.flatMap_cons, ← repV enc x v h n, h]; rfl
theorem ownG_made {α : Type} {enc : α → List Value} {w : World} {base : Nat} {v : Value} {n : Nat} {T : TypeId} (x : α) (z : Value) (hx : enc x = [z]) (hz : z.cells = #[z]) (h : w.ownsRow base T 1 v n (madeCells z.cells (n * 1)).toList) : Own w base T 1 enc v (rowG n (fun _ => x)) := by
  rw [hz, toList_madeCells_one, Nat.mul_one, repV enc x z hx] at h
  unfold Own
  rw [rowG_rep, List.length_replicate]
  exact h
theorem ownG_cell {α : Type} {enc : α → List Value} {w : World} {base g N : Nat} {T : TypeId} {u : Nat → α} (he : ∀ x, (enc x).length = 1) (h : Own w base T 1 enc (.slice (some ⟨g, 0, none⟩) N N) (rowG N u)) {i : Nat} (hi : i < N) {z : Value} (hz : enc (u i) = [z]) : w.cell? ⟨g, i, none⟩ = some z ∧ w.frozen? ⟨g, i, none⟩ = false := by
  have hoc := Own.cells (i := i) (j := 0) (u := z) (cap := N) he (by rw [rowG_len]; exact h) (by rw [rowG_len]; exact hi) (by rw [rowG_at _ _ hi, hz]; rfl)
  simpa using hoc
theorem ownG_store {α : Type} {enc : α → List Value} {w : World} {base g N : Nat} {T : TypeId} {u : Nat → α} (he : ∀ x, (enc x).length = 1) (h : Own w base T 1 enc (.slice (some ⟨g, 0, none⟩) N N) (rowG N u)) {i : Nat} (hi : i < N) {x : α} {z : Value} (hz : enc x = [z]) : Own (w.setCell ⟨g, i, none⟩ z) base T 1 enc (.slice (some ⟨g, 0, none⟩) N N) (rowG N (fun j => if j = i then x else u j)) := by
  have := Own.setRow (i := i) (cap := N) he (by rw [rowG_len]; exact h) (by rw [rowG_len]; exact hi) x
  rw [rowG_len, rowG_set, hz] at this
  simpa [storeRow] using this
theorem bool_info : (Try.prog.info? 4).map (fun i => (i.zero, i.size, i.bytes)) = some (some (.bool false), 1, 1) := by kernel_rfl
/-- the table of the sets that fit, below k -/
def fitTab (F : Nat → Bool) (lo k : Nat) : Nat → Bool := fun j => if lo ≤ j ∧ j < k then F j else false
/-- the table of the least numbers while set b is at work -/
def bestTab (f : Nat → Int) (b : Nat) (acc : Int) : Nat → Int := fun j => if j < b then f j else if j = b then acc else 0
theorem andNot_part {p s c : Nat} (h : Part p s) (hc : ∀ k, c.testBit k = (s.testBit k && !p.testBit k)) : c = s - p := by
  apply Nat.eq_of_testBit_eq
  intro k
  rw [hc, part_sub h]
def valAt (w : World) (a : Addr) : Value := (w.cell? a).getD (.bool false)
theorem valAt_of {w : World} {a : Addr} {v : Value} (h : w.cell? a = some v) : w.cell? a = some (valAt w a) := by unfold valAt; rw [h]; rfl
theorem below_store {B b o : Nat} {w1 w2 : World} {v : Value} (h : Below B w1 w2) (hb : B ≤ b) : Below B w1 (w2.setCell ⟨b, o, none⟩ v) := h.setCell (p := ⟨b, o, none⟩) hb _
theorem size_store {b o : Nat} {w : World} {v : Value} : (w.setCell ⟨b, o, none⟩ v).heap.size = w.heap.size := by simp [World.setCell]
set_option maxRecDepth 100000 in
set_option maxHeartbeats 16000000 in
theorem spec_LeastLockings_any (x0 x1 x2 : Int) (v1 : Value) (ns : List Int) (w : World) (h1 : RdI w v1 ns) :
    Calls Try.prog 23 #[.agg #[.int .i64 x0, .int .i64 x1, .int .i64 x2], v1] w fun e w' => e = .returned (.int .i64 (leastLockings x0 x1 x2 ns)) ∧ Below w.heap.size w w' := by
  have HR1 := hide h1
  obtain ⟨A1, c1, rfl, hc1, hm1, h1⟩ := h1
  unfold maxLen at hm1
  clear h1
  obtain ⟨i0, hi, hz0, hz1, hz2⟩ := info_parts int_info
  obtain ⟨j0, hj, hy0, hy1, hy2⟩ := info_parts bool_info
  rcases ch1 (lockFits x0 x1 x2 ns) with g | g
  · obtain ⟨g1, g2⟩ := lockFits_of g
    obtain ⟨a0, a1, a2, a3, a4, a5⟩ := chOk_of g1
    obtain ⟨l8, hns⟩ := lengthsOk_of g2
    have HNS := hide hns; clear hns
    obtain ⟨m, rfl⟩ : ∃ m : Nat, x1 = m := ⟨x1.toNat, by omega⟩
    have HV := hide (show leastLockings x0 m x2 ns = leastF (fitB x0 m ns) ns.length (2 ^ ns.length - 1) by unfold leastLockings; rw [if_pos g, Int.toNat_natCast])
    have hm0 : 1 ≤ m := by omega
    have hm3 : m ≤ 3 := by omega
    have G1 := hide g1; have G2 := hide g2
    have hNlt : 2 ^ ns.length ≤ 256 := Nat.pow_le_pow_right (n := 2) (by omega) l8
    have hNw := wrap_i64 (2 ^ ns.length) (by omega)
    have hpos : 0 < 2 ^ ns.length := Nat.pow_pos (by omega)
    rw [← two_pow_cast] at hNw
    obtain ⟨N, hN⟩ : ∃ N, 2 ^ ns.length = N := ⟨_, rfl⟩
    have f1 : IntKind.i64.wrap ((2 : Int) ^ ns.length) = (N : Int) := by rw [hNw, two_pow_cast, hN]
    rw [hN] at hNlt hpos HV
    clear hNw hN
    obtain ⟨M, hM⟩ : ∃ M, N = M + 1 := ⟨N - 1, by omega⟩
    have f2 : IntKind.i64.wrap ((N : Int) - 1) = (M : Int) := by rw [IntWalk.i64_in _ (by omega)]; omega
    have f3 : IntKind.i64.wrap ((M : Int) + 1) = (N : Int) := by rw [IntWalk.i64_in _ (by omega)]; omega
    have f4 : M < N := by omega
    have f4' : (M : Int) < N := by omega
    have f5 : (N : Int) - 1 = M := by omega
    have HMN := hide hM
    have HV2 := hide (show leastLockings x0 m x2 ns = leastF (fitB x0 m ns) ns.length M by rw [HV.out, hM]; first | done | rfl)
    have hMlt : M ≤ 255 := by omega
    clear hM HV hpos
    obtain ⟨F, hF⟩ : ∃ F, fitB x0 m ns = F := ⟨_, rfl⟩
    have HFB := hide (show ∀ b, canPack x0 m (subL ns b) = F b from fun b => by rw [← hF])
    rw [hF] at HV2
    clear hF
    have HBD := hide (fun b => leastF_bd F (ns.length : Int) (by omega) b)
    have HSC := hide (leastF_succ F (ns.length : Int))
    have hf0 := leastF_zero F (ns.length : Int)
    obtain ⟨lf, hlf⟩ : ∃ lf, leastF F (ns.length : Int) = lf := ⟨_, rfl⟩
    have HLF := hide hlf
    rw [hlf] at hf0
    have HF0 := hide hf0
    clear hlf hf0
    have HPS := hide (show ∀ b, (packShips x0 m x2 (subL ns b)).isSome = F b from fun b => by rw [packShips_some G1.out (lengthsOk_sub G2.out (subL_len ns b) (fun x hx => (subL_sub ns b).subset hx)), HFB.out])
    go_enter Try.func23, Try.ntmps23
    go_wp2_with (first
      | (go_at_call 56; with_reducible refine (l10Fits_any _ _ _ _ ns _ ((RdB.keep HR1.out (B' := w.heap.size) (by repeat (first | exact Below.refl _ _ | assumption | refine Below.setCell ?_ (by first | omega | (simp <;> omega)) _ | refine Below.alloc ?_ (by first | omega | (simp <;> omega)) _ | refine below_drewN ?_ _ | refine Below.drew ?_ | refine Below.trans ?_ (Below.mono (by assumption) (by first | omega | (simp <;> omega))))) (Nat.le_refl _)).mono (by first | omega | (simp <;> omega)))).mono ?_; rintro e w1 ⟨rfl, hb'⟩; (first | have hb := bnext hb hb' | have hb := bnextA hb hb' | have hb := hb'); clear hb'; obtain ⟨hc, hf⟩ := bcell hb; have hz := hb.size; (try simp at hz))
      | (refine wpList_make_full _ rfl _ _ _ rfl w1.heap.size 4 j0 _ 1 Try.underlying78 hj hy0 hy1 _ _ _ _ N rfl rfl rfl rfl (by rw [hy2]; omega) (by unfold maxLen; omega) (by omega) ?_; intro w2 hown hg))
    have hz0' : w1.cell? ⟨w.heap.size, 0, none⟩ = some (.int .i64 x0) := by rw [hc _ _ (by simp)]; simp [go_sem]
    have hz1' : w1.cell? ⟨w.heap.size, 1, none⟩ = some (.int .i64 m) := by rw [hc _ _ (by simp)]; simp [go_sem]
    have hz2' : w1.cell? ⟨w.heap.size, 2, none⟩ = some (.int .i64 x2) := by rw [hc _ _ (by simp)]; simp [go_sem]
    have Z0 := hide hz0'; have Z1 := hide hz1'; have Z2 := hide hz2'; clear hz0' hz1' hz2'
    have hs1 := hb.size
    simp only [World.size_alloc] at hs1
    have hl1 : w.heap.size < w1.heap.size := by omega
    have hbw : Below w.heap.size w w1 := (by repeat (first | exact Below.refl _ _ | assumption | refine Below.setCell ?_ (by first | omega | (simp <;> omega)) _ | refine Below.alloc ?_ (by first | omega | (simp <;> omega)) _ | refine below_drewN ?_ _ | refine Below.drew ?_ | refine Below.trans ?_ (Below.mono (by assumption) (by first | omega | (simp <;> omega)))))
    clear hc hf hz hb g g1 g2
    have hb2 : Below w1.heap.size w1 w2 := (Below.refl _ _).grown hg (Nat.le_refl _) (by simp)
    have hou := ownG_made (enc := encB) false (.bool false) rfl rfl hown
    have hgs := (Own.lt hou _ rfl).2
    obtain ⟨G, hG⟩ : ∃ G, w1.heap.size = G := ⟨_, rfl⟩
    have hou0 : Own w2 w1.heap.size 4 1 encB (.slice (some ⟨w1.heap.size, 0, none⟩) N N) (rowG N (fitTab F 0 0)) := by rw [rowG_congr (v := fitTab F 0 0) (fun j _ => by simp [fitTab])] at hou; exact hou
    clear hou hown hg
    go_loopw [24] (fun s wr => ∃ k : Nat, k ≤ N ∧ s = .int .i64 k ∧ Hid (Own wr w1.heap.size 4 1 encB (.slice (some ⟨w1.heap.size, 0, none⟩) N N) (rowG N (fitTab F 0 k))) ∧ w1.heap.size < wr.heap.size ∧ Below w1.heap.size w1 wr) (fun s _ => N - (intOf s).toNat)
    case atStart => exact ⟨0, Nat.zero_le _, rfl, hide hou0, hgs, hb2⟩
    case round =>
      clear hou0 hgs hb2 hG
      obtain ⟨k, hk, rfl, HO, hgl, hbk⟩ := hrel
      obtain ⟨wo, rfl⟩ : ∃ wo : World, wo = wr := ⟨_, rfl⟩
      have hbs := hbk.size
      by_cases hlt : k < N
      · have hlt' : (k : Int) < N := by omega
        have z0 := cellKeep hbk Z0.out hl1; have z1 := cellKeep hbk Z1.out hl1; have z2 := cellKeep hbk Z2.out hl1
        have hl9 : w.heap.size < wo.heap.size := by omega
        have hfc := ownG_cell encB_len HO.out hlt (z := .bool false) (by simp [fitTab])
        have q1 := hfc.1; have q2 := hfc.2
        clear hfc
        have hRS := (RdB.keep HR1.out (bnext hbw hbk (Nat.le_refl _)) (Nat.le_refl _)).mono (B' := wo.heap.size) (by omega)
        have HRS := hide hRS; clear hRS
        have hPk := HPS.out k
        have HPK := hide hPk; clear hPk
        have hk61 : k < 4611686018427387904 := by omega
        have keepS : ∀ w', Below wo.heap.size wo w' → w'.cell? ⟨w.heap.size, 0, none⟩ = some (.int .i64 x0) ∧ w'.cell? ⟨w.heap.size, 1, none⟩ = some (.int .i64 m) ∧ w'.cell? ⟨w.heap.size, 2, none⟩ = some (.int .i64 x2) ∧ w'.cell? ⟨w1.heap.size, k, none⟩ = some (valAt w' ⟨w1.heap.size, k, none⟩) ∧ w'.frozen? ⟨w1.heap.size, k, none⟩ = false := fun w' hB => ⟨cellKeep hB z0 hl9, cellKeep hB z1 hl9, cellKeep hB z2 hl9, valAt_of (cellKeep hB q1 hgl), frozenKeep hB q2 hgl⟩
        have hne9 : w1.heap.size ≠ w.heap.size := by omega
        have keepT : ∀ (w9 : World) (v : Value), Below wo.heap.size wo w9 → (fun w' => w'.cell? ⟨w.heap.size, 0, none⟩ = some (.int .i64 x0) ∧ w'.cell? ⟨w.heap.size, 1, none⟩ = some (.int .i64 m) ∧ w'.cell? ⟨w.heap.size, 2, none⟩ = some (.int .i64 x2) ∧ w'.cell? ⟨w1.heap.size, k, none⟩ = some (valAt w' ⟨w1.heap.size, k, none⟩) ∧ w'.frozen? ⟨w1.heap.size, k, none⟩ = false) (w9.setCell ⟨w1.heap.size, k, none⟩ v) := fun w9 v hB => ⟨(World.cell?_setCell_other _ _ _ _ (fun e => hne9 (congrArg Addr.block e))).trans (cellKeep hB z0 hl9), (World.cell?_setCell_other _ _ _ _ (fun e => hne9 (congrArg Addr.block e))).trans (cellKeep hB z1 hl9), (World.cell?_setCell_other _ _ _ _ (fun e => hne9 (congrArg Addr.block e))).trans (cellKeep hB z2 hl9), valAt_of (World.cell?_setCell_same _ _ _ (cellKeep hB q1 hgl)), by simpa [go_sem] using frozenKeep hB q2 hgl⟩
        go_wp2
        go_region_held3 (fun w' => w'.cell? ⟨w.heap.size, 0, none⟩ = some (.int .i64 x0) ∧ w'.cell? ⟨w.heap.size, 1, none⟩ = some (.int .i64 m) ∧ w'.cell? ⟨w.heap.size, 2, none⟩ = some (.int .i64 x2) ∧ w'.cell? ⟨w1.heap.size, k, none⟩ = some (valAt w' ⟨w1.heap.size, k, none⟩) ∧ w'.frozen? ⟨w1.heap.size, k, none⟩ = false)
          (first
            | exact keepS _ (Below.drew (Below.refl _ _))
            | exact keepT _ _ hB12
            | exact keepS _ hB12
            | exact keepS _ hB11)
          (first
            | (go_at_call 59; have qB : Below wo.heap.size wo wo.drew := Below.drew (Below.refl _ _); with_reducible refine (l10Some_any _ ns k hk61 l8 _ ((RdB.keep HRS.out qB (Nat.le_refl _)).mono qB.size)).mono ?_; rintro e w11 ⟨v11, rfl, ho11, hb11⟩; have hRI11 := Own.rd encI_len ho11; clear ho11; have hB11 := bnext qB hb11 (Nat.le_refl _); clear qB)
            | (go_at_call 17; with_reducible refine (spec_PackShips_any x0 m x2 _ _ _ (by first | exact hRI11 | exact hRI11.below (by repeat (first | exact Below.refl _ _ | assumption | refine Below.setCell ?_ (by first | omega | (simp <;> omega)) _ | refine Below.alloc ?_ (by first | omega | (simp <;> omega)) _ | refine below_drewN ?_ _ | refine Below.drew ?_ | refine Below.trans ?_ (Below.mono (by assumption) (by first | omega | (simp <;> omega))))))).mono ?_; rintro e w12 ⟨v12, rfl, ho12, hb12⟩; clear ho12; rw [HPK.out]; have hB12 := bnext hB11 hb12 (Nat.le_refl _)))
        have HO9 := hide (show Own (w12.setCell ⟨w1.heap.size, k, none⟩ (.bool (F k))) w1.heap.size 4 1 encB (.slice (some ⟨w1.heap.size, 0, none⟩) N N) (rowG N (fitTab F 0 (k + 1))) by
          have := ownG_store encB_len (HO.out.below hB12) hlt (x := F k) (z := .bool (F k)) rfl
          rw [rowG_congr (v := fitTab F 0 (k + 1)) (fun j _ => by unfold fitTab; by_cases e : j = k; (subst e; simp); (rw [if_neg e]; by_cases e2 : j < k; (rw [if_pos ⟨Nat.zero_le _, e2⟩, if_pos ⟨Nat.zero_le _, by omega⟩]); (rw [if_neg (by omega), if_neg (by omega)])))] at this
          exact this)
        have hb9 := below_store (v := .bool (F k)) (o := k) (bnext hbk hB12 (Nat.le_refl _)) (Nat.le_refl w1.heap.size)
        have hg9 : w1.heap.size < (w12.setCell ⟨w1.heap.size, k, none⟩ (.bool (F k))).heap.size := by rw [size_store]; have := hB12.size; omega
        go_wp2
        go_roundw
        case rel => exact ⟨k + 1, by omega, by go_num, HO9, hg9, hb9⟩
        case measure => simp [intOf]; omega
      · obtain rfl : N = k := by omega
        clear hk hlt
        go_wp2_with (refine wpList_make_full _ rfl _ _ _ rfl wo.heap.size 3 i0 _ 1 Try.underlying24 hi hz0 hz1 _ _ _ _ N rfl rfl rfl rfl (by rw [hz2]; omega) (by unfold maxLen; omega) (by omega) ?_; intro w3 hown hg)
        have hb3 : Below wo.heap.size wo w3 := (Below.refl _ _).grown hg (Nat.le_refl _) (by simp)
        have hou := ownG_made (enc := encI) 0 (.int .i64 0) rfl rfl hown
        have hgs := (Own.lt hou _ rfl).2
        have hou0 : Own w3 wo.heap.size 3 1 encI (.slice (some ⟨wo.heap.size, 0, none⟩) N N) (rowG N (bestTab lf 1 0)) := by
          rw [rowG_congr (v := bestTab lf 1 0) (fun j _ => by unfold bestTab; by_cases e : j < 1; (obtain rfl : j = 0 := (by omega); simp [HF0.out]); (rw [if_neg e]; simp))] at hou; exact hou
        have hfi3 := HO.out.below hb3
        have hbw3 := bnext (bnext hbw hbk (Nat.le_refl _)) hb3 (Nat.le_refl _)
        clear hou hown hg
        have hgl3 : w1.heap.size < w3.heap.size := by have := hb3.size; omega
        have HS2 := hide (show ∀ b, 1 ≤ b → partLoop F lf b b (ns.length : Int) = lf b from fun b hb => by
          obtain ⟨n, rfl⟩ : ∃ n, b = n + 1 := ⟨b - 1, by omega⟩
          rw [← HLF.out]
          exact (HSC.out n).symm)
        have hfo : wo.heap.size ≠ w1.heap.size := by omega
        go_loopw [9] (fun s wr => ∃ b : Nat, 1 ≤ b ∧ b ≤ N ∧ s = .int .i64 b ∧ Hid (Own wr wo.heap.size 3 1 encI (.slice (some ⟨wo.heap.size, 0, none⟩) N N) (rowG N (bestTab lf b 0))) ∧ Hid (Own wr w1.heap.size 4 1 encB (.slice (some ⟨w1.heap.size, 0, none⟩) N N) (rowG N (fitTab F 0 N))) ∧ Below w.heap.size w wr) (fun s _ => N - (intOf s).toNat)
        case atStart => exact ⟨1, Nat.le_refl _, by have := HMN.out; omega, rfl, hide hou0, hide hfi3, hbw3⟩
        case round =>
          clear hou0 hfi3 hbw3 hb3 hgs hgl3
          obtain ⟨b, hb1, hbN, rfl, HBO0, HFI0, hbk0⟩ := hrel
          rename_i wr
          obtain ⟨wo2, rfl⟩ : ∃ wo2 : World, wo2 = wr := ⟨_, rfl⟩
          by_cases hlt : b < N
          · have hbM : (b : Int) ≤ M := by have := HMN.out; omega
            have hltN : (b : Int) < N := by omega
            have hbc := ownG_cell encI_len HBO0.out hlt (z := .int .i64 0) (by show [Value.int .i64 (bestTab lf b 0 b)] = _; unfold bestTab; rw [if_neg (Nat.lt_irrefl _), if_pos rfl])
            have r2 := hbc.1; have r3 := hbc.2
            clear hbc
            have HBO1 := hide (show Own (wo2.setCell ⟨wo.heap.size, b, none⟩ (.int .i64 ns.length)) wo.heap.size 3 1 encI (.slice (some ⟨wo.heap.size, 0, none⟩) N N) (rowG N (bestTab lf b ns.length)) by
              have := ownG_store encI_len HBO0.out hlt (x := (ns.length : Int)) (z := .int .i64 ns.length) rfl
              rw [rowG_congr (v := bestTab lf b ns.length) (fun j _ => by unfold bestTab; by_cases e : j = b; (subst e; simp); simp [e])] at this
              exact this)
            have HFI1 := hide (HFI0.out.setFar (p := ⟨wo.heap.size, b, none⟩) (by simp [Value.ownBlock]; omega) (.int .i64 ns.length))
            have hbk1 := below_store (v := .int .i64 ns.length) (o := b) hbk0 (show w.heap.size ≤ wo.heap.size by omega)
            go_wp2
            go_loopw [10] (fun s wr => ∃ (p : Nat) (acc : Int), p ≤ b ∧ s = .int .i64 p ∧ Hid (Own wr wo.heap.size 3 1 encI (.slice (some ⟨wo.heap.size, 0, none⟩) N N) (rowG N (bestTab lf b acc))) ∧ Hid (Own wr w1.heap.size 4 1 encB (.slice (some ⟨w1.heap.size, 0, none⟩) N N) (rowG N (fitTab F 0 N))) ∧ Hid (partLoop F lf b p acc = lf b) ∧ Hid (Part p b) ∧ 0 ≤ acc ∧ acc ≤ ns.length ∧ Below w.heap.size w wr) (fun s _ => (intOf s).toNat)
            case atStart => exact ⟨b, ns.length, Nat.le_refl _, rfl, HBO1, HFI1, hide (HS2.out b hb1), hide (part_refl b), by omega, by omega, hbk1⟩
            case round =>
              clear HBO1 HFI1 hbk1 r2 r3 HBO0 HFI0 hbk0
              obtain ⟨p, acc, hpb0, rfl, HBO, HFI, HPL, HPT, hacc0, hacc1, hbki⟩ := hrel
              have hbp : Part p b := HPT.out
              obtain ⟨wi, rfl⟩ : ∃ wi : World, wi = wr := ⟨_, rfl⟩
              have hbkis := hbki.size
              have hgb := (Own.lt HBO.out _ rfl).2
              by_cases hp0 : 0 < p
              · have hpb := hbp.le
                have hpN : p < N := by omega
                have hpN' : (p : Int) < N := by omega
                have hbN' : (b : Int) < N := by omega
                have hp1 : (0 : Int) < p := by omega
                have hd1 : IntKind.i64.wrap ((p : Int) - 1) = ((p - 1 : Nat) : Int) := by rw [IntWalk.i64_in _ (by omega)]; omega
                have hand := bits_and_i64 (p - 1) b (by omega) (by omega)
                have HLE := hide (and_lt_of (set := b) (show p ≠ 0 by omega))
                have HPT2 := hide (part_and (p - 1) b)
                have HSTEP := hide (partLoop_step (fit := F) (g := lf) (set := b) (acc := acc) (show p ≠ 0 by omega))
                have hle := HLE.out
                obtain ⟨q, hq⟩ : ∃ q, (p - 1) &&& b = q := ⟨_, rfl⟩
                rw [hq] at hand HLE HPT2 HSTEP hle
                clear hq
                have hfc := ownG_cell encB_len HFI.out hpN (z := .bool (F p)) (by show [Value.bool (fitTab F 0 N p)] = _; unfold fitTab; rw [if_pos ⟨by omega, by omega⟩])
                have hbc := ownG_cell encI_len HBO.out (show b < N by omega) (z := .int .i64 acc) (by show [Value.int .i64 (bestTab lf b acc b)] = _; unfold bestTab; rw [if_neg (Nat.lt_irrefl _), if_pos rfl])
                have r1 := hfc.1; have r2 := hbc.1; have r3 := hbc.2
                clear hfc hbc
                rcases ch1 (F p) with gf | gf
                · have hbc2 := ownG_cell encI_len HBO.out (show b - p < N by omega) (z := .int .i64 (lf (b - p))) (by show [Value.int .i64 (bestTab lf b acc (b - p))] = _; unfold bestTab; rw [if_pos (by omega)])
                  have r4 := hbc2.1
                  clear hbc2
                  have hsub : IntKind.i64.wrap ((b : Int) - (p : Int)) = ((b - p : Nat) : Int) := by rw [IntWalk.i64_in _ (by omega)]; omega
                  have hsubN : b - p < N := by omega
                  have hsubN' : ((b - p : Nat) : Int) < N := by omega
                  have hlfb := HBD.out (b - p)
                  rw [HLF.out] at hlfb
                  rw [gf] at r1 HSTEP
                  rw [if_pos rfl] at HSTEP
                  obtain ⟨s, hs⟩ : ∃ s, b - p = s := ⟨_, rfl⟩
                  rw [hs] at r4 hsub hsubN hsubN' hlfb HSTEP
                  clear hs gf
                  obtain ⟨y, hy⟩ : ∃ y, lf s = y := ⟨_, rfl⟩
                  rw [hy] at r4 hlfb HSTEP
                  clear hy
                  by_cases hmn : acc ≤ 1 + y
                  · have hmin : min acc (1 + y) = acc := by omega
                    rw [hmin] at HSTEP
                    go_wp2
                    go_still_tail 15, (by kernel_rfl)
                    change wpList _ _ _ _ _ wi.drew
                    have hbd : Below wi.heap.size wi wi.drew := Below.drew (Below.refl _ _)
                    have s2 := cellKeep hbd r2 hgb; have s3 := frozenKeep hbd r3 hgb
                    have HBO4 := hide (HBO.out.below hbd); have HFI4 := hide (HFI.out.below hbd)
                    have hbk4 := bnext hbki hbd (by omega)
                    generalize wi.drew = W4 at s2 s3 HBO4 HFI4 hbk4 ⊢
                    clear hbd r1 r2 r3 r4 HBO HFI hbki
                    go_wp2
                    go_roundw
                    case rel => exact ⟨q, acc, by omega, by first | rfl | go_num, hide (by have := ownG_store encI_len HBO4.out (show b < N by omega) (x := acc) (z := .int .i64 acc) rfl; rw [rowG_congr (v := bestTab lf b acc) (fun j _ => by unfold bestTab; by_cases e : j = b; (subst e; simp); simp [e])] at this; exact this), hide (HFI4.out.setFar (p := ⟨wo.heap.size, b, none⟩) (by simp [Value.ownBlock]; omega) _), hide (by rw [← HSTEP.out]; exact HPL.out), HPT2, by omega, by omega, below_store hbk4 (by omega)⟩
                    case measure => simp [intOf]; omega
                  · have hmin : min acc (1 + y) = 1 + y := by omega
                    rw [hmin] at HSTEP
                    go_wp2
                    go_still_tail 15, (by kernel_rfl)
                    change wpList _ _ _ _ _ wi.drew
                    have hbd : Below wi.heap.size wi wi.drew := Below.drew (Below.refl _ _)
                    have s2 := cellKeep hbd r2 hgb; have s3 := frozenKeep hbd r3 hgb
                    have HBO4 := hide (HBO.out.below hbd); have HFI4 := hide (HFI.out.below hbd)
                    have hbk4 := bnext hbki hbd (by omega)
                    generalize wi.drew = W4 at s2 s3 HBO4 HFI4 hbk4 ⊢
                    clear hbd r1 r2 r3 r4 HBO HFI hbki
                    go_wp2
                    go_roundw
                    case rel => exact ⟨q, 1 + y, by omega, by first | rfl | go_num, hide (by have := ownG_store encI_len HBO4.out (show b < N by omega) (x := 1 + y) (z := .int .i64 (1 + y)) rfl; rw [rowG_congr (v := bestTab lf b (1 + y)) (fun j _ => by unfold bestTab; by_cases e : j = b; (subst e; simp); simp [e])] at this; exact this), hide (HFI4.out.setFar (p := ⟨wo.heap.size, b, none⟩) (by simp [Value.ownBlock]; omega) _), hide (by rw [← HSTEP.out]; exact HPL.out), HPT2, by omega, by omega, below_store hbk4 (by omega)⟩
                    case measure => simp [intOf]; omega
                · rw [gf] at r1 HSTEP
                  rw [if_neg (by simp)] at HSTEP
                  clear gf
                  go_wp2
                  go_roundw
                  case rel => exact ⟨q, acc, by omega, by first | rfl | go_num, HBO, HFI, hide (by rw [← HSTEP.out]; exact HPL.out), HPT2, by omega, by omega, hbki⟩
                  case measure => simp [intOf]; omega
              · obtain rfl : p = 0 := by omega
                have hacc : acc = lf b := by have := HPL.out; rwa [partLoop_zero] at this
                have HBO2 := hide (show Own _ wo.heap.size 3 1 encI (.slice (some ⟨wo.heap.size, 0, none⟩) N N) (rowG N (bestTab lf (b + 1) 0)) by
                  have := HBO.out
                  rw [rowG_congr (v := bestTab lf (b + 1) 0) (fun j _ => by unfold bestTab; by_cases e : j < b; (rw [if_pos e, if_pos (by omega)]); (rw [if_neg e]; by_cases e2 : j = b; (subst e2; simp [hacc]); (rw [if_neg e2, if_neg (by omega)]; simp)))] at this
                  exact this)
                clear hacc
                go_wp2
                go_roundw
                case rel => exact ⟨b + 1, by omega, by omega, by go_num, HBO2, HFI, hbki⟩
                case measure => simp [intOf]; omega
          · obtain rfl : b = N := by omega
            have hnb : ¬ (b : Int) ≤ M := by have := HMN.out; omega
            have hbc := ownG_cell encI_len HBO0.out f4 (z := .int .i64 (lf M)) (by show [Value.int .i64 (bestTab lf b 0 M)] = _; unfold bestTab; rw [if_pos f4])
            have r2 := hbc.1
            clear hbc
            go_wp2
            go_ret
            exact ⟨ret_int (by rw [HV2.out, HLF.out]), hbk0⟩
  · have HF := hide (show leastLockings x0 x1 x2 ns = -1 by unfold leastLockings; rw [g]; rfl)
    go_enter Try.func23, Try.ntmps23
    go_wp2_with (go_at_call 56; with_reducible refine (l10Fits_any _ _ _ _ ns _ ((RdB.keep HR1.out (B' := w.heap.size) (by repeat (first | exact Below.refl _ _ | assumption | refine Below.setCell ?_ (by first | omega | (simp <;> omega)) _ | refine Below.alloc ?_ (by first | omega | (simp <;> omega)) _ | refine below_drewN ?_ _ | refine Below.drew ?_ | refine Below.trans ?_ (Below.mono (by assumption) (by first | omega | (simp <;> omega))))) (Nat.le_refl _)).mono (by first | omega | (simp <;> omega)))).mono ?_; rintro e w1 ⟨rfl, hb'⟩; (first | have hb := bnext hb hb' | have hb := bnextA hb hb' | have hb := hb'); clear hb'; obtain ⟨hc, hf⟩ := bcell hb; have hz := hb.size; (try simp at hz))
    go_ret
    exact ⟨ret_int (by rw [HF.out]), (by repeat (first | exact Below.refl _ _ | assumption | refine Below.setCell ?_ (by first | omega | (simp <;> omega)) _ | refine Below.alloc ?_ (by first | omega | (simp <;> omega)) _ | refine below_drewN ?_ _ | refine Below.drew ?_ | refine Below.trans ?_ (Below.mono (by assumption) (by first | omega | (simp <;> omega)))))⟩
set_option maxRecDepth 100000 in
set_option maxHeartbeats 16000000 in
theorem impl_LeastLockings_any (x0 x1 x2 : Int) (v1 : Value) (ns : List Int) (w : World) (h1 : RdI w v1 ns) :
    Calls Try.prog 24 #[.agg #[.int .i64 x0, .int .i64 x1, .int .i64 x2], v1] w fun e w' => e = .returned (.int .i64 (leastLockings x0 x1 x2 ns)) ∧ Below w.heap.size w w' := by
  have HR1 := hide h1
  obtain ⟨A1, c1, rfl, hc1, hm1, h1⟩ := h1
  unfold maxLen at hm1
  clear h1
  obtain ⟨i0, hi, hz0, hz1, hz2⟩ := info_parts int_info
  obtain ⟨j0, hj, hy0, hy1, hy2⟩ := info_parts bool_info
  rcases ch1 (lockFits x0 x1 x2 ns) with g | g
  · obtain ⟨g1, g2⟩ := lockFits_of g
    obtain ⟨a0, a1, a2, a3, a4, a5⟩ := chOk_of g1
    obtain ⟨l8, hns⟩ := lengthsOk_of g2
    have HNS := hide hns; clear hns
    obtain ⟨m, rfl⟩ : ∃ m : Nat, x1 = m := ⟨x1.toNat, by omega⟩
    have HV := hide (show leastLockings x0 m x2 ns = leastF (fitB x0 m ns) ns.length (2 ^ ns.length - 1) by unfold leastLockings; rw [if_pos g, Int.toNat_natCast])
    have hm0 : 1 ≤ m := by omega
    have hm3 : m ≤ 3 := by omega
    have G1 := hide g1; have G2 := hide g2
    have hNlt : 2 ^ ns.length ≤ 256 := Nat.pow_le_pow_right (n := 2) (by omega) l8
    have hNw := wrap_i64 (2 ^ ns.length) (by omega)
    have hpos : 0 < 2 ^ ns.length := Nat.pow_pos (by omega)
    rw [← two_pow_cast] at hNw
    obtain ⟨N, hN⟩ : ∃ N, 2 ^ ns.length = N := ⟨_, rfl⟩
    have f1 : IntKind.i64.wrap ((2 : Int) ^ ns.length) = (N : Int) := by rw [hNw, two_pow_cast, hN]
    rw [hN] at hNlt hpos HV
    clear hNw hN
    obtain ⟨M, hM⟩ : ∃ M, N = M + 1 := ⟨N - 1, by omega⟩
    have f2 : IntKind.i64.wrap ((N : Int) - 1) = (M : Int) := by rw [IntWalk.i64_in _ (by omega)]; omega
    have f3 : IntKind.i64.wrap ((M : Int) + 1) = (N : Int) := by rw [IntWalk.i64_in _ (by omega)]; omega
    have f4 : M < N := by omega
    have f4' : (M : Int) < N := by omega
    have f5 : (N : Int) - 1 = M := by omega
    have HMN := hide hM
    have HV2 := hide (show leastLockings x0 m x2 ns = leastF (fitB x0 m ns) ns.length M by rw [HV.out, hM]; first | done | rfl)
    have hMlt : M ≤ 255 := by omega
    clear hM HV hpos
    obtain ⟨F, hF⟩ : ∃ F, fitB x0 m ns = F := ⟨_, rfl⟩
    have HFB := hide (show ∀ b, canPack x0 m (subL ns b) = F b from fun b => by rw [← hF])
    rw [hF] at HV2
    clear hF
    have HBD := hide (fun b => leastF_bd F (ns.length : Int) (by omega) b)
    have HSC := hide (leastF_succ F (ns.length : Int))
    have hf0 := leastF_zero F (ns.length : Int)
    obtain ⟨lf, hlf⟩ : ∃ lf, leastF F (ns.length : Int) = lf := ⟨_, rfl⟩
    have HLF := hide hlf
    rw [hlf] at hf0
    have HF0 := hide hf0
    clear hlf hf0
    have HPS := hide (show ∀ b, (packShips x0 m x2 (subL ns b)).isSome = F b from fun b => by rw [packShips_some G1.out (lengthsOk_sub G2.out (subL_len ns b) (fun x hx => (subL_sub ns b).subset hx)), HFB.out])
    go_enter Try.func24, Try.ntmps24
    go_wp2_with (first
      | (go_at_call 57; with_reducible refine (lockable_any _ _ _ _ ns _ ((RdB.keep HR1.out (B' := w.heap.size) (by repeat (first | exact Below.refl _ _ | assumption | refine Below.setCell ?_ (by first | omega | (simp <;> omega)) _ | refine Below.alloc ?_ (by first | omega | (simp <;> omega)) _ | refine below_drewN ?_ _ | refine Below.drew ?_ | refine Below.trans ?_ (Below.mono (by assumption) (by first | omega | (simp <;> omega))))) (Nat.le_refl _)).mono (by first | omega | (simp <;> omega)))).mono ?_; rintro e w1 ⟨rfl, hb'⟩; (first | have hb := bnext hb hb' | have hb := bnextA hb hb' | have hb := hb'); clear hb'; obtain ⟨hc, hf⟩ := bcell hb; have hz := hb.size; (try simp at hz))
      | (refine wpList_make_full _ rfl _ _ _ rfl w1.heap.size 3 i0 _ 1 Try.underlying24 hi hz0 hz1 _ _ _ _ N rfl rfl rfl rfl (by rw [hz2]; omega) (by unfold maxLen; omega) (by omega) ?_; intro w2 hown hg)
      | (refine wpList_make_full _ rfl _ _ _ rfl w2.heap.size 4 j0 _ 1 Try.underlying78 hj hy0 hy1 _ _ _ _ N rfl rfl rfl rfl (by rw [hy2]; omega) (by unfold maxLen; omega) (by omega) ?_; intro w3 hownb hgb))
    have hz0' : w1.cell? ⟨w.heap.size, 0, none⟩ = some (.int .i64 x0) := by rw [hc _ _ (by simp)]; simp [go_sem]
    have hz1' : w1.cell? ⟨w.heap.size, 1, none⟩ = some (.int .i64 m) := by rw [hc _ _ (by simp)]; simp [go_sem]
    have hz2' : w1.cell? ⟨w.heap.size, 2, none⟩ = some (.int .i64 x2) := by rw [hc _ _ (by simp)]; simp [go_sem]
    have Z0 := hide hz0'; have Z1 := hide hz1'; have Z2 := hide hz2'; clear hz0' hz1' hz2'
    have hs1 := hb.size
    simp only [World.size_alloc] at hs1
    have hl1 : w.heap.size < w1.heap.size := by omega
    have hbw : Below w.heap.size w w1 := (by repeat (first | exact Below.refl _ _ | assumption | refine Below.setCell ?_ (by first | omega | (simp <;> omega)) _ | refine Below.alloc ?_ (by first | omega | (simp <;> omega)) _ | refine below_drewN ?_ _ | refine Below.drew ?_ | refine Below.trans ?_ (Below.mono (by assumption) (by first | omega | (simp <;> omega)))))
    clear hc hf hz hb g g1 g2
    have hb2 : Below w1.heap.size w1 w2 := (Below.refl _ _).grown hg (Nat.le_refl _) (by simp)
    have hb3 : Below w2.heap.size w2 w3 := (Below.refl _ _).grown hgb (Nat.le_refl _) (by simp)
    have hou := ownG_made (enc := encI) 0 (.int .i64 0) rfl rfl hown
    have hofb := ownG_made (enc := encB) false (.bool false) rfl rfl hownb
    have hgs := (Own.lt hou _ rfl).2
    simp only at hgs
    have hgs3 := (Own.lt hofb _ rfl).2
    simp only at hgs3
    have hou0 : Own w3 w1.heap.size 3 1 encI (.slice (some ⟨w1.heap.size, 0, none⟩) N N) (rowG N (bestTab lf 1 0)) := by
      rw [rowG_congr (v := bestTab lf 1 0) (fun j _ => by unfold bestTab; by_cases e : j < 1; (obtain rfl : j = 0 := (by omega); simp [HF0.out]); (rw [if_neg e]; simp))] at hou; exact hou.below hb3
    have hfi0 : Own w3 w2.heap.size 4 1 encB (.slice (some ⟨w2.heap.size, 0, none⟩) N N) (rowG N (fitTab F 1 1)) := by
      rw [rowG_congr (v := fitTab F 1 1) (fun j _ => by unfold fitTab; rw [if_neg (by omega)])] at hofb; exact hofb
    have hbw3 := hb2.trans (hb3.mono (by omega))
    have HS2 := hide (show ∀ b, 1 ≤ b → partLoop F lf b b (ns.length : Int) = lf b from fun b hb => by
      obtain ⟨n, rfl⟩ : ∃ n, b = n + 1 := ⟨b - 1, by omega⟩
      rw [← HLF.out]
      exact (HSC.out n).symm)
    clear hou hofb hown hownb hg hgb hb2 hb3
    go_loopw [8] (fun s wr => ∃ b : Nat, 1 ≤ b ∧ b ≤ N ∧ s = .int .i64 b ∧ Hid (Own wr w1.heap.size 3 1 encI (.slice (some ⟨w1.heap.size, 0, none⟩) N N) (rowG N (bestTab lf b 0))) ∧ Hid (Own wr w2.heap.size 4 1 encB (.slice (some ⟨w2.heap.size, 0, none⟩) N N) (rowG N (fitTab F 1 b))) ∧ Below w1.heap.size w1 wr) (fun s _ => N - (intOf s).toNat)
    case atStart => exact ⟨1, Nat.le_refl _, by have := HMN.out; omega, rfl, hide hou0, hide hfi0, hbw3⟩
    case round =>
      clear hou0 hfi0 hbw3 hgs3
      obtain ⟨b, hb1, hbN, rfl, HBO0, HFI0, hbk⟩ := hrel
      obtain ⟨wo, rfl⟩ : ∃ wo : World, wo = wr := ⟨_, rfl⟩
      have hbs := hbk.size
      have hgl := (Own.lt HBO0.out _ rfl).2
      have hgl2 := (Own.lt HFI0.out _ rfl).2
      simp only at hgl hgl2
      by_cases hlt : b < N
      · have hlt' : (b : Int) < N := by omega
        have z0 := cellKeep hbk Z0.out hl1; have z1 := cellKeep hbk Z1.out hl1; have z2 := cellKeep hbk Z2.out hl1
        have hl9 : w.heap.size < wo.heap.size := by omega
        have hfc := ownG_cell encB_len HFI0.out hlt (z := .bool false) (by show [Value.bool (fitTab F 1 b b)] = _; unfold fitTab; rw [if_neg (by omega)])
        have q1 := hfc.1; have q2 := hfc.2
        clear hfc
        have hRS := (RdB.keep HR1.out (bnext hbw hbk (Nat.le_refl _)) (Nat.le_refl _)).mono (B' := wo.heap.size) (by omega)
        have HRS := hide hRS; clear hRS
        have HNS2 := hide (show ∀ x ∈ subL ns b, 1 ≤ x ∧ x ≤ 400 from fun x hx => HNS.out x ((subL_sub ns b).subset hx))
        have HL8 := hide (show (subL ns b).length ≤ 8 from Nat.le_trans (subL_len ns b) l8)
        have hPk := HFB.out b
        have HPK := hide hPk; clear hPk
        have hk61 : b < 4611686018427387904 := by omega
        have keepS : ∀ w', Below wo.heap.size wo w' → w'.cell? ⟨w.heap.size, 0, none⟩ = some (.int .i64 x0) ∧ w'.cell? ⟨w.heap.size, 1, none⟩ = some (.int .i64 m) ∧ w'.cell? ⟨w.heap.size, 2, none⟩ = some (.int .i64 x2) ∧ w'.cell? ⟨w2.heap.size, b, none⟩ = some (valAt w' ⟨w2.heap.size, b, none⟩) ∧ w'.frozen? ⟨w2.heap.size, b, none⟩ = false := fun w' hB => ⟨cellKeep hB z0 hl9, cellKeep hB z1 hl9, cellKeep hB z2 hl9, valAt_of (cellKeep hB q1 hgl2), frozenKeep hB q2 hgl2⟩
        have hne9 : w2.heap.size ≠ w.heap.size := by omega
        have keepT : ∀ (w9 : World) (v : Value), Below wo.heap.size wo w9 → (fun w' => w'.cell? ⟨w.heap.size, 0, none⟩ = some (.int .i64 x0) ∧ w'.cell? ⟨w.heap.size, 1, none⟩ = some (.int .i64 m) ∧ w'.cell? ⟨w.heap.size, 2, none⟩ = some (.int .i64 x2) ∧ w'.cell? ⟨w2.heap.size, b, none⟩ = some (valAt w' ⟨w2.heap.size, b, none⟩) ∧ w'.frozen? ⟨w2.heap.size, b, none⟩ = false) (w9.setCell ⟨w2.heap.size, b, none⟩ v) := fun w9 v hB => ⟨(World.cell?_setCell_other _ _ _ _ (fun e => hne9 (congrArg Addr.block e))).trans (cellKeep hB z0 hl9), (World.cell?_setCell_other _ _ _ _ (fun e => hne9 (congrArg Addr.block e))).trans (cellKeep hB z1 hl9), (World.cell?_setCell_other _ _ _ _ (fun e => hne9 (congrArg Addr.block e))).trans (cellKeep hB z2 hl9), valAt_of (World.cell?_setCell_same _ _ _ (cellKeep hB q1 hgl2)), by simpa [go_sem] using frozenKeep hB q2 hgl2⟩
        go_wp2
        go_region_held3 (fun w' => w'.cell? ⟨w.heap.size, 0, none⟩ = some (.int .i64 x0) ∧ w'.cell? ⟨w.heap.size, 1, none⟩ = some (.int .i64 m) ∧ w'.cell? ⟨w.heap.size, 2, none⟩ = some (.int .i64 x2) ∧ w'.cell? ⟨w2.heap.size, b, none⟩ = some (valAt w' ⟨w2.heap.size, b, none⟩) ∧ w'.frozen? ⟨w2.heap.size, b, none⟩ = false)
          (first
            | exact keepS _ (Below.drew (Below.refl _ _))
            | exact keepT _ _ hB12
            | exact keepS _ hB12
            | exact keepS _ hB11)
          (first
            | (go_at_call 60; have qB : Below wo.heap.size wo wo.drew := Below.drew (Below.refl _ _); with_reducible refine (picked_any _ ns b hk61 l8 _ ((RdB.keep HRS.out qB (Nat.le_refl _)).mono qB.size)).mono ?_; rintro e w11 ⟨v11, rfl, ho11, hb11⟩; have hRI11 := Own.rd encI_len ho11; clear ho11; have hB11 := bnext qB hb11 (Nat.le_refl _); clear qB)
            | (go_at_call 58; with_reducible refine (packed_any x0 x2 m a0 a1 hm0 hm3 _ _ HNS2.out HL8.out _ (by first | exact hRI11 | exact hRI11.below (by repeat (first | exact Below.refl _ _ | assumption | refine Below.setCell ?_ (by first | omega | (simp <;> omega)) _ | refine Below.alloc ?_ (by first | omega | (simp <;> omega)) _ | refine below_drewN ?_ _ | refine Below.drew ?_ | refine Below.trans ?_ (Below.mono (by assumption) (by first | omega | (simp <;> omega))))))).mono ?_; rintro e w12 ⟨rfl, hb12⟩; rw [HPK.out]; have hB12 := bnext hB11 hb12 (Nat.le_refl _)))
        have hs12 := hB12.size
        have HFI1 := hide (show Own (w12.setCell ⟨w2.heap.size, b, none⟩ (.bool (F b))) w2.heap.size 4 1 encB (.slice (some ⟨w2.heap.size, 0, none⟩) N N) (rowG N (fitTab F 1 (b + 1))) by
          have := ownG_store encB_len (HFI0.out.below hB12) hlt (x := F b) (z := .bool (F b)) rfl
          rw [rowG_congr (v := fitTab F 1 (b + 1)) (fun j _ => by unfold fitTab; by_cases e : j = b; (subst e; rw [if_pos rfl, if_pos ⟨hb1, by omega⟩]); (rw [if_neg e]; by_cases e2 : 1 ≤ j ∧ j < b; (rw [if_pos e2, if_pos ⟨e2.1, by omega⟩]); (rw [if_neg e2, if_neg (by omega)])))] at this
          exact this)
        have HBO1 := hide ((HBO0.out.below hB12).setFar (p := ⟨w2.heap.size, b, none⟩) (by simp [Value.ownBlock]; omega) (.bool (F b)))
        have hb9 := below_store (v := .bool (F b)) (o := b) (bnext hbk hB12 (Nat.le_refl _)) (show w1.heap.size ≤ w2.heap.size by omega)
        have hg9 : w2.heap.size < (w12.setCell ⟨w2.heap.size, b, none⟩ (.bool (F b))).heap.size := by rw [size_store]; omega
        generalize w12.setCell ⟨w2.heap.size, b, none⟩ (.bool (F b)) = W5 at HFI1 HBO1 hb9 hg9 ⊢
        clear z0 z1 z2 q1 q2 keepS keepT HBO0 HFI0 hbk
        have hbc := ownG_cell encI_len HBO1.out hlt (z := .int .i64 0) (by show [Value.int .i64 (bestTab lf b 0 b)] = _; unfold bestTab; rw [if_neg (Nat.lt_irrefl _), if_pos rfl])
        have r2 := hbc.1; have r3 := hbc.2
        clear hbc
        have HBO2 := hide (show Own (W5.setCell ⟨w1.heap.size, b, none⟩ (.int .i64 ns.length)) w1.heap.size 3 1 encI (.slice (some ⟨w1.heap.size, 0, none⟩) N N) (rowG N (bestTab lf b ns.length)) by
          have := ownG_store encI_len HBO1.out hlt (x := (ns.length : Int)) (z := .int .i64 ns.length) rfl
          rw [rowG_congr (v := bestTab lf b ns.length) (fun j _ => by unfold bestTab; by_cases e : j = b; (subst e; simp); simp [e])] at this
          exact this)
        have HFI2 := hide (HFI1.out.setFar (p := ⟨w1.heap.size, b, none⟩) (by simp [Value.ownBlock]; omega) (.int .i64 ns.length))
        have hbk1 := below_store (v := .int .i64 ns.length) (o := b) hb9 (Nat.le_refl w1.heap.size)
        go_wp2
        go_loopw [9] (fun s wr => ∃ (p : Nat) (acc : Int), p ≤ b ∧ s = .int .i64 p ∧ Hid (Own wr w1.heap.size 3 1 encI (.slice (some ⟨w1.heap.size, 0, none⟩) N N) (rowG N (bestTab lf b acc))) ∧ Hid (Own wr w2.heap.size 4 1 encB (.slice (some ⟨w2.heap.size, 0, none⟩) N N) (rowG N (fitTab F 1 (b + 1)))) ∧ Hid (partLoop F lf b p acc = lf b) ∧ Hid (Part p b) ∧ 0 ≤ acc ∧ acc ≤ ns.length ∧ Below w1.heap.size w1 wr) (fun s _ => (intOf s).toNat)
        case atStart => exact ⟨b, ns.length, Nat.le_refl _, rfl, HBO2, HFI2, hide (HS2.out b hb1), hide (part_refl b), by omega, by omega, hbk1⟩
        case round =>
          clear HBO1 HFI1 HBO2 HFI2 hbk1 r2 r3 hb9 hg9
          obtain ⟨p, acc, hpb0, rfl, HBO, HFI, HPL, HPT, hacc0, hacc1, hbki⟩ := hrel
          have hbp : Part p b := HPT.out
          obtain ⟨wi, rfl⟩ : ∃ wi : World, wi = wr := ⟨_, rfl⟩
          have hbkis := hbki.size
          have hgb := (Own.lt HBO.out _ rfl).2
          by_cases hp0 : 0 < p
          · have hpb := hbp.le
            have hpN : p < N := by omega
            have hpN' : (p : Int) < N := by omega
            have hbN' : (b : Int) < N := by omega
            have hp1 : (0 : Int) < p := by omega
            have hd1 : IntKind.i64.wrap ((p : Int) - 1) = ((p - 1 : Nat) : Int) := by rw [IntWalk.i64_in _ (by omega)]; omega
            have hand := bits_and_i64 (p - 1) b (by omega) (by omega)
            have HLE := hide (and_lt_of (set := b) (show p ≠ 0 by omega))
            have HPT2 := hide (part_and (p - 1) b)
            have HSTEP := hide (partLoop_step (fit := F) (g := lf) (set := b) (acc := acc) (show p ≠ 0 by omega))
            have hle := HLE.out
            obtain ⟨q, hq⟩ : ∃ q, (p - 1) &&& b = q := ⟨_, rfl⟩
            rw [hq] at hand HLE HPT2 HSTEP hle
            clear hq
            have hfc := ownG_cell encB_len HFI.out hpN (z := .bool (F p)) (by show [Value.bool (fitTab F 1 (b + 1) p)] = _; unfold fitTab; rw [if_pos ⟨by omega, by omega⟩])
            have hbc := ownG_cell encI_len HBO.out (show b < N by omega) (z := .int .i64 acc) (by show [Value.int .i64 (bestTab lf b acc b)] = _; unfold bestTab; rw [if_neg (Nat.lt_irrefl _), if_pos rfl])
            have r1 := hfc.1; have r2 := hbc.1; have r3 := hbc.2
            clear hfc hbc
            rcases ch1 (F p) with gf | gf
            · have hbc2 := ownG_cell encI_len HBO.out (show b - p < N by omega) (z := .int .i64 (lf (b - p))) (by show [Value.int .i64 (bestTab lf b acc (b - p))] = _; unfold bestTab; rw [if_pos (by omega)])
              have r4 := hbc2.1
              clear hbc2
              obtain ⟨c9, hsub, _, htb⟩ := andNot_i64 b p (by omega) (by omega); rw [andNot_part hbp htb] at hsub; clear htb
              have hsubN : b - p < N := by omega
              have hsubN' : ((b - p : Nat) : Int) < N := by omega
              have hlfb := HBD.out (b - p)
              rw [HLF.out] at hlfb
              rw [gf] at r1 HSTEP
              rw [if_pos rfl] at HSTEP
              obtain ⟨s, hs⟩ : ∃ s, b - p = s := ⟨_, rfl⟩
              rw [hs] at r4 hsub hsubN hsubN' hlfb HSTEP
              clear hs gf
              obtain ⟨y, hy⟩ : ∃ y, lf s = y := ⟨_, rfl⟩
              rw [hy] at r4 hlfb HSTEP
              clear hy
              by_cases hmn : acc ≤ 1 + y
              · have hmin : min acc (1 + y) = acc := by omega
                rw [hmin] at HSTEP
                go_wp2
                go_still_tail 15, (by kernel_rfl)
                change wpList _ _ _ _ _ wi.drew
                have hbd : Below wi.heap.size wi wi.drew := Below.drew (Below.refl _ _)
                have s2 := cellKeep hbd r2 hgb; have s3 := frozenKeep hbd r3 hgb
                have HBO4 := hide (HBO.out.below hbd); have HFI4 := hide (HFI.out.below hbd)
                have hbk4 := bnext hbki hbd (by omega)
                generalize wi.drew = W4 at s2 s3 HBO4 HFI4 hbk4 ⊢
                clear hbd r1 r2 r3 r4 HBO HFI hbki
                go_wp2
                go_roundw
                case rel => exact ⟨q, acc, by omega, by first | rfl | go_num, hide (by have := ownG_store encI_len HBO4.out (show b < N by omega) (x := acc) (z := .int .i64 acc) rfl; rw [rowG_congr (v := bestTab lf b acc) (fun j _ => by unfold bestTab; by_cases e : j = b; (subst e; simp); simp [e])] at this; exact this), hide (HFI4.out.setFar (p := ⟨w1.heap.size, b, none⟩) (by simp [Value.ownBlock]; omega) _), hide (by rw [← HSTEP.out]; exact HPL.out), HPT2, by omega, by omega, below_store hbk4 (Nat.le_refl _)⟩
                case measure => simp [intOf]; omega
              · have hmin : min acc (1 + y) = 1 + y := by omega
                rw [hmin] at HSTEP
                go_wp2
                go_still_tail 15, (by kernel_rfl)
                change wpList _ _ _ _ _ wi.drew
                have hbd : Below wi.heap.size wi wi.drew := Below.drew (Below.refl _ _)
                have s2 := cellKeep hbd r2 hgb; have s3 := frozenKeep hbd r3 hgb
                have HBO4 := hide (HBO.out.below hbd); have HFI4 := hide (HFI.out.below hbd)
                have hbk4 := bnext hbki hbd (by omega)
                generalize wi.drew = W4 at s2 s3 HBO4 HFI4 hbk4 ⊢
                clear hbd r1 r2 r3 r4 HBO HFI hbki
                go_wp2
                go_roundw
                case rel => exact ⟨q, 1 + y, by omega, by first | rfl | go_num, hide (by have := ownG_store encI_len HBO4.out (show b < N by omega) (x := 1 + y) (z := .int .i64 (1 + y)) rfl; rw [rowG_congr (v := bestTab lf b (1 + y)) (fun j _ => by unfold bestTab; by_cases e : j = b; (subst e; simp); simp [e])] at this; exact this), hide (HFI4.out.setFar (p := ⟨w1.heap.size, b, none⟩) (by simp [Value.ownBlock]; omega) _), hide (by rw [← HSTEP.out]; exact HPL.out), HPT2, by omega, by omega, below_store hbk4 (Nat.le_refl _)⟩
                case measure => simp [intOf]; omega
            · rw [gf] at r1 HSTEP
              rw [if_neg (by simp)] at HSTEP
              clear gf
              go_wp2
              go_roundw
              case rel => exact ⟨q, acc, by omega, by first | rfl | go_num, HBO, HFI, hide (by rw [← HSTEP.out]; exact HPL.out), HPT2, by omega, by omega, hbki⟩
              case measure => simp [intOf]; omega
          · obtain rfl : p = 0 := by omega
            have hacc : acc = lf b := by have := HPL.out; rwa [partLoop_zero] at this
            have HBO2 := hide (show Own _ w1.heap.size 3 1 encI (.slice (some ⟨w1.heap.size, 0, none⟩) N N) (rowG N (bestTab lf (b + 1) 0)) by
              have := HBO.out
              rw [rowG_congr (v := bestTab lf (b + 1) 0) (fun j _ => by unfold bestTab; by_cases e : j < b; (rw [if_pos e, if_pos (by omega)]); (rw [if_neg e]; by_cases e2 : j = b; (subst e2; simp [hacc]); (rw [if_neg e2, if_neg (by omega)]; simp)))] at this
              exact this)
            clear hacc
            go_wp2
            go_roundw
            case rel => exact ⟨b + 1, by omega, by omega, by go_num, HBO2, HFI, hbki⟩
            case measure => simp [intOf]; omega
      · obtain rfl : b = N := by omega
        have hbc := ownG_cell encI_len HBO0.out f4 (z := .int .i64 (lf M)) (by show [Value.int .i64 (bestTab lf b 0 M)] = _; unfold bestTab; rw [if_pos f4])
        have r2 := hbc.1
        clear hbc
        go_wp2
        go_ret
        exact ⟨ret_int (by rw [HV2.out, HLF.out]), bnext hbw hbk (Nat.le_refl _)⟩
  · have HF := hide (show leastLockings x0 x1 x2 ns = -1 by unfold leastLockings; rw [g]; rfl)
    go_enter Try.func24, Try.ntmps24
    go_wp2_with (go_at_call 57; with_reducible refine (lockable_any _ _ _ _ ns _ ((RdB.keep HR1.out (B' := w.heap.size) (by repeat (first | exact Below.refl _ _ | assumption | refine Below.setCell ?_ (by first | omega | (simp <;> omega)) _ | refine Below.alloc ?_ (by first | omega | (simp <;> omega)) _ | refine below_drewN ?_ _ | refine Below.drew ?_ | refine Below.trans ?_ (Below.mono (by assumption) (by first | omega | (simp <;> omega))))) (Nat.le_refl _)).mono (by first | omega | (simp <;> omega)))).mono ?_; rintro e w1 ⟨rfl, hb'⟩; (first | have hb := bnext hb hb' | have hb := bnextA hb hb' | have hb := hb'); clear hb'; obtain ⟨hc, hf⟩ := bcell hb; have hz := hb.size; (try simp at hz))
    go_ret
    exact ⟨ret_int (by rw [HF.out]), (by repeat (first | exact Below.refl _ _ | assumption | refine Below.setCell ?_ (by first | omega | (simp <;> omega)) _ | refine Below.alloc ?_ (by first | omega | (simp <;> omega)) _ | refine below_drewN ?_ _ | refine Below.drew ?_ | refine Below.trans ?_ (Below.mono (by assumption) (by first | omega | (simp <;> omega)))))⟩
end Go.Proofs.Ytjmffhpfmfmnlaa
