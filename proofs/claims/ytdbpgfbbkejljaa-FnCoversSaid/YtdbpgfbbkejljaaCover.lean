/- Which duties go together: the program's sets as bits. No condition. -/
import Derived.Test.YtdbpgfbbkejljaaKeep
import Derived.Test.YtdbpgfbbkejljaaDuty
import Derived.Test.YtdbpgfbbkejljaaApp
import Derived.Test.YtdbpgfbbkejljaaRivalL
import Derived.Test.YtdbpgfbbkejljaaBits
import Derived.StillTailTactics
import Derived.Deep.RegionHeld3
import Derived.Outline
namespace Go.Proofs.Ytdbpgfbbkejljaa
open Go.RowKit
set_option linter.unusedVariables false
theorem calls_bool {P : Program} {f : FuncId} {args : Array Value} {w : World} {R : World → Prop} {b c : Bool} (h : Calls P f args w fun e w' => e = .returned (.bool b) ∧ R w') (hb : b = c) : Calls P f args w fun e w' => e = .returned (.bool c) ∧ R w' := hb ▸ h
theorem Own.lt {α : Type} {w : World} {base sz : Nat} {T : TypeId} {enc : α → List Value} {v : Value} {xs : List α} (h : Own w base T sz enc v xs) (g : Nat) (e : v.ownBlock = some g) : base ≤ g ∧ g < w.heap.size := World.ownsRow.lt h g e
theorem RdB.setFar {α : Type} {w : World} {B sz : Nat} {enc : α → List Value} {v : Value} {xs : List α} (h : RdB w B sz enc v xs) {p : Addr} (hp : v.ownBlock ≠ some p.block) (u : Value) : RdB (w.setCell p u) B sz enc v xs := by
  obtain ⟨A, c, rfl, hc, hm, h⟩ := h
  refine ⟨A, c, rfl, hc, hm, fun h0 => ?_⟩
  obtain ⟨b, off, rfl, hlt, hcell⟩ := h h0
  refine ⟨b, off, rfl, hlt, fun i x hx j u hu => ?_⟩
  rw [World.cell?_setCell_other _ _ _ _ (fun e => hp (by rw [e]; rfl))]
  exact hcell i x hx j u hu
theorem ch2b (a b : Bool) : (a = true) ∨ (a = false ∧ b = true) ∨ (a = false ∧ b = false) := by cases a <;> cases b <;> simp
/-- two duties go together -/
def bothD (p : Int) (ms : List Int) (xs : List DutyD) (i k : Nat) : Bool := canFollow p ms (xs.getD i default) (xs.getD k default) || canFollow p ms (xs.getD k default) (xs.getD i default)
theorem bothD_symm (p : Int) (ms : List Int) (xs : List DutyD) (i k : Nat) : bothD p ms xs i k = bothD p ms xs k i := by unfold bothD; rw [Bool.or_comm]
def partB (p : Int) (ms : List Int) (xs : List DutyD) (i k : Nat) : Bool := decide (i ≠ k) && bothD p ms xs i k
/-- the set of the partners of duty i -/
def partBits (p : Int) (ms : List Int) (xs : List DutyD) (i : Nat) : Nat := bitsOf (partB p ms xs i) xs.length
abbrev encU : Int → List Value := fun n => [.int .u64 n]
theorem encU_len (n : Int) : (encU n).length = 1 := rfl
def rowL (n : Nat) (u : Nat → Nat) : List Int := (List.range n).map fun j => ((u j : Nat) : Int)
theorem rowL_len (m : Nat) (u : Nat → Nat) : (rowL m u).length = m := by simp [rowL]
theorem rowL_at (m : Nat) (u : Nat → Nat) {k : Nat} (h : k < m) : (rowL m u)[k]'(by rw [rowL_len]; exact h) = (u k : Int) := by simp [rowL]
theorem rowL_set (m : Nat) (u : Nat → Nat) (k v : Nat) : (rowL m u).set k (v : Int) = rowL m (fun j => if j = k then v else u j) := by
  apply List.ext_getElem
  · simp [rowL]
  · intro i h1 h2
    simp only [rowL, List.getElem_set, List.getElem_map, List.getElem_range]
    by_cases e : k = i
    · subst e; simp
    · rw [if_neg e, if_neg (fun h => e h.symm)]
theorem rowL_congr {m : Nat} {u v : Nat → Nat} (h : ∀ j, j < m → u j = v j) : rowL m u = rowL m v := by
  apply List.ext_getElem
  · simp [rowL]
  · intro i h1 h2; simp [rowL] at h1 ⊢; rw [h i h1]
theorem rowL_zero (m : Nat) : rowL m (fun _ => 0) = List.replicate m 0 := by
  apply List.ext_getElem
  · simp [rowL]
  · intro i h1 h2; simp [rowL]
theorem repU_zero : ∀ n : Nat, List.replicate n (Value.int .u64 0) = (List.replicate n (0 : Int)).flatMap encU
  | 0 => rfl
  | n + 1 => by rw [List.replicate_succ, List.replicate_succ, List.flatMap_cons, repU_zero n]; rfl
theorem ownU_zero {w : World} {base : Nat} {v : Value} {n : Nat} {T : TypeId} (h : w.ownsRow base T 1 v n (madeCells (Value.int .u64 0).cells (n * 1)).toList) : Own w base T 1 encU v (List.replicate n (0 : Int)) := by
  rw [show (Value.int IntKind.u64 0).cells = #[Value.int IntKind.u64 0] from rfl, toList_madeCells_one, Nat.mul_one, repU_zero] at h
  unfold Own
  rw [List.length_replicate]
  exact h
theorem uint_info : (Try.prog.info? 66).map (fun i => (i.zero, i.size, i.bytes)) = some (some (.int .u64 0), 1, 8) := by kernel_rfl
/-- what stands in the row of sets while duty i is at duty k -/
def midSets (p : Int) (ms : List Int) (xs : List DutyD) (i k : Nat) : Nat → Nat := fun j => if j < i then partBits p ms xs j else if j = i then bitsOf (partB p ms xs i) k else 0
set_option maxRecDepth 100000 in
set_option maxHeartbeats 16000000 in
theorem partners_any (p : Int) (v1 v2 : Value) (ms : List Int) (xs : List DutyD) (w : World) (h1 : RdI w v1 ms) (h2 : RdDuty w v2 xs) (h12 : xs.length ≤ 12) :
    Calls Try.prog 41 #[.int .i64 p, v1, v2] w fun e w' => ∃ v, e = .returned v ∧ Own w' w.heap.size 66 1 encU v (rowL xs.length (partBits p ms xs)) ∧ Below w.heap.size w w' := by
  have HR1 := hide h1
  obtain ⟨A1, c1, rfl, hc1, hm1, h1⟩ := h1
  obtain ⟨A2, c2, rfl, hc2, hm2, h2⟩ := h2
  unfold maxLen at hm1 hm2
  have H2 := hide h2; clear h1 h2
  obtain ⟨i0, hi, hz0, hz1, hz2⟩ := info_parts uint_info
  go_enter Try.func41, Try.ntmps41
  go_wp2_with (refine wpList_make_full _ rfl _ _ _ rfl w.heap.size 66 i0 _ 1 Try.underlying64 hi hz0 hz1 _ _ _ _ xs.length rfl rfl rfl rfl (by rw [hz2]; omega) (by unfold maxLen; omega) (by omega) ?_; intro w2 hown hg)
  have hb2 : Below w.heap.size w w2 := (Below.refl _ _).grown hg (Nat.le_refl _) (by simp)
  have hou := ownU_zero hown
  rw [← rowL_zero] at hou
  have hgs := (Own.lt hou _ rfl).2
  clear hown hg
  have hou0 : Own w2 w.heap.size 66 1 encU (.slice (some ⟨w.heap.size, 0, none⟩) xs.length xs.length) (rowL xs.length (midSets p ms xs 0 0)) := by rw [show rowL xs.length (midSets p ms xs 0 0) = rowL xs.length (fun _ => 0) from rowL_congr (fun j _ => by simp [midSets, bitsOf])]; exact hou
  clear hou
  go_loopw [17] (fun s wr => ∃ i : Nat, i ≤ xs.length ∧ s = .int .i64 i ∧ Hid (Own wr w.heap.size 66 1 encU (.slice (some ⟨w.heap.size, 0, none⟩) xs.length xs.length) (rowL xs.length (midSets p ms xs i 0))) ∧ w.heap.size < wr.heap.size ∧ Below w.heap.size w wr) (fun s _ => xs.length - (intOf s).toNat)
  case atStart => exact ⟨0, Nat.zero_le _, rfl, hide hou0, hgs, hb2⟩
  case round =>
    clear hou0 hgs hb2
    obtain ⟨i, hi', rfl, HO, hgl, hbk⟩ := hrel
    obtain ⟨wo, rfl⟩ : ∃ wo : World, wo = wr := ⟨_, rfl⟩
    have hbs := hbk.size
    by_cases hlt : i < xs.length
    · obtain ⟨b2, o2, rfl, hb2, hcell2⟩ := H2.out (by omega)
      have HC2 := hide hcell2
      have e0 : wo.cell? ⟨b2, o2 + i * 4, none⟩ = some (.int .i64 xs[i].start) := by
        rw [hbk.cell (p := ⟨b2, _, none⟩) hb2]; have := hcell2 i xs[i] (List.getElem?_eq_getElem hlt) 0 _ rfl; simpa using this
      have e1 : wo.cell? ⟨b2, o2 + i * 4 + 1, none⟩ = some (.int .i64 xs[i].fin) := by
        rw [hbk.cell (p := ⟨b2, _, none⟩) hb2]; have := hcell2 i xs[i] (List.getElem?_eq_getElem hlt) 1 _ rfl; simpa using this
      have e2 : wo.cell? ⟨b2, o2 + i * 4 + 2, none⟩ = some (.int .i64 xs[i].a) := by
        rw [hbk.cell (p := ⟨b2, _, none⟩) hb2]; have := hcell2 i xs[i] (List.getElem?_eq_getElem hlt) 2 _ rfl; simpa using this
      have e3 : wo.cell? ⟨b2, o2 + i * 4 + 3, none⟩ = some (.int .i64 xs[i].b) := by
        rw [hbk.cell (p := ⟨b2, _, none⟩) hb2]; have := hcell2 i xs[i] (List.getElem?_eq_getElem hlt) 3 _ rfl; simpa using this
      have HD := hide (getD_at hlt)
      obtain ⟨d, hd⟩ : ∃ d, xs[i] = d := ⟨_, rfl⟩
      rw [hd] at e0 e1 e2 e3 HD
      clear hcell2 hd
      go_wp2
      have x0 : (wo.alloc (.cells #[.int .i64 d.start, .int .i64 d.fin, .int .i64 d.a, .int .i64 d.b] 35)).cell? ⟨wo.heap.size, 0, none⟩ = some (.int .i64 d.start) := by simp [go_sem]
      have x1 : (wo.alloc (.cells #[.int .i64 d.start, .int .i64 d.fin, .int .i64 d.a, .int .i64 d.b] 35)).cell? ⟨wo.heap.size, 1, none⟩ = some (.int .i64 d.fin) := by simp [go_sem]
      have x2 : (wo.alloc (.cells #[.int .i64 d.start, .int .i64 d.fin, .int .i64 d.a, .int .i64 d.b] 35)).cell? ⟨wo.heap.size, 2, none⟩ = some (.int .i64 d.a) := by simp [go_sem]
      have x3 : (wo.alloc (.cells #[.int .i64 d.start, .int .i64 d.fin, .int .i64 d.a, .int .i64 d.b] 35)).cell? ⟨wo.heap.size, 3, none⟩ = some (.int .i64 d.b) := by simp [go_sem]
      have hB1 : Below wo.heap.size wo (wo.alloc (.cells #[.int .i64 d.start, .int .i64 d.fin, .int .i64 d.a, .int .i64 d.b] 35)) := (Below.refl _ _).alloc (Nat.le_refl _) _
      have hl1 : wo.heap.size < (wo.alloc (.cells #[.int .i64 d.start, .int .i64 d.fin, .int .i64 d.a, .int .i64 d.b] 35)).heap.size := by simp
      generalize wo.alloc (.cells #[.int .i64 d.start, .int .i64 d.fin, .int .i64 d.a, .int .i64 d.b] 35) = W1 at x0 x1 x2 x3 hB1 hl1 ⊢
      obtain ⟨c, hcc⟩ : ∃ c, wo.heap.size = c := ⟨_, rfl⟩
      have hbk1 := bnext hbk hB1 (Nat.le_refl _)
      have hou1 := HO.out.below hB1
      rw [hcc] at x0 x1 x2 x3 hl1 hgl ⊢
      clear e0 e1 e2 e3 hB1 hcc HO hbk hbs
      go_loopw [24] (fun s wr => ∃ k : Nat, k ≤ xs.length ∧ s = .int .i64 k ∧ Hid (Own wr w.heap.size 66 1 encU (.slice (some ⟨w.heap.size, 0, none⟩) xs.length xs.length) (rowL xs.length (midSets p ms xs i k))) ∧ wr.cell? ⟨c, 0, none⟩ = some (.int .i64 d.start) ∧ wr.cell? ⟨c, 1, none⟩ = some (.int .i64 d.fin) ∧ wr.cell? ⟨c, 2, none⟩ = some (.int .i64 d.a) ∧ wr.cell? ⟨c, 3, none⟩ = some (.int .i64 d.b) ∧ c < wr.heap.size ∧ Below w.heap.size w wr) (fun s _ => xs.length - (intOf s).toNat)
      case atStart => exact ⟨0, Nat.zero_le _, rfl, hide hou1, x0, x1, x2, x3, hl1, hbk1⟩
      case round =>
        clear hou1 x0 x1 x2 x3 hl1 hbk1
        obtain ⟨k, hk, rfl, HO, x0, x1, x2, x3, hcl, hbk⟩ := hrel
        rename_i wr
        obtain ⟨wo2, rfl⟩ : ∃ wo2 : World, wo2 = wr := ⟨_, rfl⟩
        have hbs := hbk.size
        by_cases hlt2 : k < xs.length
        · have hcell2 := HC2.out
          have e0 : wo2.cell? ⟨b2, o2 + k * 4, none⟩ = some (.int .i64 xs[k].start) := by
            rw [hbk.cell (p := ⟨b2, _, none⟩) hb2]; have := hcell2 k xs[k] (List.getElem?_eq_getElem hlt2) 0 _ rfl; simpa using this
          have e1 : wo2.cell? ⟨b2, o2 + k * 4 + 1, none⟩ = some (.int .i64 xs[k].fin) := by
            rw [hbk.cell (p := ⟨b2, _, none⟩) hb2]; have := hcell2 k xs[k] (List.getElem?_eq_getElem hlt2) 1 _ rfl; simpa using this
          have e2 : wo2.cell? ⟨b2, o2 + k * 4 + 2, none⟩ = some (.int .i64 xs[k].a) := by
            rw [hbk.cell (p := ⟨b2, _, none⟩) hb2]; have := hcell2 k xs[k] (List.getElem?_eq_getElem hlt2) 2 _ rfl; simpa using this
          have e3 : wo2.cell? ⟨b2, o2 + k * 4 + 3, none⟩ = some (.int .i64 xs[k].b) := by
            rw [hbk.cell (p := ⟨b2, _, none⟩) hb2]; have := hcell2 k xs[k] (List.getElem?_eq_getElem hlt2) 3 _ rfl; simpa using this
          have HE := hide (getD_at hlt2)
          obtain ⟨f, hf0⟩ : ∃ f, xs[k] = f := ⟨_, rfl⟩
          rw [hf0] at e0 e1 e2 e3 HE
          clear hcell2 hf0
          by_cases hik : i = k
          · have hik' : ((i : Int) != (k : Int)) = false := by simp [hik]
            have HP := hide (show partB p ms xs i k = false by simp [partB, hik])
            clear hik
            have HMID := hide (show rowL xs.length (midSets p ms xs i k) = rowL xs.length (midSets p ms xs i (k + 1)) from rowL_congr (fun j _ => by simp [midSets, bitsOf, HP.out]))
            have hBn : Below wo2.heap.size wo2 (wo2.alloc (.cells #[.int .i64 f.start, .int .i64 f.fin, .int .i64 f.a, .int .i64 f.b] 35)) := (Below.refl _ _).alloc (Nat.le_refl _) _
            go_wp2
            go_roundw
            case rel => exact ⟨k + 1, by omega, by go_num, hide ((HO.out.below hBn) |> fun h => by rwa [HMID.out] at h), cellKeep hBn x0 hcl, cellKeep hBn x1 hcl, cellKeep hBn x2 hcl, cellKeep hBn x3 hcl, Nat.lt_of_lt_of_le hcl (Below.size hBn), bnext hbk hBn (Nat.le_refl _)⟩
            case measure => simp [intOf]; omega
          · have hik' : ((i : Int) != (k : Int)) = true := by simp; omega
            have HIK := hide hik; clear hik
            have hbb : Below wo2.heap.size wo2 (wo2.alloc (.cells #[.int .i64 f.start, .int .i64 f.fin, .int .i64 f.a, .int .i64 f.b] 35)) := (Below.refl _ _).alloc (Nat.le_refl _) _
            rcases ch2b (canFollow p ms d f) (canFollow p ms f d) with g1 | ⟨g1, g2⟩ | ⟨g1, g2⟩
            · have HP := hide (show partB p ms xs i k = true by unfold partB bothD; rw [HD.out, HE.out]; simp [*, HIK.out])
              go_wp2_with (first | (go_at_call 21; with_reducible refine (impl_CanFollow_any _ _ ms d f _ ((HR1.out.keep (B' := w.heap.size) (by repeat (first | exact Below.refl _ _ | assumption | refine Below.setCell ?_ (by first | omega | (simp <;> omega)) _ | refine Below.alloc ?_ (by first | omega | (simp <;> omega)) _ | refine below_drewN ?_ _ | refine Below.drew ?_ | refine Below.trans ?_ (Below.mono (by assumption) (by first | omega | (simp <;> omega))))) (Nat.le_refl _)).mono (by first | omega | (simp <;> omega)))).mono ?_; rintro e w1 ⟨rfl, hb'⟩; have hbb := bnext hbb hb' (Nat.le_refl _); (first | have hb := bnext hb hb' | have hb := bnextA hb hb' | have hb := hb'); clear hb'; obtain ⟨hc, hf⟩ := bcell hb; have hz := hb.size; (try simp at hz)) | (go_at_call 21; with_reducible refine (impl_CanFollow_any _ _ ms f d _ ((HR1.out.keep (B' := w.heap.size) (by repeat (first | exact Below.refl _ _ | assumption | refine Below.setCell ?_ (by first | omega | (simp <;> omega)) _ | refine Below.alloc ?_ (by first | omega | (simp <;> omega)) _ | refine below_drewN ?_ _ | refine Below.drew ?_ | refine Below.trans ?_ (Below.mono (by assumption) (by first | omega | (simp <;> omega))))) (Nat.le_refl _)).mono (by first | omega | (simp <;> omega)))).mono ?_; rintro e w1 ⟨rfl, hb'⟩; have hbb := bnext hbb hb' (Nat.le_refl _); (first | have hb := bnext hb hb' | have hb := bnextA hb hb' | have hb := hb'); clear hb'; obtain ⟨hc, hf⟩ := bcell hb; have hz := hb.size; (try simp at hz)))
              have hsb := hbb.size
              have hou1 := HO.out.below hbb
              have hoc := Own.cells (i := i) (j := 0) (u := .int .u64 (bitsOf (partB p ms xs i) k)) encU_len (by rw [rowL_len]; exact hou1) (by rw [rowL_len]; exact hlt) (by rw [rowL_at _ _ hlt]; simp [midSets])
              simp only [Nat.mul_one, Nat.add_zero] at hoc
              have r1 := hoc.1; have r2 := hoc.2
              have hii : (i : Int) < xs.length := by omega
              have hkk : (k : Int) ≤ 11 := by omega
              have hor : bits .or .u64 ((bitsOf (partB p ms xs i) k : Nat) : Int) (IntKind.u64.wrap (2 ^ k)) = ((bitsOf (partB p ms xs i) (k + 1) : Nat) : Int) := by
                have h2 := two_pow_lt (k := k) (by omega)
                have h3 := bitsOf_lt (partB p ms xs i) k
                rw [two_pow_cast, wrap_u64 _ h2, bits_or_u64 _ _ (by omega) h2, bitsOf_or _ _ HP.out]
              clear hoc hc hf
              go_still_tail 8, (by kernel_rfl)
              change wpList _ _ _ _ _ w1.drew
              have hbd : Below w1.heap.size w1 w1.drew := Below.drew (Below.refl _ _)
              have hgw : w.heap.size < w1.heap.size := by omega
              have s1 := cellKeep hbd r1 hgw; have s2 := frozenKeep hbd r2 hgw
              have hbq := bnext hbb hbd (Nat.le_refl _)
              have hou2 := hou1.below hbd
              generalize w1.drew = W2 at s1 s2 hbq hou2 ⊢
              clear r1 r2 hbd hou1
              have hsq := hbq.size
              have hou3 : Own (W2.setCell ⟨w.heap.size, i, none⟩ (.int .u64 ((bitsOf (partB p ms xs i) (k + 1) : Nat) : Int))) w.heap.size 66 1 encU (.slice (some ⟨w.heap.size, 0, none⟩) xs.length xs.length) (rowL xs.length (midSets p ms xs i (k + 1))) := by
                have := Own.setRow (i := i) encU_len (by rw [rowL_len]; exact hou2) (by rw [rowL_len]; exact hlt) ((bitsOf (partB p ms xs i) (k + 1) : Nat) : Int)
                rw [rowL_len, rowL_set] at this
                rw [rowL_congr (v := midSets p ms xs i (k + 1)) (fun j _ => by unfold midSets; by_cases h1 : j = i; (subst h1; simp); (rw [if_neg h1]; simp [h1]))] at this
                simpa [storeRow] using this
              have hend : Below w.heap.size w (W2.setCell ⟨w.heap.size, i, none⟩ (.int .u64 ((bitsOf (partB p ms xs i) (k + 1) : Nat) : Int))) := (bnext hbk hbq (Nat.le_refl _)).setCell (p := ⟨w.heap.size, i, none⟩) (by simp) _
              have hcw : w.heap.size ≠ c := by omega
              have t0 := (World.cell?_setCell_other W2 ⟨w.heap.size, i, none⟩ ⟨c, 0, none⟩ (.int .u64 ((bitsOf (partB p ms xs i) (k + 1) : Nat) : Int)) (fun e => hcw (congrArg Addr.block e))).trans (cellKeep hbq x0 hcl)
              have t1 := (World.cell?_setCell_other W2 ⟨w.heap.size, i, none⟩ ⟨c, 1, none⟩ (.int .u64 ((bitsOf (partB p ms xs i) (k + 1) : Nat) : Int)) (fun e => hcw (congrArg Addr.block e))).trans (cellKeep hbq x1 hcl)
              have t2 := (World.cell?_setCell_other W2 ⟨w.heap.size, i, none⟩ ⟨c, 2, none⟩ (.int .u64 ((bitsOf (partB p ms xs i) (k + 1) : Nat) : Int)) (fun e => hcw (congrArg Addr.block e))).trans (cellKeep hbq x2 hcl)
              have t3 := (World.cell?_setCell_other W2 ⟨w.heap.size, i, none⟩ ⟨c, 3, none⟩ (.int .u64 ((bitsOf (partB p ms xs i) (k + 1) : Nat) : Int)) (fun e => hcw (congrArg Addr.block e))).trans (cellKeep hbq x3 hcl)
              have hcl3 : c < (W2.setCell ⟨w.heap.size, i, none⟩ (.int .u64 ((bitsOf (partB p ms xs i) (k + 1) : Nat) : Int))).heap.size := by simp [World.setCell]; omega
              have HO3 := hide hou3; clear hou2 hou3
              go_wp2
              go_roundw
              case rel => exact ⟨k + 1, by omega, by go_num, HO3, t0, t1, t2, t3, hcl3, hend⟩
              case measure => simp [intOf]; omega
            · have HP := hide (show partB p ms xs i k = true by unfold partB bothD; rw [HD.out, HE.out]; simp [*, HIK.out])
              go_wp2_with (first | (go_at_call 21; with_reducible refine (impl_CanFollow_any _ _ ms d f _ ((HR1.out.keep (B' := w.heap.size) (by repeat (first | exact Below.refl _ _ | assumption | refine Below.setCell ?_ (by first | omega | (simp <;> omega)) _ | refine Below.alloc ?_ (by first | omega | (simp <;> omega)) _ | refine below_drewN ?_ _ | refine Below.drew ?_ | refine Below.trans ?_ (Below.mono (by assumption) (by first | omega | (simp <;> omega))))) (Nat.le_refl _)).mono (by first | omega | (simp <;> omega)))).mono ?_; rintro e w1 ⟨rfl, hb'⟩; have hbb := bnext hbb hb' (Nat.le_refl _); (first | have hb := bnext hb hb' | have hb := bnextA hb hb' | have hb := hb'); clear hb'; obtain ⟨hc, hf⟩ := bcell hb; have hz := hb.size; (try simp at hz)) | (go_at_call 21; with_reducible refine (impl_CanFollow_any _ _ ms f d _ ((HR1.out.keep (B' := w.heap.size) (by repeat (first | exact Below.refl _ _ | assumption | refine Below.setCell ?_ (by first | omega | (simp <;> omega)) _ | refine Below.alloc ?_ (by first | omega | (simp <;> omega)) _ | refine below_drewN ?_ _ | refine Below.drew ?_ | refine Below.trans ?_ (Below.mono (by assumption) (by first | omega | (simp <;> omega))))) (Nat.le_refl _)).mono (by first | omega | (simp <;> omega)))).mono ?_; rintro e w1 ⟨rfl, hb'⟩; have hbb := bnext hbb hb' (Nat.le_refl _); (first | have hb := bnext hb hb' | have hb := bnextA hb hb' | have hb := hb'); clear hb'; obtain ⟨hc, hf⟩ := bcell hb; have hz := hb.size; (try simp at hz)))
              have hsb := hbb.size
              have hou1 := HO.out.below hbb
              have hoc := Own.cells (i := i) (j := 0) (u := .int .u64 (bitsOf (partB p ms xs i) k)) encU_len (by rw [rowL_len]; exact hou1) (by rw [rowL_len]; exact hlt) (by rw [rowL_at _ _ hlt]; simp [midSets])
              simp only [Nat.mul_one, Nat.add_zero] at hoc
              have r1 := hoc.1; have r2 := hoc.2
              have hii : (i : Int) < xs.length := by omega
              have hkk : (k : Int) ≤ 11 := by omega
              have hor : bits .or .u64 ((bitsOf (partB p ms xs i) k : Nat) : Int) (IntKind.u64.wrap (2 ^ k)) = ((bitsOf (partB p ms xs i) (k + 1) : Nat) : Int) := by
                have h2 := two_pow_lt (k := k) (by omega)
                have h3 := bitsOf_lt (partB p ms xs i) k
                rw [two_pow_cast, wrap_u64 _ h2, bits_or_u64 _ _ (by omega) h2, bitsOf_or _ _ HP.out]
              clear hoc hc hf
              go_still_tail 8, (by kernel_rfl)
              change wpList _ _ _ _ _ w1.drew
              have hbd : Below w1.heap.size w1 w1.drew := Below.drew (Below.refl _ _)
              have hgw : w.heap.size < w1.heap.size := by omega
              have s1 := cellKeep hbd r1 hgw; have s2 := frozenKeep hbd r2 hgw
              have hbq := bnext hbb hbd (Nat.le_refl _)
              have hou2 := hou1.below hbd
              generalize w1.drew = W2 at s1 s2 hbq hou2 ⊢
              clear r1 r2 hbd hou1
              have hsq := hbq.size
              have hou3 : Own (W2.setCell ⟨w.heap.size, i, none⟩ (.int .u64 ((bitsOf (partB p ms xs i) (k + 1) : Nat) : Int))) w.heap.size 66 1 encU (.slice (some ⟨w.heap.size, 0, none⟩) xs.length xs.length) (rowL xs.length (midSets p ms xs i (k + 1))) := by
                have := Own.setRow (i := i) encU_len (by rw [rowL_len]; exact hou2) (by rw [rowL_len]; exact hlt) ((bitsOf (partB p ms xs i) (k + 1) : Nat) : Int)
                rw [rowL_len, rowL_set] at this
                rw [rowL_congr (v := midSets p ms xs i (k + 1)) (fun j _ => by unfold midSets; by_cases h1 : j = i; (subst h1; simp); (rw [if_neg h1]; simp [h1]))] at this
                simpa [storeRow] using this
              have hend : Below w.heap.size w (W2.setCell ⟨w.heap.size, i, none⟩ (.int .u64 ((bitsOf (partB p ms xs i) (k + 1) : Nat) : Int))) := (bnext hbk hbq (Nat.le_refl _)).setCell (p := ⟨w.heap.size, i, none⟩) (by simp) _
              have hcw : w.heap.size ≠ c := by omega
              have t0 := (World.cell?_setCell_other W2 ⟨w.heap.size, i, none⟩ ⟨c, 0, none⟩ (.int .u64 ((bitsOf (partB p ms xs i) (k + 1) : Nat) : Int)) (fun e => hcw (congrArg Addr.block e))).trans (cellKeep hbq x0 hcl)
              have t1 := (World.cell?_setCell_other W2 ⟨w.heap.size, i, none⟩ ⟨c, 1, none⟩ (.int .u64 ((bitsOf (partB p ms xs i) (k + 1) : Nat) : Int)) (fun e => hcw (congrArg Addr.block e))).trans (cellKeep hbq x1 hcl)
              have t2 := (World.cell?_setCell_other W2 ⟨w.heap.size, i, none⟩ ⟨c, 2, none⟩ (.int .u64 ((bitsOf (partB p ms xs i) (k + 1) : Nat) : Int)) (fun e => hcw (congrArg Addr.block e))).trans (cellKeep hbq x2 hcl)
              have t3 := (World.cell?_setCell_other W2 ⟨w.heap.size, i, none⟩ ⟨c, 3, none⟩ (.int .u64 ((bitsOf (partB p ms xs i) (k + 1) : Nat) : Int)) (fun e => hcw (congrArg Addr.block e))).trans (cellKeep hbq x3 hcl)
              have hcl3 : c < (W2.setCell ⟨w.heap.size, i, none⟩ (.int .u64 ((bitsOf (partB p ms xs i) (k + 1) : Nat) : Int))).heap.size := by simp [World.setCell]; omega
              have HO3 := hide hou3; clear hou2 hou3
              go_wp2
              go_roundw
              case rel => exact ⟨k + 1, by omega, by go_num, HO3, t0, t1, t2, t3, hcl3, hend⟩
              case measure => simp [intOf]; omega
            · have HP := hide (show partB p ms xs i k = false by unfold partB bothD; rw [HD.out, HE.out]; simp [*])
              have HMID := hide (show rowL xs.length (midSets p ms xs i k) = rowL xs.length (midSets p ms xs i (k + 1)) from rowL_congr (fun j _ => by simp [midSets, bitsOf, HP.out]))
              go_wp2_with (first | (go_at_call 21; with_reducible refine (impl_CanFollow_any _ _ ms d f _ ((HR1.out.keep (B' := w.heap.size) (by repeat (first | exact Below.refl _ _ | assumption | refine Below.setCell ?_ (by first | omega | (simp <;> omega)) _ | refine Below.alloc ?_ (by first | omega | (simp <;> omega)) _ | refine below_drewN ?_ _ | refine Below.drew ?_ | refine Below.trans ?_ (Below.mono (by assumption) (by first | omega | (simp <;> omega))))) (Nat.le_refl _)).mono (by first | omega | (simp <;> omega)))).mono ?_; rintro e w1 ⟨rfl, hb'⟩; have hbb := bnext hbb hb' (Nat.le_refl _); (first | have hb := bnext hb hb' | have hb := bnextA hb hb' | have hb := hb'); clear hb'; obtain ⟨hc, hf⟩ := bcell hb; have hz := hb.size; (try simp at hz)) | (go_at_call 21; with_reducible refine (impl_CanFollow_any _ _ ms f d _ ((HR1.out.keep (B' := w.heap.size) (by repeat (first | exact Below.refl _ _ | assumption | refine Below.setCell ?_ (by first | omega | (simp <;> omega)) _ | refine Below.alloc ?_ (by first | omega | (simp <;> omega)) _ | refine below_drewN ?_ _ | refine Below.drew ?_ | refine Below.trans ?_ (Below.mono (by assumption) (by first | omega | (simp <;> omega))))) (Nat.le_refl _)).mono (by first | omega | (simp <;> omega)))).mono ?_; rintro e w1 ⟨rfl, hb'⟩; have hbb := bnext hbb hb' (Nat.le_refl _); (first | have hb := bnext hb hb' | have hb := bnextA hb hb' | have hb := hb'); clear hb'; obtain ⟨hc, hf⟩ := bcell hb; have hz := hb.size; (try simp at hz)))
              go_roundw
              case rel => exact ⟨k + 1, by omega, by go_num, hide ((HO.out.below hbb) |> fun h => by rwa [HMID.out] at h), cellKeep hbb x0 hcl, cellKeep hbb x1 hcl, cellKeep hbb x2 hcl, cellKeep hbb x3 hcl, Nat.lt_of_lt_of_le hcl (Below.size hbb), bnext hbk hbb (Nat.le_refl _)⟩
              case measure => simp [intOf]; omega
        · obtain rfl : k = xs.length := by omega
          have HMID := hide (show rowL xs.length (midSets p ms xs i xs.length) = rowL xs.length (midSets p ms xs (i + 1) 0) from rowL_congr (fun j hj => by
            unfold midSets
            by_cases h1 : j < i
            · rw [if_pos h1, if_pos (by omega)]
            · rw [if_neg h1]
              by_cases h2 : j = i
              · subst h2; rw [if_pos rfl, if_pos (by omega)]; rfl
              · rw [if_neg h2, if_neg (by omega)]; split <;> simp [bitsOf]))
          go_wp2
          go_roundw
          case rel => exact ⟨i + 1, by omega, by go_num, hide (by rw [← HMID.out]; exact HO.out), by omega, hbk⟩
          case measure => simp [intOf]; omega
    · obtain rfl : i = xs.length := by omega
      go_wp2
      go_ret
      refine ⟨_, rfl, ?_, hbk⟩
      have := HO.out
      rwa [rowL_congr (v := partBits p ms xs) (fun j hj => by simp [midSets, hj])] at this
end Go.Proofs.Ytdbpgfbbkejljaa
