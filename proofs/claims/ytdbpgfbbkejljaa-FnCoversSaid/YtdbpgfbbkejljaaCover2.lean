/- Which duties go together: the spec's table. No condition. -/
import Derived.Test.YtdbpgfbbkejljaaCover
namespace Go.Proofs.Ytdbpgfbbkejljaa
open Go.RowKit
set_option linter.unusedVariables false
theorem rd_grown {α : Type} {w w' : World} {sz : Nat} {enc : α → List Value} {v : Value} {xs : List α} {row : Option Nat} (h : Rd w sz enc v xs) (hg : w.grownBy w' row) (hne : ∀ g, v.ownBlock = some g → row = some g → False) : Rd w' sz enc v xs := by
  obtain ⟨A, c, rfl, hc, hm, h⟩ := h
  refine ⟨A, c, rfl, hc, hm, fun h0 => ?_⟩
  obtain ⟨b, off, rfl, hlt, hcell⟩ := h h0
  exact ⟨b, off, rfl, Nat.lt_of_lt_of_le hlt hg.size, fun i x hx j u hu => (World.cell?_of_block (hg.block b hlt (fun e => hne b rfl e.symm))).trans (hcell i x hx j u hu)⟩
/-- a slice as an element -/
structure SV where
  A : Option Addr
  n : Nat
  c : Nat
abbrev SV.val (s : SV) : Value := .slice s.A s.n s.c
abbrev SV.enc (s : SV) : List Value := [.slice s.A s.n s.c]
theorem SV.enc_len (s : SV) : s.enc.length = 1 := rfl
theorem SV.one (s : SV) : ∀ u ∈ SV.enc s, u.oneCell' = true := by intro u hu; simp [SV.enc] at hu; subst hu; rfl
instance : Inhabited SV := ⟨⟨none, 0, 0⟩⟩
abbrev encB : Bool → List Value := fun b => [.bool b]
theorem encB_len (b : Bool) : (encB b).length = 1 := rfl
theorem encB_one (x : Bool) : ∀ u ∈ encB x, u.oneCell' = true := by intro u hu; simp at hu; subst hu; rfl
/-- a slice of slices of booleans that reads as rows -/
def RdM (w : World) (B : Nat) (v : Value) (rows : List (List Bool)) : Prop :=
  ∃ svs : List SV, RdB w B 1 SV.enc v svs ∧ svs.length = rows.length ∧ ∀ i (h : i < svs.length) (h2 : i < rows.length), RdB w B 1 encB svs[i].val rows[i]
theorem RdM.below {w w' : World} {B : Nat} {v : Value} {rows : List (List Bool)} (h : RdM w B v rows) (hb : Below B w w') : RdM w' B v rows := by
  obtain ⟨svs, h1, h2, h3⟩ := h
  exact ⟨svs, h1.below hb, h2, fun i hi hj => (h3 i hi hj).below hb⟩
theorem RdM.mono {w : World} {B B' : Nat} {v : Value} {rows : List (List Bool)} (h : RdM w B v rows) (hB : B ≤ B') : RdM w B' v rows := by
  obtain ⟨svs, h1, h2, h3⟩ := h
  exact ⟨svs, h1.mono hB, h2, fun i hi hj => (h3 i hi hj).mono hB⟩
theorem RdM.keep {w w' : World} {B B' : Nat} {v : Value} {rows : List (List Bool)} (h : RdM w B v rows) (hb : Below B' w w') (hB : B ≤ B') : RdM w' B v rows := h.below (hb.mono hB)
def rowB (p : Int) (ms : List Int) (xs : List DutyD) (i k : Nat) : List Bool := (List.range k).map (bothD p ms xs i)
def bothM (p : Int) (ms : List Int) (xs : List DutyD) : List (List Bool) := (List.range xs.length).map fun i => rowB p ms xs i xs.length
theorem rowB_len (p : Int) (ms : List Int) (xs : List DutyD) (i k : Nat) : (rowB p ms xs i k).length = k := by simp [rowB]
theorem rowB_succ (p : Int) (ms : List Int) (xs : List DutyD) (i k : Nat) : rowB p ms xs i (k + 1) = rowB p ms xs i k ++ [bothD p ms xs i k] := by simp [rowB, List.range_succ]
theorem bool_info : (Try.prog.info? 4).map (fun i => (i.zero, i.size, i.bytes)) = some (some (.bool false), 1, 1) := by kernel_rfl
theorem bools_info : (Try.prog.info? 63).map (fun i => (i.zero, i.size, i.bytes)) = some (some (.slice none 0 0), 1, 24) := by kernel_rfl
/-- the rows that are done, each in a block of its own -/
def Rows' (p : Int) (ms : List Int) (xs : List DutyD) (w : World) (v : Value) (svs : List SV) : Prop :=
  ∀ j (h : j < svs.length), Rd w 1 encB svs[j].val (rowB p ms xs j xs.length) ∧ ∀ g, v.ownBlock = some g → svs[j].val.ownBlock ≠ some g
theorem Rows'.below {p : Int} {ms : List Int} {xs : List DutyD} {w w' : World} {v : Value} {svs : List SV} (h : Rows' p ms xs w v svs) (hb : Below w.heap.size w w') : Rows' p ms xs w' v svs :=
  fun j hj => ⟨(h j hj).1.below hb, (h j hj).2⟩
theorem Rows'.snoc {p : Int} {ms : List Int} {xs : List DutyD} {w w' : World} {v v' : Value} {svs : List SV} {s : SV} (h : Rows' p ms xs w v svs) (hg : w.grownBy w' v.ownBlock) (hb : v'.ownBlock = v.ownBlock ∨ v'.ownBlock = some w.heap.size)
    (hn : 0 < xs.length) (hs : Rd w 1 encB s.val (rowB p ms xs svs.length xs.length)) (hne : ∀ g, v.ownBlock = some g → s.val.ownBlock ≠ some g) : Rows' p ms xs w' v' (svs ++ [s]) := by
  have key : ∀ (t : SV) (j : Nat), Rd w 1 encB t.val (rowB p ms xs j xs.length) → (∀ g, v.ownBlock = some g → t.val.ownBlock ≠ some g) → Rd w' 1 encB t.val (rowB p ms xs j xs.length) ∧ ∀ g, v'.ownBlock = some g → t.val.ownBlock ≠ some g := by
    intro t j h1 h2
    refine ⟨rd_grown h1 hg (fun g e1 e2 => h2 g e2 e1), fun g hg' e => ?_⟩
    rcases hb with hb | hb
    · exact h2 g (hb ▸ hg') e
    · obtain ⟨A, c, hv, _, _, hr⟩ := h1
      obtain ⟨b, off, hA, hlt, _⟩ := hr (by rw [rowB_len]; exact hn)
      rw [hb] at hg'
      rw [hv, hA] at e
      simp [Value.ownBlock] at e hg'
      omega
  intro j hj
  by_cases hlt : j < svs.length
  · rw [List.getElem_append_left hlt]
    exact key _ j (h j hlt).1 (h j hlt).2
  · have : j = svs.length := by simp at hj; omega
    subst this
    simp only [List.getElem_append_right (Nat.le_refl _), Nat.sub_self, List.getElem_cons_zero]
    exact key s _ hs hne
theorem Rows'.rdM {p : Int} {ms : List Int} {xs : List DutyD} {w : World} {base : Nat} {T : TypeId} {v : Value} {svs : List SV} (h : Rows' p ms xs w v svs) (ho : Own w base T 1 SV.enc v svs) (hl : svs.length = xs.length) : RdM w w.heap.size v (bothM p ms xs) :=
  ⟨svs, Own.rd SV.enc_len ho, by simp [bothM, hl], fun i hi hj => by
    have := (h i hi).1
    simp only [bothM, List.getElem_map, List.getElem_range]
    exact this⟩
set_option maxRecDepth 100000 in
set_option maxHeartbeats 16000000 in
theorem l13Both_any (p : Int) (v1 v2 : Value) (ms : List Int) (xs : List DutyD) (w : World) (h1 : RdI w v1 ms) (h2 : RdDuty w v2 xs) (h12 : xs.length ≤ 12) :
    Calls Try.prog 40 #[.int .i64 p, v1, v2] w fun e w' => ∃ v, e = .returned v ∧ RdM w' w'.heap.size v (bothM p ms xs) ∧ Below w.heap.size w w' := by
  have HR1 := hide h1
  obtain ⟨A1, c1, rfl, hc1, hm1, h1⟩ := h1
  obtain ⟨A2, c2, rfl, hc2, hm2, h2⟩ := h2
  unfold maxLen at hm1 hm2
  have H2 := hide h2; clear h1 h2
  obtain ⟨i0, hi, hz0, hz1, hz2⟩ := info_parts bool_info
  obtain ⟨j0, hj, hy0, hy1, hy2⟩ := info_parts bools_info
  go_enter Try.func40, Try.ntmps40
  go_wp2
  have hou0 := own_built0 (enc := SV.enc) w 63 1
  have hb0 : Below w.heap.size w (w.alloc (.cells #[] 63)) := (Below.refl _ _).alloc (Nat.le_refl _) _
  go_loopw [7, 16] (fun o s wr => ∃ (i : Nat) (svs : List SV), i ≤ xs.length ∧ svs.length = i ∧ s = .int .i64 i ∧ Hid (Own wr w.heap.size 63 1 SV.enc o svs) ∧ Hid (Rows' p ms xs wr o svs) ∧ Below w.heap.size w wr) (fun _ s _ => xs.length - (intOf s).toNat)
  case atStart => exact ⟨0, [], Nat.zero_le _, rfl, rfl, hide hou0, hide (fun j hj => by simp at hj), hb0⟩
  case round =>
    clear hou0 hb0
    obtain ⟨i, svs, hi', hsl, rfl, HO, HRW, hbk⟩ := hrel
    obtain ⟨wo, rfl⟩ : ∃ wo : World, wo = wr := ⟨_, rfl⟩
    have hbs := hbk.size
    have HSL := hide hsl; clear hsl
    by_cases hlt : i < xs.length
    · obtain ⟨b2, o2, rfl, hb2, hcell2⟩ := H2.out (by omega)
      have HC2 := hide hcell2
      have e0 : wo.cell? ⟨b2, o2 + i * 4, none⟩ = some (.int .i64 xs[i].start) := by
        rw [hbk.cell (p := ⟨b2, _, none⟩) hb2]; have := hcell2 i xs[i] (List.getElem?_eq_getElem hlt) 0 _ rfl; simpa using this
      have e1 : wo.cell? ⟨b2, o2 + i * 4 + 1, none⟩ = some (.int .i64 xs[i].fin) := by
        rw [hbk.cell (p := ⟨b2, _, none⟩) hb2]; have := hcell2 i xs[i] (List.getElem?_eq_getElem hlt) 1 _ rfl; simpa using this
      have e2 : wo.cell? ⟨b2, o2 + i * 4 + 2, none⟩ = some (.int .i64 xs[i].a) := by
        rw [hbk.cell (p := ⟨b2, _, none⟩) hb2]; have := hcell2 i xs[i] (List.getElem?_eq_getElem hlt) 2 _ rfl; simpa using this
      have e3 : wo.cell? ⟨b2, o2 + i * 4 + 3, none⟩ = some (.int .i64 xs[i].b) := by
        rw [hbk.cell (p := ⟨b2, _, none⟩) hb2]; have := hcell2 i xs[i] (List.getElem?_eq_getElem hlt) 3 _ rfl; simpa using this
      have HD := hide (getD_at hlt)
      obtain ⟨d, hd⟩ : ∃ d, xs[i] = d := ⟨_, rfl⟩
      rw [hd] at e0 e1 e2 e3 HD
      clear hcell2 hd
      go_wp2
      have x0 : (wo.alloc (.cells #[.int .i64 d.start, .int .i64 d.fin, .int .i64 d.a, .int .i64 d.b] 35)).cell? ⟨wo.heap.size, 0, none⟩ = some (.int .i64 d.start) := by simp [go_sem]
      have x1 : (wo.alloc (.cells #[.int .i64 d.start, .int .i64 d.fin, .int .i64 d.a, .int .i64 d.b] 35)).cell? ⟨wo.heap.size, 1, none⟩ = some (.int .i64 d.fin) := by simp [go_sem]
      have x2 : (wo.alloc (.cells #[.int .i64 d.start, .int .i64 d.fin, .int .i64 d.a, .int .i64 d.b] 35)).cell? ⟨wo.heap.size, 2, none⟩ = some (.int .i64 d.a) := by simp [go_sem]
      have x3 : (wo.alloc (.cells #[.int .i64 d.start, .int .i64 d.fin, .int .i64 d.a, .int .i64 d.b] 35)).cell? ⟨wo.heap.size, 3, none⟩ = some (.int .i64 d.b) := by simp [go_sem]
      have hB1 : Below wo.heap.size wo (wo.alloc (.cells #[.int .i64 d.start, .int .i64 d.fin, .int .i64 d.a, .int .i64 d.b] 35)) := (Below.refl _ _).alloc (Nat.le_refl _) _
      have hl1 : (wo.alloc (.cells #[.int .i64 d.start, .int .i64 d.fin, .int .i64 d.a, .int .i64 d.b] 35)).heap.size = wo.heap.size + 1 := by simp
      generalize (wo.alloc (.cells #[.int .i64 d.start, .int .i64 d.fin, .int .i64 d.a, .int .i64 d.b] 35)) = W0 at x0 x1 x2 x3 hB1 hl1 ⊢
      rw [← hl1]
      have hcl : wo.heap.size < W0.heap.size := by omega
      obtain ⟨c, hcc⟩ : ∃ c, wo.heap.size = c := ⟨_, rfl⟩
      have hbk1 := bnext hbk hB1 (Nat.le_refl _)
      have HO1 := hide (HO.out.below hB1); have HRW1 := hide (HRW.out.below hB1)
      rw [hcc] at x0 x1 x2 x3 hcl ⊢
      clear e0 e1 e2 e3 hB1 hcc HO HRW hbk hbs hl1
      have hbs1 := hbk1.size
      have hr0 := own_built0 (enc := encB) W0 4 1
      have hbr0 : Below W0.heap.size W0 (W0.alloc (.cells #[] 4)) := (Below.refl _ _).alloc (Nat.le_refl _) _
      go_loopw [10, 23] (fun r s wr => ∃ k : Nat, k ≤ xs.length ∧ s = .int .i64 k ∧ Hid (Own wr W0.heap.size 4 1 encB r (rowB p ms xs i k)) ∧ Below W0.heap.size W0 wr) (fun _ s _ => xs.length - (intOf s).toNat)
      case atStart => exact ⟨0, Nat.zero_le _, rfl, hide (by simpa [rowB] using hr0), hbr0⟩
      case round =>
        clear hr0 hbr0
        obtain ⟨k, hk, rfl, HO2, hbr⟩ := hrel
        rename_i wr
        obtain ⟨wo2, rfl⟩ : ∃ wo2 : World, wo2 = wr := ⟨_, rfl⟩
        have hbk := bnext hbk1 hbr (Nat.le_refl _)
        have hbs := hbk.size; have hbs2 := hbr.size
        by_cases hlt2 : k < xs.length
        · have hcell2 := HC2.out
          have e0 : wo2.cell? ⟨b2, o2 + k * 4, none⟩ = some (.int .i64 xs[k].start) := by
            rw [hbk.cell (p := ⟨b2, _, none⟩) hb2]; have := hcell2 k xs[k] (List.getElem?_eq_getElem hlt2) 0 _ rfl; simpa using this
          have e1 : wo2.cell? ⟨b2, o2 + k * 4 + 1, none⟩ = some (.int .i64 xs[k].fin) := by
            rw [hbk.cell (p := ⟨b2, _, none⟩) hb2]; have := hcell2 k xs[k] (List.getElem?_eq_getElem hlt2) 1 _ rfl; simpa using this
          have e2 : wo2.cell? ⟨b2, o2 + k * 4 + 2, none⟩ = some (.int .i64 xs[k].a) := by
            rw [hbk.cell (p := ⟨b2, _, none⟩) hb2]; have := hcell2 k xs[k] (List.getElem?_eq_getElem hlt2) 2 _ rfl; simpa using this
          have e3 : wo2.cell? ⟨b2, o2 + k * 4 + 3, none⟩ = some (.int .i64 xs[k].b) := by
            rw [hbk.cell (p := ⟨b2, _, none⟩) hb2]; have := hcell2 k xs[k] (List.getElem?_eq_getElem hlt2) 3 _ rfl; simpa using this
          have HE := hide (getD_at hlt2)
          obtain ⟨f, hf0⟩ : ∃ f, xs[k] = f := ⟨_, rfl⟩
          rw [hf0] at e0 e1 e2 e3 HE
          clear hcell2 hf0
          replace x0 := cellKeep hbr x0 hcl; replace x1 := cellKeep hbr x1 hcl; replace x2 := cellKeep hbr x2 hcl; replace x3 := cellKeep hbr x3 hcl
          have hcl2 : c < wo2.heap.size := by omega
          have hbb : Below wo2.heap.size wo2 (wo2.alloc (.cells #[.int .i64 f.start, .int .i64 f.fin, .int .i64 f.a, .int .i64 f.b] 35)) := (Below.refl _ _).alloc (Nat.le_refl _) _
          obtain ⟨Ar, cr, rfl, hcr, hmr, hrr⟩ := Own.rd encB_len HO2.out
          clear hrr
          rcases ch2b (canFollow p ms d f) (canFollow p ms f d) with g1 | ⟨g1, g2⟩ | ⟨g1, g2⟩
          · have HBT := hide (show rowB p ms xs i (k + 1) = rowB p ms xs i k ++ [true] by rw [rowB_succ]; congr 1; unfold bothD; rw [HD.out, HE.out]; simp [*])
            go_wp2_with (first | (go_at_call 20; with_reducible refine (spec_CanFollow_any _ _ ms d f _ ((HR1.out.keep (B' := w.heap.size) (by repeat (first | exact Below.refl _ _ | assumption | refine Below.setCell ?_ (by first | omega | (simp <;> omega)) _ | refine Below.alloc ?_ (by first | omega | (simp <;> omega)) _ | refine below_drewN ?_ _ | refine Below.drew ?_ | refine Below.trans ?_ (Below.mono (by assumption) (by first | omega | (simp <;> omega))))) (Nat.le_refl _)).mono (by first | omega | (simp <;> omega)))).mono ?_; rintro e w1 ⟨rfl, hb'⟩; have hbb := bnext hbb hb' (by first | exact Nat.le_refl _ | exact hbb.size); (first | have hb := bnext hb hb' | have hb := bnextA hb hb' | have hb := hb'); clear hb'; obtain ⟨hc, hf⟩ := bcell hb; have hz := hb.size; (try simp at hz)) | (go_at_call 20; with_reducible refine (spec_CanFollow_any _ _ ms f d _ ((HR1.out.keep (B' := w.heap.size) (by repeat (first | exact Below.refl _ _ | assumption | refine Below.setCell ?_ (by first | omega | (simp <;> omega)) _ | refine Below.alloc ?_ (by first | omega | (simp <;> omega)) _ | refine below_drewN ?_ _ | refine Below.drew ?_ | refine Below.trans ?_ (Below.mono (by assumption) (by first | omega | (simp <;> omega))))) (Nat.le_refl _)).mono (by first | omega | (simp <;> omega)))).mono ?_; rintro e w1 ⟨rfl, hb'⟩; have hbb := bnext hbb hb' (by first | exact Nat.le_refl _ | exact hbb.size); (first | have hb := bnext hb hb' | have hb := bnextA hb hb' | have hb := hb'); clear hb'; obtain ⟨hc, hf⟩ := bcell hb; have hz := hb.size; (try simp at hz)) | (at_builtin; refine wpList_append_rd _ encB_len encB_one (by rfl) _ _ 63 (by rfl) W0.heap.size 4 i0 (.bool false) 1 Try.underlying63 hi hz0 hz1 hz2 rfl (by decide) _ _ (by rfl) (HO2.out.below (hbb.alloc hbb.size _)) _ _ [true] (by rfl) (rd_new (enc := encB) _ true _) (by unfold maxLen; simp [rowB_len]; omega) (by simp [rowB_len]; omega) (by have := hbb.size; simp; omega) ?_; intro r9 w9 hown9 hgrow9 hblk9))
            have hb9 := (hbr.trans ((hbb.alloc hbb.size _).mono hbs2)).trans (Own.belowGrown (B := W0.heap.size) (HO2.out.below (hbb.alloc hbb.size _)) hgrow9 (Nat.le_refl _) (by have := hbb.size; simp; omega))
            go_roundw
            case rel => exact ⟨k + 1, by omega, by go_num, hide (by rw [HBT.out]; exact hown9), hb9⟩
            case measure => simp [intOf]; omega
          · have HBT := hide (show rowB p ms xs i (k + 1) = rowB p ms xs i k ++ [true] by rw [rowB_succ]; congr 1; unfold bothD; rw [HD.out, HE.out]; simp [*])
            go_wp2_with (first | (go_at_call 20; with_reducible refine (spec_CanFollow_any _ _ ms d f _ ((HR1.out.keep (B' := w.heap.size) (by repeat (first | exact Below.refl _ _ | assumption | refine Below.setCell ?_ (by first | omega | (simp <;> omega)) _ | refine Below.alloc ?_ (by first | omega | (simp <;> omega)) _ | refine below_drewN ?_ _ | refine Below.drew ?_ | refine Below.trans ?_ (Below.mono (by assumption) (by first | omega | (simp <;> omega))))) (Nat.le_refl _)).mono (by first | omega | (simp <;> omega)))).mono ?_; rintro e w1 ⟨rfl, hb'⟩; have hbb := bnext hbb hb' (by first | exact Nat.le_refl _ | exact hbb.size); (first | have hb := bnext hb hb' | have hb := bnextA hb hb' | have hb := hb'); clear hb'; obtain ⟨hc, hf⟩ := bcell hb; have hz := hb.size; (try simp at hz)) | (go_at_call 20; with_reducible refine (spec_CanFollow_any _ _ ms f d _ ((HR1.out.keep (B' := w.heap.size) (by repeat (first | exact Below.refl _ _ | assumption | refine Below.setCell ?_ (by first | omega | (simp <;> omega)) _ | refine Below.alloc ?_ (by first | omega | (simp <;> omega)) _ | refine below_drewN ?_ _ | refine Below.drew ?_ | refine Below.trans ?_ (Below.mono (by assumption) (by first | omega | (simp <;> omega))))) (Nat.le_refl _)).mono (by first | omega | (simp <;> omega)))).mono ?_; rintro e w1 ⟨rfl, hb'⟩; have hbb := bnext hbb hb' (by first | exact Nat.le_refl _ | exact hbb.size); (first | have hb := bnext hb hb' | have hb := bnextA hb hb' | have hb := hb'); clear hb'; obtain ⟨hc, hf⟩ := bcell hb; have hz := hb.size; (try simp at hz)) | (at_builtin; refine wpList_append_rd _ encB_len encB_one (by rfl) _ _ 63 (by rfl) W0.heap.size 4 i0 (.bool false) 1 Try.underlying63 hi hz0 hz1 hz2 rfl (by decide) _ _ (by rfl) (HO2.out.below (hbb.alloc hbb.size _)) _ _ [true] (by rfl) (rd_new (enc := encB) _ true _) (by unfold maxLen; simp [rowB_len]; omega) (by simp [rowB_len]; omega) (by have := hbb.size; simp; omega) ?_; intro r9 w9 hown9 hgrow9 hblk9))
            have hb9 := (hbr.trans ((hbb.alloc hbb.size _).mono hbs2)).trans (Own.belowGrown (B := W0.heap.size) (HO2.out.below (hbb.alloc hbb.size _)) hgrow9 (Nat.le_refl _) (by have := hbb.size; simp; omega))
            go_roundw
            case rel => exact ⟨k + 1, by omega, by go_num, hide (by rw [HBT.out]; exact hown9), hb9⟩
            case measure => simp [intOf]; omega
          · have HBT := hide (show rowB p ms xs i (k + 1) = rowB p ms xs i k ++ [false] by rw [rowB_succ]; congr 1; unfold bothD; rw [HD.out, HE.out]; simp [*])
            go_wp2_with (first | (go_at_call 20; with_reducible refine (spec_CanFollow_any _ _ ms d f _ ((HR1.out.keep (B' := w.heap.size) (by repeat (first | exact Below.refl _ _ | assumption | refine Below.setCell ?_ (by first | omega | (simp <;> omega)) _ | refine Below.alloc ?_ (by first | omega | (simp <;> omega)) _ | refine below_drewN ?_ _ | refine Below.drew ?_ | refine Below.trans ?_ (Below.mono (by assumption) (by first | omega | (simp <;> omega))))) (Nat.le_refl _)).mono (by first | omega | (simp <;> omega)))).mono ?_; rintro e w1 ⟨rfl, hb'⟩; have hbb := bnext hbb hb' (by first | exact Nat.le_refl _ | exact hbb.size); (first | have hb := bnext hb hb' | have hb := bnextA hb hb' | have hb := hb'); clear hb'; obtain ⟨hc, hf⟩ := bcell hb; have hz := hb.size; (try simp at hz)) | (go_at_call 20; with_reducible refine (spec_CanFollow_any _ _ ms f d _ ((HR1.out.keep (B' := w.heap.size) (by repeat (first | exact Below.refl _ _ | assumption | refine Below.setCell ?_ (by first | omega | (simp <;> omega)) _ | refine Below.alloc ?_ (by first | omega | (simp <;> omega)) _ | refine below_drewN ?_ _ | refine Below.drew ?_ | refine Below.trans ?_ (Below.mono (by assumption) (by first | omega | (simp <;> omega))))) (Nat.le_refl _)).mono (by first | omega | (simp <;> omega)))).mono ?_; rintro e w1 ⟨rfl, hb'⟩; have hbb := bnext hbb hb' (by first | exact Nat.le_refl _ | exact hbb.size); (first | have hb := bnext hb hb' | have hb := bnextA hb hb' | have hb := hb'); clear hb'; obtain ⟨hc, hf⟩ := bcell hb; have hz := hb.size; (try simp at hz)) | (at_builtin; refine wpList_append_rd _ encB_len encB_one (by rfl) _ _ 63 (by rfl) W0.heap.size 4 i0 (.bool false) 1 Try.underlying63 hi hz0 hz1 hz2 rfl (by decide) _ _ (by rfl) (HO2.out.below (hbb.alloc hbb.size _)) _ _ [false] (by rfl) (rd_new (enc := encB) _ false _) (by unfold maxLen; simp [rowB_len]; omega) (by simp [rowB_len]; omega) (by have := hbb.size; simp; omega) ?_; intro r9 w9 hown9 hgrow9 hblk9))
            have hb9 := (hbr.trans ((hbb.alloc hbb.size _).mono hbs2)).trans (Own.belowGrown (B := W0.heap.size) (HO2.out.below (hbb.alloc hbb.size _)) hgrow9 (Nat.le_refl _) (by have := hbb.size; simp; omega))
            go_roundw
            case rel => exact ⟨k + 1, by omega, by go_num, hide (by rw [HBT.out]; exact hown9), hb9⟩
            case measure => simp [intOf]; omega
        · obtain rfl : k = xs.length := by omega
          obtain ⟨A9, c9, hr9, -⟩ := Own.rd encB_len HO2.out
          rw [rowB_len] at hr9
          subst hr9
          have HOO := hide (HO1.out.below hbr); have HRR := hide (HRW1.out.below hbr)
          have hne0 : ∀ g, u7.ownBlock = some g → (SV.val ⟨A9, xs.length, c9⟩).ownBlock ≠ some g := fun g e1 e2 => by
            have a1 := (Own.lt HO1.out g e1).2
            have a2 := (Own.lt HO2.out g e2).1
            omega
          have HNE := hide hne0; clear hne0
          have hlen9 : (svs ++ [(⟨A9, xs.length, c9⟩ : SV)]).length = i + 1 := by simp [HSL.out]
          have HL9 := hide hlen9; clear hlen9
          have hsvl : svs.length ≤ 12 := by have := HSL.out; omega
          have HSV := hide hsvl; clear hsvl
          go_wp2_with (at_builtin; refine wpList_append_rd _ SV.enc_len SV.one (by rfl) _ _ 61 (by rfl) w.heap.size 63 j0 (.slice none 0 0) 24 Try.underlying61 hj hy0 hy1 hy2 rfl (by decide) _ _ (by rfl) (HOO.out.below ((Below.refl _ _).alloc (Nat.le_refl _) _)) _ _ [(⟨A9, xs.length, c9⟩ : SV)] (by rfl) (rd_new (enc := SV.enc) _ ⟨A9, xs.length, c9⟩ _) (by have := HSV.out; unfold maxLen; simp; omega) (by have := HSV.out; simp; omega) (by simp; omega) ?_; intro r9 w9 hown9 hgrow9 hblk9)
          have hb9 := (hbk.trans (((Below.refl _ _).alloc (Nat.le_refl _) _).mono hbs)).trans (Own.belowGrown (B := w.heap.size) (HOO.out.below ((Below.refl _ _).alloc (Nat.le_refl _) _)) hgrow9 (Nat.le_refl _) (by simp; omega))
          have HR9 := hide (Rows'.snoc (HRR.out.below ((Below.refl _ _).alloc (Nat.le_refl _) _)) hgrow9 hblk9 (by omega) (show Rd _ 1 encB (SV.val ⟨A9, xs.length, c9⟩) (rowB p ms xs svs.length xs.length) by rw [HSL.out]; exact (Own.rd encB_len HO2.out).below ((Below.refl _ _).alloc (Nat.le_refl _) _)) HNE.out)
          have HO9 := hide hown9; clear hown9
          go_roundw
          case rel => exact ⟨i + 1, svs ++ [(⟨A9, xs.length, c9⟩ : SV)], by omega, HL9.out, by go_num, HO9, HR9, hb9⟩
          case measure => simp [intOf]; omega
    · obtain rfl : i = xs.length := by omega
      have HE := hide (HRW.out.rdM HO.out HSL.out)
      go_wp2
      go_ret
      exact ⟨_, rfl, HE.out, hbk⟩
end Go.Proofs.Ytdbpgfbbkejljaa
