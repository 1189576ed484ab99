/- The cursor that draws numbers out of bytes: every call draws some number in its bounds. No condition. -/
import Derived.Test.YtjfppjhlkeopnaaKeep
import Derived.Test.YtjfppjhlkeopnaaApp
import Derived.Test.YtjfppjhlkeopnaaBits
import Derived.Test.YtjfppjhlkeopnaaFix
namespace Go.Proofs.Ytjfppjhlkeopnaa
open Go.RowKit
set_option linter.unusedVariables false
abbrev enc8 : Int → List Value := fun n => [.int .u8 n]
theorem enc8_len (n : Int) : (enc8 n).length = 1 := rfl
def Byt (bs : List Int) : Prop := ∀ b ∈ bs, 0 ≤ b ∧ b ≤ 255
/-- the cursor in block g, over bytes below B -/
structure Cur (w : World) (B g : Nat) (v : Value) (bs : List Int) : Prop where
  rd : RdB w B 1 enc8 v bs
  byt : Byt bs
  hB : B ≤ g
  lt : g < w.heap.size
  c0 : w.cell? ⟨g, 0, none⟩ = some v
  fr : w.frozen? ⟨g, 0, none⟩ = false ∧ w.frozen? ⟨g, 1, none⟩ = false ∧ w.frozen? ⟨g, 2, none⟩ = false
  st : ∃ i h : Int, w.cell? ⟨g, 1, none⟩ = some (.int .i64 i) ∧ w.cell? ⟨g, 2, none⟩ = some (.int .i64 h) ∧ 0 ≤ i ∧ i ≤ bs.length
/-- only block g has turned -/
abbrev CurW (g : Nat) (w w' : World) : Prop := w.grownBy w' (some g)
theorem CurW.trans {g : Nat} {a b c : World} (h : CurW g a b) (k : CurW g b c) : CurW g a c :=
  ⟨k.os.trans h.os, k.tape.trans h.tape, k.output.trans h.output, Nat.le_trans h.size k.size, fun q hq hn => (k.block q (Nat.lt_of_lt_of_le hq h.size) hn).trans (h.block q hq hn)⟩
theorem CurW.refl (g : Nat) (w : World) : CurW g w w := World.grownBy.refl _ _
theorem CurW.below {g B : Nat} {w w' : World} (h : CurW g w w') (hB : B ≤ g) (hg : B ≤ w.heap.size) : Below B w w' := (Below.refl _ _).grown h hg (fun k hk => by have := Option.some.inj hk; omega)
theorem Cur.keep {w w' : World} {B B' g : Nat} {v : Value} {bs : List Int} (h : Cur w B g v bs) (hb : Below B' w w') (hg : g < B') : Cur w' B g v bs := by
  obtain ⟨i, k, h1, h2, h3, h4⟩ := h.st
  refine ⟨h.rd.keep hb (Nat.le_of_lt (Nat.lt_of_le_of_lt h.hB hg)), h.byt, h.hB, Nat.lt_of_lt_of_le h.lt hb.size, ?_, ⟨?_, ?_, ?_⟩, i, k, ?_, ?_, h3, h4⟩
  · rw [hb.cell (p := ⟨g, 0, none⟩) hg]; exact h.c0
  · rw [hb.frozen (p := ⟨g, 0, none⟩) hg]; exact h.fr.1
  · rw [hb.frozen (p := ⟨g, 1, none⟩) hg]; exact h.fr.2.1
  · rw [hb.frozen (p := ⟨g, 2, none⟩) hg]; exact h.fr.2.2
  · rw [hb.cell (p := ⟨g, 1, none⟩) hg]; exact h1
  · rw [hb.cell (p := ⟨g, 2, none⟩) hg]; exact h2
theorem Own.curw {α : Type} {w w' : World} {base sz g : Nat} {T : TypeId} {enc : α → List Value} {v : Value} {xs : List α} (h : Own w base T sz enc v xs) (hw : CurW g w w') (hg : g < base) : Own w' base T sz enc v xs :=
  World.ownsRow.kept h hw (by
    cases hv : v.ownBlock with
    | none => exact .inl rfl
    | some k => exact .inr (fun e => by have := Option.some.inj e; have := (World.ownsRow.lt h k hv).1; omega))
theorem RdB.curw {α : Type} {w w' : World} {B sz g : Nat} {enc : α → List Value} {v : Value} {xs : List α} (h : RdB w B sz enc v xs) (hw : CurW g w w') (hB : B ≤ g) (hs : B ≤ w.heap.size) : RdB w' B sz enc v xs := h.below (hw.below hB hs)
theorem CurW.ofBelow {g : Nat} {w w' : World} (h : Below w.heap.size w w') : CurW g w w' := ⟨h.os, h.tape, h.output, h.size, fun q hq _ => h.block q hq⟩
theorem Cur.next {w w' : World} {B g : Nat} {v : Value} {bs : List Int} (h : Cur w B g v bs) (hw : CurW g w w') (c0 : w'.cell? ⟨g, 0, none⟩ = some v) (fr : w'.frozen? ⟨g, 0, none⟩ = false ∧ w'.frozen? ⟨g, 1, none⟩ = false ∧ w'.frozen? ⟨g, 2, none⟩ = false)
    (st : ∃ i h : Int, w'.cell? ⟨g, 1, none⟩ = some (.int .i64 i) ∧ w'.cell? ⟨g, 2, none⟩ = some (.int .i64 h) ∧ 0 ≤ i ∧ i ≤ bs.length) : Cur w' B g v bs :=
  ⟨h.rd.curw hw h.hB (Nat.le_of_lt (Nat.lt_of_le_of_lt h.hB h.lt)), h.byt, h.hB, Nat.lt_of_lt_of_le h.lt hw.size, c0, fr, st⟩
def low8 (a : Int) : Int := bits .and .i64 a 255
theorem low8_range (a : Int) : 0 ≤ low8 a ∧ low8 a ≤ 255 := by
  have h : low8 a = ((BitVec.ofInt 64 a &&& BitVec.ofInt 64 255).toNat : Int) := by
    show IntKind.i64.wrap ((BitVec.ofInt 64 a &&& BitVec.ofInt 64 255).toNat : Int) = _
    have hle : (BitVec.ofInt 64 a &&& BitVec.ofInt 64 255).toNat ≤ 255 := by rw [BitVec.toNat_and]; exact Nat.and_le_right
    exact IntWalk.i64_in _ (by omega)
  rw [h]
  have hle : (BitVec.ofInt 64 a &&& BitVec.ofInt 64 255).toNat ≤ 255 := by rw [BitVec.toNat_and]; exact Nat.and_le_right
  omega
def ByteRes (B g : Nat) (v : Value) (bs : List Int) (w : World) (e : Ending) (w' : World) : Prop := ∃ x : Int, e = .returned (.int .i64 x) ∧ 0 ≤ x ∧ x ≤ 255 ∧ Cur w' B g v bs ∧ CurW g w w'
set_option maxRecDepth 100000 in
set_option maxHeartbeats 8000000 in
theorem l01Byte_any (B g : Nat) (v : Value) (bs : List Int) (w : World) (h : Cur w B g v bs) :
    Calls Try.prog 105 #[.pointer (some ⟨g, 0, none⟩)] w (ByteRes B g v bs w) := by
  have HC := hide h
  obtain ⟨hrd, hby, hB, hlt, c0, ⟨f0, f1, f2⟩, i, h0, c1, c2, hi0, hi1⟩ := h
  obtain ⟨A1, cc1, rfl, hc1, hm1, h1⟩ := hrd
  unfold maxLen at hm1
  have H1 := hide h1; have HBY := hide hby; clear h1 hby
  have h255 : ∀ a : Int, bits .and .i64 a 255 = low8 a := fun _ => rfl
  have HL := hide (fun a : Int => low8_range a)
  go_enter Try.func105, Try.ntmps105
  go_wp2_with fail
  generalize (wrap64 (wrap64 (h0 * 6364136223846793005) + 1442695040888963407)) = hh
  generalize hW1 : w.setCell ⟨g, 2, none⟩ (.int .i64 hh) = W1
  have hG1 : CurW g w W1 := by rw [← hW1]; exact grownBy_storeRow [.int .i64 hh] w 2 (World.grownBy.refl _ _)
  have hs1 : w.heap.size = W1.heap.size := by rw [← hW1]; simp [World.setCell]
  have x0 : W1.cell? ⟨g, 0, none⟩ = some (.slice A1 bs.length cc1) := by rw [← hW1]; simp [go_sem, c0]
  have x1 : W1.cell? ⟨g, 1, none⟩ = some (.int .i64 i) := by rw [← hW1]; simp [go_sem, c1]
  have x2 : W1.cell? ⟨g, 2, none⟩ = some (.int .i64 hh) := by rw [← hW1]; simp [go_sem, c2]
  have y0 : W1.frozen? ⟨g, 0, none⟩ = false := by rw [← hW1]; simp [go_sem, f0]
  have y1 : W1.frozen? ⟨g, 1, none⟩ = false := by rw [← hW1]; simp [go_sem, f1]
  have y2 : W1.frozen? ⟨g, 2, none⟩ = false := by rw [← hW1]; simp [go_sem, f2]
  clear hW1 c0 c1 c2 f0 f1 f2
  have hlt1 : g < W1.heap.size := by omega
  have HS1 := hide hs1; clear hs1
  obtain ⟨n, rfl⟩ : ∃ n : Nat, i = n := ⟨i.toNat, by omega⟩
  refine wp_region_below (Below.refl W1.heap.size _) (by kernel_rfl) (by kernel_rfl) ?_
  repeat (first
    | go_big_quiet_skip
    | (go_big_quiet_want
       first
        | (refine quiet_value ?_; apply Exists.intro
           refine ⟨fun wq hq => ?_, ?_⟩
           · (obtain ⟨hc, hf⟩ := bcell hq; go_simp; first | done | rfl)
           go_big_quiet_on
           simp only [Act.put, List.setIfInBounds_toArray, List.set_cons_zero, List.set_cons_succ])
        | (go_big_quiet_op; go_big_quiet_on)
       ))
  refine wpQuiet_nil (fun w2 hb2 => ?_)
  have u0 := cellKeep hb2 x0 hlt1; have u1 := cellKeep hb2 x1 hlt1; have u2 := cellKeep hb2 x2 hlt1
  have v0 := frozenKeep hb2 y0 hlt1; have v1 := frozenKeep hb2 y1 hlt1; have v2 := frozenKeep hb2 y2 hlt1
  have hlt2 : g < w2.heap.size := Nat.lt_of_lt_of_le hlt1 hb2.size
  clear x0 x1 x2 y0 y1 y2
  by_cases hin : n < bs.length
  · obtain ⟨b, o, rfl, hbB, hcell⟩ := H1.out (by omega)
    have hbg : b < g := Nat.lt_of_lt_of_le hbB hB
    have hbb := HBY.out bs[n] (List.getElem_mem hin)
    have hce : w.cell? ⟨b, o + n, none⟩ = some (.int .u8 bs[n]) := by have := hcell n bs[n] (List.getElem?_eq_getElem hin) 0 _ rfl; simpa using this
    have e1 : W1.cell? ⟨b, o + n, none⟩ = some (.int .u8 bs[n]) := by rw [World.cell?_of_block (hG1.block b (by omega) (fun e => by have := Option.some.inj e; omega))]; exact hce
    have e2 := cellKeep hb2 e1 (show b < W1.heap.size by omega)
    obtain ⟨y, hy⟩ : ∃ y, bs[n] = y := ⟨_, rfl⟩
    rw [hy] at e2 hbb
    clear hcell hce e1 hy
    obtain ⟨hy0, hy1⟩ := hbb
    have hin' : (n : Int) < bs.length := by omega
    have hbl2 : b < w2.heap.size := by omega
    go_wp2_with fail
    refine wp_region_below (Below.refl w2.heap.size _) (by kernel_rfl) (by kernel_rfl) ?_
    repeat (first
      | go_big_quiet_skip
      | (go_big_quiet_want
         first
          | (refine quiet_value ?_; apply Exists.intro
             refine ⟨fun wq hq => ?_, ?_⟩
             · (obtain ⟨hc, hf⟩ := bcell hq; go_simp; first | done | rfl)
             go_big_quiet_on
             simp only [Act.put, List.setIfInBounds_toArray, List.set_cons_zero, List.set_cons_succ])
          | (go_big_quiet_op; go_big_quiet_on)
         ))
    refine wpQuiet_nil (fun w3 hb3 => ?_)
    have p0 := cellKeep hb3 u0 hlt2; have p1 := cellKeep hb3 u1 hlt2; have p2 := cellKeep hb3 u2 hlt2; have p3 := cellKeep hb3 e2 hbl2
    have r0 := frozenKeep hb3 v0 hlt2; have r1 := frozenKeep hb3 v1 hlt2; have r2 := frozenKeep hb3 v2 hlt2
    have hlt3 : g < w3.heap.size := Nat.lt_of_lt_of_le hlt2 hb3.size
    have hbl3 : b < w3.heap.size := by omega
    clear u0 u1 u2 v0 v1 v2 e2
    go_wp2_with fail
    refine wp_region_below (Below.refl w3.heap.size _) (by kernel_rfl) (by kernel_rfl) ?_
    repeat (first
      | go_big_quiet_skip
      | (go_big_quiet_want
         first
          | (refine quiet_value ?_; apply Exists.intro
             refine ⟨fun wq hq => ?_, ?_⟩
             · (obtain ⟨hc, hf⟩ := bcell hq; go_simp; first | done | rfl)
             go_big_quiet_on
             simp only [Act.put, List.setIfInBounds_toArray, List.set_cons_zero, List.set_cons_succ])
          | (go_big_quiet_op; go_big_quiet_on)
         ))
    refine wpQuiet_nil (fun w4 hb4 => ?_)
    have u0 := cellKeep hb4 p0 hlt3; have u1 := cellKeep hb4 p1 hlt3; have u2 := cellKeep hb4 p2 hlt3
    have v0 := frozenKeep hb4 r0 hlt3; have v1 := frozenKeep hb4 r1 hlt3; have v2 := frozenKeep hb4 r2 hlt3
    have hlt4 : g < w4.heap.size := Nat.lt_of_lt_of_le hlt3 hb4.size
    clear p0 p1 p2 p3 r0 r1 r2
    have hnw : IntKind.i64.wrap ((n : Int) + 1) = (n : Int) + 1 := IntWalk.i64_in _ (by omega)
    go_wp2
    have hG4 : CurW g w w4 := ((hG1.trans (CurW.ofBelow hb2)).trans (CurW.ofBelow hb3)).trans (CurW.ofBelow hb4)
    have hG5 : CurW g w (w4.setCell ⟨g, 1, none⟩ (.int .i64 (n + 1))) := hG4.trans (grownBy_storeRow [.int .i64 ((n : Int) + 1)] w4 1 (World.grownBy.refl _ _))
    go_ret
    exact ⟨_, rfl, (low8_range _).1, (low8_range _).2, HC.out.next hG5 (by simp [go_sem, u0]) ⟨by simp [go_sem, v0], by simp [go_sem, v1], by simp [go_sem, v2]⟩ ⟨n + 1, hh, by simp [go_sem, u1], by simp [go_sem, u2], by omega, by omega⟩, hG5⟩
  · have hin' : ¬ (n : Int) < bs.length := by omega
    go_wp2_with fail
    refine wp_region_below (Below.refl w2.heap.size _) (by kernel_rfl) (by kernel_rfl) ?_
    repeat (first
      | go_big_quiet_skip
      | (go_big_quiet_want
         first
          | (refine quiet_value ?_; apply Exists.intro
             refine ⟨fun wq hq => ?_, ?_⟩
             · (obtain ⟨hc, hf⟩ := bcell hq; go_simp; first | done | rfl)
             go_big_quiet_on
             simp only [Act.put, List.setIfInBounds_toArray, List.set_cons_zero, List.set_cons_succ])
          | (go_big_quiet_op; go_big_quiet_on)
         ))
    refine wpQuiet_nil (fun w3 hb3 => ?_)
    have p0 := cellKeep hb3 u0 hlt2; have p1 := cellKeep hb3 u1 hlt2; have p2 := cellKeep hb3 u2 hlt2
    have r0 := frozenKeep hb3 v0 hlt2; have r1 := frozenKeep hb3 v1 hlt2; have r2 := frozenKeep hb3 v2 hlt2
    clear u0 u1 u2 v0 v1 v2
    go_wp2
    have hG3 : CurW g w w3 := (hG1.trans (CurW.ofBelow hb2)).trans (CurW.ofBelow hb3)
    go_ret
    exact ⟨_, rfl, (low8_range _).1, (low8_range _).2, HC.out.next hG3 p0 ⟨r0, r1, r2⟩ ⟨n, hh, p1, p2, by omega, by omega⟩, hG3⟩
def NewRes (v : Value) (bs : List Int) (w : World) (e : Ending) (w' : World) : Prop := ∃ g, e = .returned (.pointer (some ⟨g, 0, none⟩)) ∧ w.heap.size ≤ g ∧ Cur w' w.heap.size g v bs ∧ Below w.heap.size w w'
set_option maxRecDepth 100000 in
set_option maxHeartbeats 8000000 in
theorem l01New_any (v : Value) (bs : List Int) (w : World) (h : RdB w w.heap.size 1 enc8 v bs) (hby : Byt bs) (hn : bs.length ≤ 1048576) :
    Calls Try.prog 70 #[v] w (NewRes v bs w) := by
  have HR := hide h; have HBY := hide hby; clear hby
  obtain ⟨A1, cc1, rfl, hc1, hm1, h1⟩ := h
  unfold maxLen at hm1
  have H1 := hide h1; clear h1
  go_enter Try.func70, Try.ntmps70
  go_wp2
  go_loop [3, 4] (fun hv iv => ∃ (q : Int) (k : Nat), hv = .int .i64 q ∧ iv = .int .i64 k ∧ k ≤ bs.length) (fun _ iv => bs.length - (intOf iv).toNat)
  case atStart => exact ⟨_, 0, rfl, rfl, Nat.zero_le _⟩
  case round =>
    obtain ⟨q, k, rfl, rfl, hk⟩ := hrel
    by_cases hlt : k < bs.length ∧ k < 4000
    · obtain ⟨hlt, hlt4⟩ := hlt
      obtain ⟨b, o, rfl, hbB, hcell⟩ := H1.out (by omega)
      have hce : w.cell? ⟨b, o + k, none⟩ = some (.int .u8 bs[k]) := by have := hcell k bs[k] (List.getElem?_eq_getElem hlt) 0 _ rfl; simpa using this
      have hbb := HBY.out bs[k] (List.getElem_mem hlt)
      obtain ⟨y, hy⟩ : ∃ y, bs[k] = y := ⟨_, rfl⟩
      rw [hy] at hce hbb
      clear hcell hy
      obtain ⟨hy0, hy1⟩ := hbb
      have hlt' : (k : Int) < bs.length := by omega
      have hlt4' : (k : Int) < 4000 := by omega
      go_wp2
      go_round
      case rel => exact ⟨_, k + 1, rfl, by go_num, by omega⟩
      case measure => simp [intOf]; omega
    · have hend : ∀ e w', (e = Ending.returned (.pointer (some ⟨w.heap.size, 0, none⟩)) ∧ w' = w.alloc (.cells #[.slice A1 bs.length cc1, .int .i64 0, .int .i64 q] 132)) → NewRes (.slice A1 bs.length cc1) bs w e w' := by
        rintro e w' ⟨rfl, rfl⟩
        have hb : Below w.heap.size w (w.alloc (.cells #[.slice A1 bs.length cc1, .int .i64 0, .int .i64 q] 132)) := (Below.refl _ _).alloc (Nat.le_refl _) _
        exact ⟨_, rfl, Nat.le_refl _, ⟨HR.out.keep hb (Nat.le_refl _), HBY.out, Nat.le_refl _, by simp, by simp [go_sem], ⟨by simp [go_sem], by simp [go_sem], by simp [go_sem]⟩, 0, q, by simp [go_sem], by simp [go_sem], Int.le_refl _, by omega⟩, hb⟩
      have HEND := hide hend; clear hend
      by_cases hl : k < bs.length
      · have h4 : ¬ k < 4000 := fun h => hlt ⟨hl, h⟩
        have h4' : ¬ (k : Int) < 4000 := by omega
        have hl' : (k : Int) < bs.length := by omega
        clear hlt
        go_wp2
        go_ret
        exact HEND.out _ _ ⟨rfl, rfl⟩
      · have hl' : ¬ (k : Int) < bs.length := by omega
        clear hlt
        go_wp2
        go_ret
        exact HEND.out _ _ ⟨rfl, rfl⟩
def BelowRes (B g : Nat) (v : Value) (bs : List Int) (n : Int) (w : World) (e : Ending) (w' : World) : Prop := ∃ x : Int, e = .returned (.int .i64 x) ∧ 0 ≤ x ∧ x ≤ 9223372036854775807 ∧ (n ≤ 0 → x = 0) ∧ (0 < n → x < n) ∧ Cur w' B g v bs ∧ CurW g w w'
set_option maxRecDepth 100000 in
set_option maxHeartbeats 8000000 in
theorem l01Below_any (B g : Nat) (v : Value) (bs : List Int) (n : Int) (w : World) (h : Cur w B g v bs) (hn : n ≤ 9223372036854775807) :
    Calls Try.prog 98 #[.pointer (some ⟨g, 0, none⟩), .int .i64 n] w (BelowRes B g v bs n w) := by
  have HC := hide h; clear h
  rcases Int.lt_or_le 0 n with h0 | h0
  · rcases Int.lt_or_le 256 n with h1 | h1
    · have hn1 : ¬ n ≤ 256 := by omega
      go_enter Try.func98, Try.ntmps98
      go_wp2_with fail
      refine (l01Byte_any B g v bs _ HC.out).mono ?_
      rintro e wa ⟨xa, rfl, xa0, xa1, hca, hwa⟩
      have HCA := hide hca; clear hca
      go_wp2_with fail
      refine (l01Byte_any B g v bs _ HCA.out).mono ?_
      rintro e wb ⟨xb, rfl, xb0, xb1, hcb, hwb⟩
      have HCB := hide hcb; clear hcb
      go_wp2_with fail
      refine (l01Byte_any B g v bs _ HCB.out).mono ?_
      rintro e wc ⟨xc, rfl, xc0, xc1, hcc, hwc⟩
      have HCC := hide hcc; clear hcc
      go_wp2_with fail
      refine (l01Byte_any B g v bs _ HCC.out).mono ?_
      rintro e wd ⟨xd, rfl, xd0, xd1, hcd, hwd⟩
      have HCD := hide hcd; clear hcd
      go_wp2
      have hm := Int.emod_lt_of_pos (xa * 16777216 + xb * 65536 + xc * 256 + xd) h0
      have hm0 := Int.emod_nonneg (xa * 16777216 + xb * 65536 + xc * 256 + xd) (show n ≠ 0 by omega)
      go_ret
      exact ⟨_, rfl, hm0, by omega, fun h => by omega, fun _ => hm, HCD.out, ((hwa.trans hwb).trans hwc).trans hwd⟩
    · go_enter Try.func98, Try.ntmps98
      go_wp2_with fail
      refine (l01Byte_any B g v bs _ HC.out).mono ?_
      rintro e wa ⟨xa, rfl, xa0, xa1, hca, hwa⟩
      have HCA := hide hca; clear hca
      go_wp2
      have hm := Int.emod_lt_of_pos xa h0
      have hm0 := Int.emod_nonneg xa (show n ≠ 0 by omega)
      go_ret
      exact ⟨_, rfl, hm0, by omega, fun h => by omega, fun _ => hm, HCA.out, hwa⟩
  · go_enter Try.func98, Try.ntmps98
    go_wp2
    go_ret
    exact ⟨0, rfl, Int.le_refl _, by omega, fun _ => rfl, fun h => by omega, HC.out, CurW.refl _ _⟩
end Go.Proofs.Ytjfppjhlkeopnaa
