/- The cursor that draws numbers out of bytes: every call draws some number in its bounds. No condition. -/
import Derived.Test.YtpbcbdjjpkenjaaGreatKeep
import Derived.Test.YtpbcbdjjpkenjaaGreatApp
import Derived.Test.YtpbcbdjjpkenjaaGreatBits
import Derived.Test.YtpbcbdjjpkenjaaGreatFix
namespace Go.Proofs.YtpbcbdjjpkenjaaGreat
open Go.RowKit
set_option linter.unusedVariables false
abbrev enc8 : Int → List Value := fun n => [.int .u8 n]
theorem enc8_len (n : Int) : (enc8 n).length = 1 := rfl
def Byt (bs : List Int) : Prop := ∀ b ∈ bs, 0 ≤ b ∧ b ≤ 255
/-- the cursor in block g, over bytes below B -/
structure Cur (w : World) (B g : Nat) (v : Value) (bs : List Int) : Prop where
  rd : RdB w B 1 enc8 v bs
  byt : Byt bs
  hB : B ≤ g
  lt : g < w.heap.size
  c0 : w.cell? ⟨g, 0, none⟩ = some v
  fr : w.frozen? ⟨g, 0, none⟩ = false ∧ w.frozen? ⟨g, 1, none⟩ = false ∧ w.frozen? ⟨g, 2, none⟩ = false
  st : ∃ i h : Int, w.cell? ⟨g, 1, none⟩ = some (.int .i64 i) ∧ w.cell? ⟨g, 2, none⟩ = some (.int .i64 h) ∧ 0 ≤ i ∧ i ≤ bs.length
/-- only block g has turned -/
abbrev CurW (g : Nat) (w w' : World) : Prop := w.grownBy w' (some g)
theorem CurW.trans {g : Nat} {a b c : World} (h : CurW g a b) (k : CurW g b c) : CurW g a c :=
  ⟨k.os.trans h.os, k.tape.trans h.tape, k.output.trans h.output, Nat.le_trans h.size k.size, fun q hq hn => (k.block q (Nat.lt_of_lt_of_le hq h.size) hn).trans (h.block q hq hn)⟩
theorem CurW.refl (g : Nat) (w : World) : CurW g w w := World.grownBy.refl _ _
theorem CurW.below {g B : Nat} {w w' : World} (h : CurW g w w') (hB : B ≤ g) (hg : B ≤ w.heap.size) : Below B w w' := (Below.refl _ _).grown h hg (fun k hk => by have := Option.some.inj hk; omega)
theorem Cur.keep {w w' : World} {B B' g : Nat} {v : Value} {bs : List Int} (h : Cur w B g v bs) (hb : Below B' w w') (hg : g < B') : Cur w' B g v bs := by
  obtain ⟨i, k, h1, h2, h3, h4⟩ := h.st
  refine ⟨h.rd.keep hb (Nat.le_of_lt (Nat.lt_of_le_of_lt h.hB hg)), h.byt, h.hB, Nat.lt_of_lt_of_le h.lt hb.size, ?_, ⟨?_, ?_, ?_⟩, i, k, ?_, ?_, h3, h4⟩
  · rw [hb.cell (p := ⟨g, 0, none⟩) hg]; exact h.c0
  · rw [hb.frozen (p := ⟨g, 0, none⟩) hg]; exact h.fr.1
  · rw [hb.frozen (p := ⟨g, 1, none⟩) hg]; exact h.fr.2.1
  · rw [hb.frozen (p := ⟨g, 2, none⟩) hg]; exact h.fr.2.2
  · rw [hb.cell (p := ⟨g, 1, none⟩) hg]; exact h1
  · rw [hb.cell (p := ⟨g, 2, none⟩) hg]; exact h2
theorem Own.curw {α : Type} {w w' : World} {base sz g : Nat} {T : TypeId} {enc : α → List Value} {v : Value} {xs : List α} (h : Own w base T sz enc v xs) (hw : CurW g w w') (hg : g < base) : Own w' base T sz enc v xs :=
  World.ownsRow.kept h hw (by
    cases hv : v.ownBlock with
    | none => exact .inl rfl
    | some k => exact .inr (fun e => by have := Option.some.inj e; have := (World.ownsRow.lt h k hv).1; omega))
theorem RdB.curw {α : Type} {w w' : World} {B sz g : Nat} {enc : α → List Value} {v : Value} {xs : List α} (h : RdB w B sz enc v xs) (hw : CurW g w w') (hB : B ≤ g) (hs : B ≤ w.heap.size) : RdB w' B sz enc v xs := h.below (hw.below hB hs)
theorem CurW.ofBelow {g : Nat} {w w' : World} (h : Below w.heap.size w w') : CurW g w w' := ⟨h.os, h.tape, h.output, h.size, fun q hq _ => h.block q hq⟩
theorem Cur.next {w w' : World} {B g : Nat} {v : Value} {bs : List Int} (h : Cur w B g v bs) (hw : CurW g w w') (c0 : w'.cell? ⟨g, 0, none⟩ = some v) (fr : w'.frozen? ⟨g, 0, none⟩ = false ∧ w'.frozen? ⟨g, 1, none⟩ = false ∧ w'.frozen? ⟨g, 2, none⟩ = false)
    (st : ∃ i h : Int, w'.cell? ⟨g, 1, none⟩ = some (.int .i64 i) ∧ w'.cell? ⟨g, 2, none⟩ = some (.int .i64 h) ∧ 0 ≤ i ∧ i ≤ bs.length) : Cur w' B g v bs :=
  ⟨h.rd.curw hw h.hB (Nat.le_of_lt (Nat.lt_of_le_of_lt h.hB h.lt)), h.byt, h.hB, Nat.lt_of_lt_of_le h.lt hw.size, c0, fr, st⟩
def low8 (a : Int) : Int := bits .and .i64 a 255
theorem low8_range (a : Int) : 0 ≤ low8 a ∧ low8 a ≤ 255 := by
  have h : low8 a = ((BitVec.ofInt 64 a &&& BitVec.ofInt 64 255).toNat : Int) := by
    show IntKind.i64.wrap ((BitVec.ofInt 64 a &&& BitVec.ofInt 64 255).toNat : Int) = _
    have hle : (BitVec.ofInt 64 a &&& BitVec.ofInt 64 255).toNat ≤ 255 := by rw [BitVec.toNat_and]; exact Nat.and_le_right
    exact IntWalk.i64_in _ (by omega)
  rw [h]
  have hle : (BitVec.ofInt 64 a &&& BitVec.ofInt 64 255).toNat ≤ 255 := by rw [BitVec.toNat_and]; exact Nat.and_le_right
  omega
def ByteRes (B g : Nat) (v : Value) (bs : List Int) (w : World) (e : Ending) (w' : World) : Prop := ∃ x : Int, e = .returned (.int .i64 x) ∧ 0 ≤ x ∧ x ≤ 255 ∧ Cur w' B g v bs ∧ CurW g w w'
def NewRes (v : Value) (bs : List Int) (w : World) (e : Ending) (w' : World) : Prop := ∃ g, e = .returned (.pointer (some ⟨g, 0, none⟩)) ∧ w.heap.size ≤ g ∧ Cur w' w.heap.size g v bs ∧ Below w.heap.size w w'
def BelowRes (B g : Nat) (v : Value) (bs : List Int) (n : Int) (w : World) (e : Ending) (w' : World) : Prop := ∃ x : Int, e = .returned (.int .i64 x) ∧ 0 ≤ x ∧ x ≤ 9223372036854775807 ∧ (n ≤ 0 → x = 0) ∧ (0 < n → x < n) ∧ Cur w' B g v bs ∧ CurW g w w'
end Go.Proofs.YtpbcbdjjpkenjaaGreat
