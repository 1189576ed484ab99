/- Plans of lockings that the call itself makes: one more row. No condition. -/
import Derived.Test.YtjmffhpfmfmnlaaPlan3
import Derived.Test.YtjmffhpfmfmnlaaLockMark
import Derived.Test.YtjmffhpfmfmnlaaLockOrd
import Derived.Test.YtjmffhpfmfmnlaaAppI
import Derived.Test.YtjmffhpfmfmnlaaAppIn
namespace Go.Proofs.Ytjmffhpfmfmnlaa
open Go.RowKit
set_option linter.unusedVariables false
def LkOut (w : World) (base : Nat) (v : Value) (ds : List LockR) : Prop := Own w base 68 3 LockR.enc v ds ∧ (∀ r ∈ ds, Own w base 3 1 encI r.v r.ships) ∧ SepLk ds
theorem LkOut.b {w : World} {base : Nat} {v : Value} {ds : List LockR} (h : LkOut w base v ds) : OwnLk w base w.heap.size v ds := ⟨h.1.b, fun r hr => (h.2.1 r hr).b, h.2.2⟩
theorem LkOut.rd {w : World} {base : Nat} {v : Value} {ds : List LockR} (h : LkOut w base v ds) : RdLk w w.heap.size v ds := h.b.rd
theorem LkOut.below {w w' : World} {base : Nat} {v : Value} {ds : List LockR} (h : LkOut w base v ds) (hb : Below w.heap.size w w') : LkOut w' base v ds := ⟨h.1.below hb, fun r hr => (h.2.1 r hr).below hb, h.2.2⟩
theorem LkOut.mono {w : World} {base base' : Nat} {v : Value} {ds : List LockR} (h : LkOut w base v ds) (hb : base' ≤ base) : LkOut w base' v ds := ⟨h.1.mono hb, fun r hr => (h.2.1 r hr).mono hb, h.2.2⟩
theorem LkOut.nil_ {w : World} {base : Nat} : LkOut w base (.slice none 0 0) [] := ⟨Own.nil_, by simp, List.Pairwise.nil⟩
theorem LkOut.start {w : World} {base : Nat} {v : Value} (h : Own w base 68 3 LockR.enc v ([] : List LockR)) : LkOut w base v [] := ⟨h, by simp, List.Pairwise.nil⟩
theorem LkOut.snoc {w w' : World} {base : Nat} {v v' : Value} {ds : List LockR} {r : LockR} (h : LkOut w base v ds) (hr : Own w base 3 1 encI r.v r.ships) (hsep : ∀ a ∈ ds, ∀ g, a.v.ownBlock = some g → r.v.ownBlock ≠ some g)
    (ho : Own w' base 68 3 LockR.enc v' (ds ++ [r])) (hg : w.grownBy w' v.ownBlock) : LkOut w' base v' (ds ++ [r]) := by
  refine ⟨ho, fun a ha => ?_, ?_⟩
  · have key : ∀ a : LockR, Own w base 3 1 encI a.v a.ships → Own w' base 3 1 encI a.v a.ships := fun a h2 => rowKeep h2 hg (types_ne h2 h.1 (by decide))
    rcases List.mem_append.1 ha with ha | ha
    · exact key a (h.2.1 a ha)
    · simp at ha; subst ha; exact key a hr
  · unfold SepLk
    rw [List.pairwise_append]
    refine ⟨h.2.2, by simp, fun a ha b hb g hgg => ?_⟩
    simp at hb; subst hb
    exact hsep a ha g hgg
theorem lock_one (x : LockR) (hv : ∃ A n c, x.v = .slice A n c) : ∀ u ∈ LockR.enc x, u.oneCell' = true := by
  obtain ⟨A, n, c, hv⟩ := hv
  intro u hu; simp [LockR.enc] at hu; rcases hu with rfl | rfl | rfl
  · rfl
  · rfl
  · rw [hv]; rfl
def lastUp (ds : List LockD) (up : Bool) : Bool := decide (0 < ds.length) && upSame (ds.getD (ds.length - 1) default).up up
def appMid (x2 at_ : Int) (ds : List LockD) (up : Bool) (ships : List Int) : List LockD := (if lastUp ds up = true then ds ++ [⟨at_ - x2, !up, []⟩] else ds) ++ [⟨at_, up, ships⟩]
def appOk (x0 x1 x2 : Int) (fl : List ShipD) (ds : List LockD) (up : Bool) (ready : Int) : Bool := lockPlanOk x0 x1 x2 fl ds && decide (0 ≤ nextTurn x0 x1 x2 ds up ready)
def appendLocking (x0 x1 x2 : Int) (fl : List ShipD) (ds : List LockD) (up : Bool) (ready : Int) (ships : List Int) : Option (List LockD) :=
  if (appOk x0 x1 x2 fl ds up ready && lockPlanOk x0 x1 x2 fl (appMid x2 (nextTurn x0 x1 x2 ds up ready) ds up ships)) = true then some (appMid x2 (nextTurn x0 x1 x2 ds up ready) ds up ships) else none
def AppRes (w w' : World) (e : Ending) (o : Option (List LockD)) : Prop := ∃ v rs', e = .returned (.tuple #[v, .bool o.isSome]) ∧ LkOut w' w.heap.size v rs' ∧ rs'.map LockR.d = o.getD [] ∧ Below w.heap.size w w'
theorem plan_len {x0 x1 x2 : Int} {fl : List ShipD} {ds : List LockD} (h : lockPlanOk x0 x1 x2 fl ds = true) : ds.length ≤ 12 ∧ chOk x0 x1 x2 = true := by
  unfold lockPlanOk at h
  simp only [Bool.and_eq_true, decide_eq_true_eq] at h
  exact ⟨by have := h.1.2; omega, h.1.1.1⟩
theorem rd_newA {α : Type} {enc : α → List Value} {sz : Nat} (W : World) (x : α) (T : TypeId) {g : Nat} (hg : g = W.heap.size) : Rd (W.alloc (.cells ⟨enc x⟩ T)) sz enc (.slice (some ⟨g, 0, none⟩) 1 1) [x] := by subst hg; exact rd_new W x T
theorem nextTurn_range {x0 x1 x2 : Int} {ds : List LockD} {up : Bool} {ready : Int} (h : chOk x0 x1 x2 = true) : nextTurn x0 x1 x2 ds up ready ≤ 3200 := by
  obtain ⟨-, -, -, -, h1, h2⟩ := chOk_of h
  unfold nextTurn nextLast
  simp only [inB, Bool.and_eq_true, decide_eq_true_eq]
  repeat' split
  all_goals omega
theorem appMid_yes {x2 t : Int} {ds : List LockD} {up : Bool} {ships : List Int} (h : lastUp ds up = true) : appMid x2 t ds up ships = ds ++ [⟨t - x2, !up, []⟩] ++ [⟨t, up, ships⟩] := by unfold appMid; rw [if_pos h]
theorem appMid_no {x2 t : Int} {ds : List LockD} {up : Bool} {ships : List Int} (h : lastUp ds up = false) : appMid x2 t ds up ships = ds ++ [⟨t, up, ships⟩] := by unfold appMid; rw [if_neg (by rw [h]; simp)]
theorem app_none {x0 x1 x2 : Int} {fl : List ShipD} {ds : List LockD} {up : Bool} {ready : Int} {ships : List Int} (h : appOk x0 x1 x2 fl ds up ready = false) : appendLocking x0 x1 x2 fl ds up ready ships = none := by unfold appendLocking; rw [h]; rfl
end Go.Proofs.Ytjmffhpfmfmnlaa
