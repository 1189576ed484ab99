/- Marks in lockings: which memory they turn. No condition. -/
import Derived.Test.YtjmffhpfmfmnlaaLockOrd
import Derived.Test.YtjmffhpfmfmnlaaTou
namespace Go.Proofs.Ytjmffhpfmfmnlaa
open Go.RowKit
set_option linter.unusedVariables false

theorem rowKeep {w w' : World} {base sz n : Nat} {T : TypeId} {v : Value} {cs : List Value} {r : Option Nat} (h : w.ownsRow base T sz v n cs) (hg : w.grownBy w' r) (hne : ∀ g, v.ownBlock = some g → r ≠ some g) : w'.ownsRow base T sz v n cs :=
  World.ownsRow.kept h hg (by cases hv : v.ownBlock with | none => exact .inl rfl | some g => exact .inr (fun e => hne g hv e.symm))
theorem types_ne {w : World} {base base' sz sz' n n' : Nat} {T T' : TypeId} {v v' : Value} {cs cs' : List Value} (h : w.ownsRow base T sz v n cs) (h' : w.ownsRow base' T' sz' v' n' cs') (hT : T ≠ T') : ∀ g, v.ownBlock = some g → v'.ownBlock ≠ some g := by
  intro g hg hg'
  rcases h.2 with ⟨rfl, _⟩ | ⟨g1, _, cur1, rfl, _, e1, _⟩
  · simp [Value.ownBlock] at hg
  rcases h'.2 with ⟨rfl, _⟩ | ⟨g2, _, cur2, rfl, _, e2, _⟩
  · simp [Value.ownBlock] at hg'
  simp [Value.ownBlock] at hg hg'
  subst hg; subst hg'
  rw [e1] at e2
  simp at e2
  exact hT e2.2
/-- the memory of lockings while their marks are laid: the slices of ships stand where they stood -/
def MkLk (w : World) (lo : Nat) (v : Value) (ds : List LockR) : Prop :=
  (∃ cs, w.ownsRow lo 68 3 v ds.length cs ∧ ∀ (i : Nat) (r : LockR), ds[i]? = some r → cs[i * 3 + 2]? = some r.v) ∧ ∀ r ∈ ds, ∃ xs : List Int, xs.length = r.ships.length ∧ Own w lo 3 1 encI r.v xs
theorem OwnLk.mk {w : World} {lo hi : Nat} {v : Value} {ds : List LockR} (h : OwnLk w lo hi v ds) : MkLk w lo v ds :=
  ⟨⟨_, h.1.1, fun i r hi => flatMap_at LockR.enc_len ds i 2 r r.v hi rfl⟩, fun r hr => ⟨r.ships, rfl, (h.2.1 r hr).1⟩⟩
theorem pairAt {ds : List LockR} (h : SepLk ds) {i j : Nat} {a b : LockR} (hi : ds[i]? = some a) (hj : ds[j]? = some b) (hne : i ≠ j) {g : Nat} (hg : a.v.ownBlock = some g) : b.v.ownBlock ≠ some g := by
  have hs := List.pairwise_iff_getElem.1 h
  obtain ⟨h1, rfl⟩ := List.getElem?_eq_some_iff.1 hi
  obtain ⟨h2, rfl⟩ := List.getElem?_eq_some_iff.1 hj
  rcases Nat.lt_or_ge i j with hlt | hge
  · exact hs i j h1 h2 hlt g hg
  · intro hb; exact hs j i h2 h1 (by omega) g hb hg
/-- one row marked: two cells stored, then the ships' own row written -/
theorem MkLk.step {w w3 : World} {lo g cap : Nat} {ds : List LockR} {j : Nat} {x0 x1 : Value} (h : MkLk w lo (.slice (some ⟨g, 0, none⟩) ds.length cap) ds) (hs : SepLk ds) (hj : j < ds.length) (hne : 68 ≠ 3)
    {xs ys : List Int} (hxs : ys.length = ds[j].ships.length)
    (hg3 : (storeRow w g (j * 3) [x0, x1]).grownBy w3 ds[j].v.ownBlock) (ho3 : Own w3 lo 3 1 encI ds[j].v ys) : MkLk w3 lo (.slice (some ⟨g, 0, none⟩) ds.length cap) ds := by
  obtain ⟨⟨cs, h1, h2⟩, h3⟩ := h
  have r2 := ownsRow_storeRow [x0, x1] w (j * 3) cs h1
  obtain ⟨zs, hz, oz⟩ := h3 ds[j] (List.getElem_mem hj)
  refine ⟨⟨_, rowKeep r2 hg3 (fun k hk e => ?_), fun i r hi => ?_⟩, fun r hr => ?_⟩
  · exact types_ne h1 oz hne k hk e
  · simp only [setRow]
    rw [List.getElem?_set_ne (by omega), List.getElem?_set_ne (by omega)]
    exact h2 i r hi
  · obtain ⟨i, hi, rfl⟩ := List.getElem_of_mem hr
    by_cases e : i = j
    · subst e; exact ⟨ys, hxs, ho3⟩
    · obtain ⟨us, hu, ou⟩ := h3 ds[i] (List.getElem_mem hi)
      refine ⟨us, hu, rowKeep (r := ds[j].v.ownBlock) (w := storeRow w g (j * 3) [x0, x1]) ?_ hg3 (fun k hk => ?_)⟩
      · exact rowKeep (r := some g) ou (grownBy_storeRow _ _ _ (World.grownBy.refl _ _)) (fun k hk e => by
          have := Option.some.inj e; subst this
          exact types_ne h1 ou hne g rfl hk)
      · exact pairAt hs (List.getElem?_eq_getElem hi) (List.getElem?_eq_getElem hj) e hk
set_option maxRecDepth 100000 in
set_option maxHeartbeats 4000000 in
theorem markLockingS_any (v : Value) (ds : List LockR) (k : Int) (lo hi : Nat) (w : World) (h1 : OwnLk w lo hi v ds) (hk0 : 0 ≤ k) (hk1 : k ≤ 1048576) (hn : ds.length ≤ 1048576) (ht : lkTotal ds ≤ 1048576) :
    Calls Try.prog 42 #[v, .int .i64 k] w fun e w' => ∃ k' : Int, e = .returned (.int .i64 k') ∧ 0 ≤ k' ∧ k' ≤ k + 3145728 ∧ Tou lo hi w w' := by
  have HM := h1.mk
  have hhi := h1.1.2
  have HSH := hide (fun r hr => (h1.2.1 r hr).2)
  have hsep := h1.2.2
  rcases h1.1.1.cases with ⟨rfl, rfl⟩ | ⟨g, cap, rfl, hg, hgs, hnc, hm⟩
  · clear HM hsep hhi HSH
    go_enter Try.func42, Try.ntmps42
    go_wp2
    go_loop [1, 5] (fun kv i => kv = .int .i64 k ∧ i = .int .i64 0) (fun _ _ => 0)
    case atStart => exact ⟨rfl, rfl⟩
    case round =>
      obtain ⟨rfl, rfl⟩ := hrel
      go_wp2
      go_ret
      exact ⟨k, rfl, hk0, by omega, Tou.refl _ _ _⟩
  · unfold maxLen at hm
    have hgh := hhi g rfl
    have HS := hide hsep
    clear h1 hhi hsep
    go_enter Try.func42, Try.ntmps42
    go_wp2
    go_loopw [1, 5] (fun kv i wr => ∃ (j : Nat) (n : Int), j ≤ ds.length ∧ i = .int .i64 j ∧ kv = .int .i64 n ∧ Hid (0 ≤ n ∧ n ≤ k + 2 * j + lkTotal (ds.take j)) ∧ MkLk wr lo (.slice (some ⟨g, 0, none⟩) ds.length cap) ds ∧ Tou lo hi w wr) (fun _ i _ => ds.length - (intOf i).toNat)
    case atStart => exact ⟨0, k, Nat.zero_le _, rfl, rfl, hide ⟨hk0, by simp [lkTotal]⟩, HM, Tou.refl _ _ _⟩
    case round =>
      clear HM
      obtain ⟨j, n, hj, rfl, rfl, HN, HM, HT⟩ := hrel
      obtain ⟨wo, rfl⟩ : ∃ wo : World, wo = wr := ⟨_, rfl⟩
      by_cases hlt : j < ds.length
      · have hlk := lkTotal_le (rs := ds) (k := j)
        have hls := lkTotal_succ hlt
        have hlm := lkTotal_mem (List.getElem_mem hlt)
        obtain ⟨hn0, hn1⟩ := HN.out
        have hn2 : n ≤ 4194304 := by omega
        have HN2 := hide (show n + 1 + 1 + (ds[j].ships.length : Int) ≤ k + 2 * ((j + 1 : Nat) : Int) + lkTotal (ds.take (j + 1)) by omega)
        obtain ⟨⟨cs, r1, r2⟩, r3⟩ := id HM
        obtain ⟨zs, hz, oz⟩ := r3 ds[j] (List.getElem_mem hlt)
        have HO := hide oz; have HZ := hide hz
        have hcl := r1.1
        have e0 := World.ownsRow.cellAt r1 (j * 3) (by omega)
        have e1 := World.ownsRow.cellAt r1 (j * 3 + 1) (by omega)
        have e2 := World.ownsRow.cellAt r1 (j * 3 + 2) (by omega)
        obtain ⟨u0, hu0⟩ : ∃ u0, cs[j * 3]? = some u0 := ⟨_, List.getElem?_eq_getElem (by omega)⟩
        obtain ⟨u1, hu1⟩ : ∃ u1, cs[j * 3 + 1]? = some u1 := ⟨_, List.getElem?_eq_getElem (by omega)⟩
        rw [hu0] at e0; rw [hu1] at e1
        rw [r2 j _ (List.getElem?_eq_getElem hlt)] at e2
        have q0 := World.ownsRow.frozenAt r1 (j * 3)
        have q1 := World.ownsRow.frozenAt r1 (j * 3 + 1)
        have HNE := hide (types_ne r1 oz (by decide) g rfl)
        have HSJ := hide (HSH.out ds[j] (List.getElem_mem hlt))
        have HMM := hide HM
        clear r1 r2 r3 hcl hls hlk hn1 HM
        obtain ⟨A2, c2, hyv⟩ : ∃ A2 c2, ds[j].v = .slice A2 zs.length c2 := by
          obtain ⟨A2, c2, h, _⟩ := Own.rd encI_len oz; exact ⟨A2, c2, h⟩
        rw [hyv] at e2
        have HY := hide hyv
        clear hyv oz hz
        clear hu0 hu1
        go_wp2_with (go_at_call 19; refine (markIntS_any _ zs _ lo _ (by rw [← HY.out]; exact (HO.out.setFar HNE.out _).setFar HNE.out _) (by omega) (by omega) (by have := HZ.out; omega)).mono ?_; rintro e w3 ⟨rfl, ho3, hg3⟩)
        go_roundw
        case rel =>
          rw [← HY.out] at ho3 hg3
          refine ⟨j + 1, _, by omega, by go_num, rfl, hide ⟨by omega, by have := HN2.out; have := HZ.out; simp; omega⟩, MkLk.step HMM.out HS.out hlt (by decide) (xs := zs) (by rw [marks_length]; exact HZ.out) hg3 ho3, HT.trans ((Tou.grown (grownBy_storeRow [_, _] _ (j * 3) (World.grownBy.refl _ _)) (fun k hk => ?_)).trans (Tou.grown hg3 (fun k hk => ?_)))⟩
          · have := Option.some.inj hk; omega
          · exact ⟨(World.ownsRow.lt HO.out k hk).1, HSJ.out k hk⟩
        case measure => simp [intOf]; omega
      · obtain rfl : j = ds.length := by omega
        obtain ⟨hn0, hn1⟩ := HN.out
        have hlk := lkTotal_le (rs := ds) (k := ds.length)
        go_wp2
        go_ret
        exact ⟨n, rfl, hn0, by omega, HT⟩
end Go.Proofs.Ytjmffhpfmfmnlaa
