/- The law FnLocks: for every row of bytes it returns true and leaves its argument as it was. No condition. -/
import Derived.Test.YtjmffhpfmfmnlaaBytes
import Derived.Test.YtjmffhpfmfmnlaaLocksL
import Derived.Test.YtjmffhpfmfmnlaaAppend4
import Derived.Test.YtjmffhpfmfmnlaaPlan3
import Derived.Test.YtjmffhpfmfmnlaaLaw2
namespace Go.Proofs.Ytjmffhpfmfmnlaa
open Go.RowKit Go.WideShapes Go.ChangeShapes Go.ChangeAt Go.Joins Go.Deep
set_option linter.unusedVariables false
theorem lkTotal_one {rs : List LockR} (h : ∀ r ∈ rs, r.ships.length ≤ 1) : lkTotal rs ≤ rs.length := by
  unfold lkTotal
  induction rs with
  | nil => simp
  | cons a l ih =>
    have h1 := h a List.mem_cons_self
    have h2 := ih (fun r hr => h r (List.mem_cons_of_mem _ hr))
    simp only [List.map_cons, List.sum_cons, List.length_cons]; omega
theorem mid_is {x2 t : Int} {ds : List LockD} {up : Bool} {s : Int} : ∃ mid : List LockD, appMid x2 t ds up [s] = mid ++ [(⟨t, up, [s]⟩ : LockD)] ∧ ds.length ≤ mid.length ∧ (mid.length : Int) - ds.length ≤ emptyLockings mid := by
  have h0 := (emptyTo_range ds ds.length).1
  cases e : lastUp ds up with
  | true => exact ⟨_, appMid_yes e, by simp, by rw [empty_snoc]; unfold emptyLockings; simp only [List.length_append, List.length_singleton, List.length_nil, if_true]; omega⟩
  | false => exact ⟨ds, appMid_no e, Nat.le_refl _, by unfold emptyLockings; omega⟩
set_option maxRecDepth 100000 in
set_option maxHeartbeats 16000000 in
theorem FnLocks_walk (w : World) (v : Value) (bs : List Int) (h : RdB w w.heap.size 1 enc8 v bs) (hby : Byt bs) :
    Calls Try.prog 11 #[v] w fun e w' => e = .returned (.bool true) ∧ Below w.heap.size w w' := by
  have HR := hide h; have HBY := hide hby; clear hby
  obtain ⟨A0, c0, rfl, hc0, hm0, -⟩ := h
  unfold maxLen at hm0
  go_enter Try.func11, Try.ntmps11
  by_cases hbig : (1048576 : Int) < (bs.length : Int)
  · go_wp2_with fail
    go_ret
    exact ⟨rfl, (by repeat (first | exact Below.refl _ _ | assumption | refine Below.setCell ?_ (by first | omega | (simp <;> omega)) _ | refine Below.alloc ?_ (by first | omega | (simp <;> omega)) _ | refine below_drewN ?_ _ | refine Below.drew ?_ | refine Below.trans ?_ (Below.mono (by assumption) (by first | omega | (simp <;> omega)))))⟩
  have hbig' : (bs.length : Int) ≤ 1048576 := by omega
  have HN := hide (show bs.length ≤ 1048576 by omega)
  clear hbig
  go_wp2_with fail
  refine (MakeLock_any _ bs _ HR.out HBY.out HN.out).mono ?_
  rintro e w1 ⟨x0, m, x2, vf, fl, vp, rs, rfl, a0, a1, a2, a3, a4, a5, hof, hfi, hf1, hf4, hlk, hpl, hsh, hb1⟩
  have HRF := hide (Own.rd ShipD.enc_len hof); have HRP := hide hlk.rd
  have HPL := hide hpl; have HSH := hide hsh; have HFI := hide hfi
  obtain ⟨A1, c1, rfl, hc1, hm1, -⟩ := HRF.out
  obtain ⟨A2, c2, rfl, hc2, hm2, -⟩ := HRP.out.1
  unfold maxLen at hm1 hm2
  have hpl12 := (plan_rows hpl).2.2.1
  simp only [List.length_map] at hpl12
  have GW := hide (hfi.wf (by omega))
  have HNX := hide (show ∀ r ∈ rs, r.ships.length ≤ 1048576 from fun r hr => by have := hsh r hr; omega)
  clear hof hlk hpl hsh hfi
  go_wp2_with fail
  generalize hW0 : w1.alloc (.cells #[.int .i64 x0, .int .i64 m, .int .i64 x2] 26) = W0
  have hb0 : Below w1.heap.size w1 W0 := by rw [← hW0]; exact (Below.refl _ _).alloc (Nat.le_refl _) _
  have hl0 : w1.heap.size < W0.heap.size := by rw [← hW0]; simp
  have z0 : W0.cell? ⟨w1.heap.size, 0, none⟩ = some (.int .i64 x0) := by rw [← hW0]; simp [go_sem]
  have z1 : W0.cell? ⟨w1.heap.size, 1, none⟩ = some (.int .i64 m) := by rw [← hW0]; simp [go_sem]
  have z2 : W0.cell? ⟨w1.heap.size, 2, none⟩ = some (.int .i64 x2) := by rw [← hW0]; simp [go_sem]
  clear hW0
  have hbw0 : Below w.heap.size w W0 := hb1.trans (hb0.mono hb1.size)
  have s1 := hb1.size
  have HR0 := hide (HR.out.keep hbw0 (Nat.le_refl _))
  refine (MakeNum_any _ bs 60 _ (HR0.out.mono (by omega)) HBY.out HN.out (by omega)).mono ?_
  rintro e w2 ⟨xa, rfl, xa0, xa1, hb2⟩
  have s2 := hb2.size
  go_wp2_with fail
  generalize (xa % 2 == 0) = up
  have hB2 : Below W0.heap.size W0 w2 := hb2
  refine (MakeNum_any _ bs 62 _ ((HR0.out.keep hB2 (by have := hb0.size; omega)).mono (by have := hb0.size; omega)) HBY.out HN.out (by omega)).mono ?_
  rintro e w3 ⟨xb, rfl, xb0, xb1, hb3⟩
  have hB3 := bnext hB2 hb3 (Nat.le_refl _)
  have s3 := hb3.size
  go_wp2_with fail
  generalize hre : xb % 300 = ready
  have hr0 : 0 ≤ ready := by omega
  have hr1 : ready ≤ 299 := by omega
  clear hre xb0 xb1
  refine (MakeNum_any _ bs 64 _ ((HR0.out.keep hB3 (by have := hb0.size; omega)).mono (by have := hb0.size; omega)) HBY.out HN.out (by omega)).mono ?_
  rintro e w4 ⟨xc, rfl, xc0, xc1, hb4⟩
  have hB4 := bnext hB3 hb4 (Nat.le_refl _)
  have s4 := hb4.size
  have hfl0 : ¬ ((fl.length : Int) = 0) := by omega
  have hflp : (0 : Int) < fl.length := by omega
  have y0 := cellKeepL hB4 z0 hl0; have y1 := cellKeepL hB4 z1 hl0; have y2 := cellKeepL hB4 z2 hl0
  go_wp2_with fail
  generalize hse : xc % (fl.length : Int) = s0
  have hs0 : 0 ≤ s0 := by rw [← hse]; exact Int.emod_nonneg _ hfl0
  have hs1 : s0 < fl.length := by rw [← hse]; exact Int.emod_lt_of_pos _ hflp
  clear hse xc0 xc1
  obtain ⟨s, rfl⟩ : ∃ s : Nat, s0 = s := ⟨s0.toNat, by omega⟩
  have hsl : s < fl.length := by omega
  have hx2 : 0 ≤ x2 := by omega
  have hturn := lk_turn (up := up) (ready := ready) HPL.out a2 hx2 hr0 (by omega)
  have hfails := fun hn => lk_fails (up := up) (ready := ready) (s := s) HPL.out a2 hx2 hr0 (by omega) hsl (by have := (HFI.out s hsl).2.1; omega) hn
  simp only [List.length_map] at hfails
  have hapm := @mid_is x2 (nextTurn x0 m x2 (rs.map LockR.d) up ready) (rs.map LockR.d) up s
  have happ := fun ds' hh => @app_some x0 m x2 fl (rs.map LockR.d) ds' up ready [(s : Int)] hh
  obtain ⟨T, hT⟩ : ∃ T, nextTurn x0 m x2 (rs.map LockR.d) up ready = T := ⟨_, rfl⟩
  rw [hT] at hturn hfails hapm happ
  have HT := hide hT; have HFA := hide hfails; have HAM := hide hapm; have HAP := hide happ
  clear hT hfails hapm happ
  have hsz0 : w1.heap.size ≤ W0.heap.size := hb0.size
  have HRP0 := hide (show ∀ w', Below W0.heap.size W0 w' → RdLk w' w'.heap.size (.slice A2 rs.length c2) rs from fun w' hB => ((HRP.out.keep hb0 (Nat.le_refl _)).keep hB hsz0).mono (by have := hB.size; omega))
  have HRF0 := hide (show ∀ w', Below W0.heap.size W0 w' → RdShip w' (.slice A1 fl.length c1) fl from fun w' hB => ((RdB.keep HRF.out hb0 (Nat.le_refl _)).keep hB hsz0).mono (by have := hB.size; omega))
  refine (impl_NextTurn_any x0 m x2 _ rs up ready _ (HRP0.out _ hB4)).mono ?_
  rintro e w5 ⟨rfl, hb5⟩
  rw [HT.out]
  have hB5 := bnext hB4 hb5 (Nat.le_refl _)
  have s5 := hb5.size
  clear y0 y1 y2
  have y0 := cellKeepL hB5 z0 hl0; have y1 := cellKeepL hB5 z1 hl0; have y2 := cellKeepL hB5 z2 hl0
  have hs5 : w1.heap.size < w5.heap.size := by omega
  go_wp2_with fail
  have hb5a : Below w5.heap.size w5 (w5.alloc (.cells #[.int .i64 (s : Int)] 3)) := (Below.refl _ _).alloc (Nat.le_refl _) _
  have hB5a := bnext hB5 hb5a (Nat.le_refl _)
  refine (impl_AppendLocking_any x0 m x2 _ _ _ fl rs up ready [(s : Int)] _ (HRF0.out _ hB5a) (HRP0.out _ hB5a) (rd_newA (enc := encI) _ (s : Int) _ (by simp)) GW.out (by omega) HNX.out (by simp)).mono ?_
  rintro e w6 ⟨v6, rs6, rfl, hl6, he6, hb6⟩
  have hB6 := bnext hB5a hb6 (Nat.le_refl _)
  have s6 := hb6.size
  have s5a := hb5a.size
  clear y0 y1 y2 hs5
  have y0 := cellKeepL hB6 z0 hl0; have y1 := cellKeepL hB6 z1 hl0; have y2 := cellKeepL hB6 z2 hl0
  have hs6 : w1.heap.size < w6.heap.size := by omega
  have HL6 := hide hl6; have HE6 := hide he6
  obtain ⟨A6, c6, rfl, hc6, hm6, -⟩ := Own.rd LockR.enc_len hl6.1
  unfold maxLen at hm6
  clear hl6 he6 hb2 hb3 hb4 hb5 hb6 hB2 hB3 hB4 hB5 hB5a hb5a
  rcases hap : appendLocking x0 m x2 fl (rs.map LockR.d) up ready [(s : Int)] with _ | ds
  · simp only [Option.isSome_none]
    have hwhy := HFA.out hap
    have HWHY := hide hwhy
    clear hwhy hap
    go_wp2_with fail
    refine (impl_LockPlanOk_any x0 m x2 _ _ fl rs _ (HRF0.out _ hB6) (HRP0.out _ hB6) GW.out HNX.out).mono ?_
    rintro e w7 ⟨rfl, hb7⟩
    rw [HPL.out]
    have hB7 := bnext hB6 hb7 (Nat.le_refl _)
    have s7 := hb7.size
    clear y0 y1 y2
    have y0 := cellKeepL hB7 z0 hl0; have y1 := cellKeepL hB7 z1 hl0; have y2 := cellKeepL hB7 z2 hl0
    have hs7 : w1.heap.size < w7.heap.size := by omega
    obtain ⟨A1', c1', e1, _, _, h1⟩ := HRF.out
    obtain ⟨b1, o1, e1', hbb1, hcell1⟩ := h1 (by omega)
    obtain ⟨rfl, -, rfl⟩ : A1 = A1' ∧ fl.length = fl.length ∧ c1 = c1' := by injection e1 with e1 e2 e3; exact ⟨e1, rfl, e3⟩
    subst e1'
    have f1 : w1.cell? ⟨b1, o1 + s * 6 + 1, none⟩ = some (.int .i64 fl[s].length) := by have := hcell1 s fl[s] (List.getElem?_eq_getElem hsl) 1 _ rfl; simpa using this
    replace f1 := cellKeepL hB7 (cellKeepL hb0 f1 hbb1) (by omega)
    have hb17 : b1 < w7.heap.size := by omega
    clear h1 e1 hcell1
    obtain ⟨len, hlen⟩ : ∃ len, fl[s].length = len := ⟨_, rfl⟩
    rw [hlen] at f1 HWHY
    clear hlen
    have hadd : IntKind.i64.wrap ((rs.length : Int) + 2) = (rs.length : Int) + 2 := IntWalk.i64_in _ (by omega)
    have hturn' : ¬ T < ready := by omega
    have hbw7 : Below w.heap.size w w7 := hbw0.trans (hB7.mono (by omega))
    by_cases p1 : x0 < len
    · go_wp2
      refine wp_region_below (Below.refl w7.heap.size w7) (by kernel_rfl) (by kernel_rfl) ?_
      repeat (first
        | go_big_quiet_skip
        | (go_big_quiet_want
           first
            | (refine quiet_value ?_; apply Exists.intro
               refine ⟨fun wq hq => ?_, ?_⟩
               · (obtain ⟨hc, hf⟩ := bcell hq; go_simp; first | done | rfl)
               go_big_quiet_on
               simp only [Act.put, List.setIfInBounds_toArray, List.set_cons_zero, List.set_cons_succ])
            | (go_big_quiet_op; go_big_quiet_on)
           ))
      refine wpQuiet_nil (fun w8 hb8 => ?_)
      go_wp2
      go_ret
      exact ⟨rfl, (by repeat (first | exact Below.refl _ _ | assumption | refine Below.setCell ?_ (by first | omega | (simp <;> omega)) _ | refine Below.alloc ?_ (by first | omega | (simp <;> omega)) _ | refine below_drewN ?_ _ | refine Below.drew ?_ | refine Below.trans ?_ (Below.mono (by assumption) (by first | omega | (simp <;> omega)))))⟩
    · by_cases p2 : (12 : Int) < (rs.length : Int) + 2
      · go_wp2
        have p1' : ¬ x0 < len := by omega
        refine wp_region_below (Below.refl w7.heap.size w7) (by kernel_rfl) (by kernel_rfl) ?_
        repeat (first
          | go_big_quiet_skip
          | (go_big_quiet_want
             first
              | (refine quiet_value ?_; apply Exists.intro
                 refine ⟨fun wq hq => ?_, ?_⟩
                 · (obtain ⟨hc, hf⟩ := bcell hq; go_simp; first | done | rfl)
                 go_big_quiet_on
                 simp only [Act.put, List.setIfInBounds_toArray, List.set_cons_zero, List.set_cons_succ])
              | (go_big_quiet_op; go_big_quiet_on)
             ))
        refine wpQuiet_nil (fun w8 hb8 => ?_)
        go_wp2
        go_ret
        exact ⟨rfl, (by repeat (first | exact Below.refl _ _ | assumption | refine Below.setCell ?_ (by first | omega | (simp <;> omega)) _ | refine Below.alloc ?_ (by first | omega | (simp <;> omega)) _ | refine below_drewN ?_ _ | refine Below.drew ?_ | refine Below.trans ?_ (Below.mono (by assumption) (by first | omega | (simp <;> omega)))))⟩
      · have p3 : 2880 < T := by have := HWHY.out; omega
        go_wp2
        have p1' : ¬ x0 < len := by omega
        have p2' : ¬ (12 : Int) < (rs.length : Int) + 2 := by omega
        refine wp_region_below (Below.refl w7.heap.size w7) (by kernel_rfl) (by kernel_rfl) ?_
        repeat (first
          | go_big_quiet_skip
          | (go_big_quiet_want
             first
              | (refine quiet_value ?_; apply Exists.intro
                 refine ⟨fun wq hq => ?_, ?_⟩
                 · (obtain ⟨hc, hf⟩ := bcell hq; go_simp; first | done | rfl)
                 go_big_quiet_on
                 simp only [Act.put, List.setIfInBounds_toArray, List.set_cons_zero, List.set_cons_succ])
              | (go_big_quiet_op; go_big_quiet_on)
             ))
        refine wpQuiet_nil (fun w8 hb8 => ?_)
        go_wp2
        go_ret
        exact ⟨rfl, (by repeat (first | exact Below.refl _ _ | assumption | refine Below.setCell ?_ (by first | omega | (simp <;> omega)) _ | refine Below.alloc ?_ (by first | omega | (simp <;> omega)) _ | refine below_drewN ?_ _ | refine Below.drew ?_ | refine Below.trans ?_ (Below.mono (by assumption) (by first | omega | (simp <;> omega)))))⟩
  · simp only [Option.isSome_some]
    obtain ⟨hp, he, -⟩ := HAP.out _ hap
    obtain ⟨mid, hmid, hm1, hm2⟩ := HAM.out
    simp only [List.length_map] at hm1 hm2
    have he2 := HE6.out
    rw [hap, Option.getD_some, he, hmid] at he2
    rw [he, hmid] at hp
    obtain ⟨lk0, lk1⟩ := lk_locked hx2 hp
    have hemp : emptyLockings (mid ++ [(⟨T, up, [(s : Int)]⟩ : LockD)]) = emptyLockings mid := by rw [empty_snoc]; simp
    have hord := @lk_order mid up T (s : Int)
    have hlen6 : rs6.length = mid.length + 1 := by have := congrArg List.length he2; simpa using this
    have hp12 : rs6.length ≤ 12 := by have := (plan_rows hp).2.2.1; rw [← he2, List.length_map] at this; exact this
    have hsh6 : ∀ r ∈ rs6, r.ships.length ≤ 1 := fun r hr => by
      have h1 : r.d ∈ rs6.map LockR.d := List.mem_map_of_mem hr
      rw [he2, ← hmid] at h1
      exact appMid_ships (fun d hd => by obtain ⟨a, ha, rfl⟩ := List.mem_map.1 hd; exact HSH.out a ha) (by simp) _ h1
    have hk6 : mid.length < rs6.length := by omega
    have hlast : rs6[mid.length].d = (⟨T, up, [(s : Int)]⟩ : LockD) := by
      have h1 : (rs6.map LockR.d)[mid.length]? = some (⟨T, up, [(s : Int)]⟩ : LockD) := by rw [he2]; simp
      rw [List.getElem?_map, List.getElem?_eq_getElem hk6] at h1
      exact Option.some.inj h1
    have hst : rs6[mid.length].start = T := congrArg LockD.start hlast
    have hup : rs6[mid.length].up = up := congrArg LockD.up hlast
    rw [← he2] at hp lk0 lk1 hemp hord
    have het := emptyTo_range mid mid.length
    have het2 : emptyLockings mid = emptyTo mid mid.length := rfl
    obtain ⟨et, heE⟩ : ∃ et, emptyLockings mid = et := ⟨_, rfl⟩
    obtain ⟨om, hom⟩ : ∃ om, lkOrd mid up = om := ⟨_, rfl⟩
    obtain ⟨K, hK⟩ : ∃ K, mid.length = K := ⟨_, rfl⟩
    obtain ⟨lo, hlo⟩ : ∃ lo, lockedAt (rs6.map LockR.d) (s : Int) up = lo := ⟨_, rfl⟩
    have hlt6 := lkTotal_one hsh6
    have homl : om.length ≤ 12 := by have := lkOrd_len up rs6; rw [hord, hom] at this; simp at this; omega
    rw [hlo] at lk0 lk1
    rw [heE] at hm2 hemp het2
    rw [hom] at hord
    simp only [hK] at hm1 hm2 hlen6 hk6 hst hup het het2
    rw [← het2] at het
    have HP6 := hide hp; have HEM := hide hemp; have HOR := hide hord; have HLO := hide hlo
    have HNX6 := hide (show ∀ r ∈ rs6, r.ships.length ≤ 1048576 from fun r hr => by have := hsh6 r hr; omega)
    have HLT := hide (show lkTotal rs6 ≤ 1048576 by omega)
    have hK12 : K ≤ 11 := by omega
    have hRD := HL6.out.rd
    rw [hlen6] at hRD ⊢
    have HR6 := hide (show ∀ w', Below w6.heap.size w6 w' → RdLk w' w'.heap.size (.slice A6 (K + 1) c6) rs6 from fun w' hB => (hRD.keep hB (Nat.le_refl _)).mono hB.size)
    obtain ⟨A6', c6', e6, _, _, h6⟩ := hRD.1
    obtain ⟨b6, o6, e6', hbb6, hcell6⟩ := h6 (by omega)
    obtain ⟨rfl, rfl⟩ : A6 = A6' ∧ c6 = c6' := by injection e6 with e1 e2 e3; exact ⟨e1, e3⟩
    subst e6'
    obtain ⟨A9, c9, hv9, -⟩ := hRD.2 rs6[K] (List.getElem_mem hk6)
    have e0 : w6.cell? ⟨b6, o6 + K * 3, none⟩ = some (.int .i64 T) := by have := hcell6 K rs6[K] (List.getElem?_eq_getElem hk6) 0 _ rfl; rw [hst] at this; simpa using this
    have e1 : w6.cell? ⟨b6, o6 + K * 3 + 1, none⟩ = some (.bool up) := by have := hcell6 K rs6[K] (List.getElem?_eq_getElem hk6) 1 _ rfl; rw [hup] at this; simpa using this
    have e2 : w6.cell? ⟨b6, o6 + K * 3 + 2, none⟩ = some (.slice A9 rs6[K].ships.length c9) := by have := hcell6 K rs6[K] (List.getElem?_eq_getElem hk6) 2 _ rfl; rw [hv9] at this; simpa using this
    obtain ⟨n9, hn9⟩ : ∃ n9, rs6[K].ships.length = n9 := ⟨_, rfl⟩
    rw [hn9] at e2
    clear hn9 hv9 h6 e6 hcell6 hRD hst hup hlast hsh6 hp hemp hord hlo he he2 hap hmid hK heE hom het2 hlt6
    clear hlen6
    go_wp2_with fail
    refine (impl_LockPlanOk_any x0 m x2 _ _ fl rs _ (HRF0.out _ hB6) (HRP0.out _ hB6) GW.out HNX.out).mono ?_
    rintro e w7 ⟨rfl, hb7⟩
    rw [HPL.out]
    have hB7 := bnext hB6 hb7 (Nat.le_refl _)
    have s7 := hb7.size
    clear y0 y1 y2
    have y0 := cellKeepL hB7 z0 hl0; have y1 := cellKeepL hB7 z1 hl0; have y2 := cellKeepL hB7 z2 hl0
    have hs7 : w1.heap.size < w7.heap.size := by omega
    have hturn' : ¬ T < ready := by omega
    go_wp2_with fail
    refine (impl_LockPlanOk_any x0 m x2 _ _ fl rs6 _ (HRF0.out _ hB7) (HR6.out _ hb7) GW.out HNX6.out).mono ?_
    rintro e w8 ⟨rfl, hb8⟩
    rw [HP6.out]
    have hB8 := bnext hB7 hb8 (Nat.le_refl _)
    have hC8 := bnext hb7 hb8 (Nat.le_refl _)
    have s8 := hb8.size
    clear y0 y1 y2
    replace e0 := cellKeepL hC8 e0 hbb6; replace e1 := cellKeepL hC8 e1 hbb6; replace e2 := cellKeepL hC8 e2 hbb6
    have hb68 : b6 < w8.heap.size := by omega
    have hKw : IntKind.i64.wrap (((K + 1 : Nat) : Int) - 1) = (K : Int) := by rw [IntWalk.i64_in _ (by omega)]; omega
    have hKe : ((K + 1 : Nat) : Int) - 1 = (K : Int) := by omega
    have hKw2 : IntKind.i64.wrap (K : Int) = (K : Int) := IntWalk.i64_in _ (by omega)
    have hKc : ((K + 1 : Nat) : Int) = (K : Int) + 1 := by omega
    have hgt : ¬ (((K + 1 : Nat) : Int) ≤ (rs.length : Int)) := by omega
    go_wp2_with fail
    generalize hW9 : w8.alloc (.cells #[.int .i64 T, .bool up, .slice A9 n9 c9] 68) = W9
    have hb9 : Below w8.heap.size w8 W9 := by rw [← hW9]; exact (Below.refl _ _).alloc (Nat.le_refl _) _
    have hl9 : w8.heap.size < W9.heap.size := by rw [← hW9]; simp
    have t0 : W9.cell? ⟨w8.heap.size, 0, none⟩ = some (.int .i64 T) := by rw [← hW9]; simp [go_sem]
    have t1 : W9.cell? ⟨w8.heap.size, 1, none⟩ = some (.bool up) := by rw [← hW9]; simp [go_sem]
    clear hW9
    have hC9 := bnext hC8 hb9 (Nat.le_refl _)
    have hB9 := bnext hB8 hb9 (Nat.le_refl _)
    clear e0 e1 e2
    refine (impl_LockOrder_any _ rs6 up _ (HR6.out _ hC9) HLT.out).mono ?_
    rintro e w10 ⟨u10, rfl, ho10, hb10⟩
    rw [HOR.out] at ho10
    have HRO := hide (Own.rd encI_len ho10); clear ho10
    obtain ⟨A10, c10, hu10, hc10, hm10, h10⟩ := HRO.out
    subst hu10
    obtain ⟨b10, o10, hA10, hbb10, hcell10⟩ := h10 (by simp)
    subst hA10
    have e3 : w10.cell? ⟨b10, o10 + om.length, none⟩ = some (.int .i64 s) := by have := hcell10 om.length (s : Int) (by simp) 0 _ rfl; simpa using this
    clear hcell10 h10
    have hC10 := bnext hC9 hb10 (Nat.le_refl _)
    have hB10 := bnext hB9 hb10 (Nat.le_refl _)
    have s10 := hb10.size
    have u0 := cellKeepL hb10 t0 hl9; have u1 := cellKeepL hb10 t1 hl9
    have hlx : w8.heap.size < w10.heap.size := by omega
    have hlon : (om ++ [(s : Int)]).length = om.length + 1 := by simp
    rw [hlon] at hc10 ⊢
    clear hlon t0 t1
    obtain ⟨O, hO⟩ : ∃ O, om.length = O := ⟨_, rfl⟩
    rw [hO] at e3 homl hc10 ⊢
    clear hO
    have hOw : IntKind.i64.wrap (((O + 1 : Nat) : Int) - 1) = (O : Int) := by rw [IntWalk.i64_in _ (by omega)]; omega
    have hOe : ((O + 1 : Nat) : Int) - 1 = (O : Int) := by omega
    have hOw2 : IntKind.i64.wrap (O : Int) = (O : Int) := IntWalk.i64_in _ (by omega)
    have hO0 : (0 : Int) < ((O + 1 : Nat) : Int) := by omega
    go_wp2_with fail
    refine (impl_LockedAt_any _ rs6 (s : Int) up _ (HR6.out _ hC10)).mono ?_
    rintro e w11 ⟨rfl, hb11⟩
    rw [HLO.out]
    have hC11 := bnext hC10 hb11 (Nat.le_refl _)
    have hB11 := bnext hB10 hb11 (Nat.le_refl _)
    have s11 := hb11.size
    have e4 := cellKeepL hb11 e3 hbb10
    clear e3
    go_wp2_with fail
    refine (impl_LockedAt_any _ rs6 (s : Int) up _ (HR6.out _ hC11)).mono ?_
    rintro e w12 ⟨rfl, hb12⟩
    rw [HLO.out]
    have hC12 := bnext hC11 hb12 (Nat.le_refl _)
    have hB12 := bnext hB11 hb12 (Nat.le_refl _)
    have s12 := hb12.size
    have e5 := cellKeepL hb12 e4 (by omega)
    have hbl12 : b10 < w12.heap.size := by omega
    clear e4
    go_wp2_with fail
    refine (impl_EmptyLockings_any _ rs6 _ (HR6.out _ hC12) (by omega)).mono ?_
    rintro e w13 ⟨rfl, hb13⟩
    rw [HEM.out]
    have hB13 := bnext hB12 hb13 (Nat.le_refl _)
    have hbw13 : Below w.heap.size w w13 := hbw0.trans (hB13.mono (by omega))
    have hetw : IntKind.i64.wrap (et + 1) = et + 1 := IntWalk.i64_in _ (by omega)
    have hdw : IntKind.i64.wrap (((K + 1 : Nat) : Int) - (rs.length : Int)) = (K : Int) + 1 - (rs.length : Int) := by rw [IntWalk.i64_in _ (by omega)]; omega
    have hdw2 : IntKind.i64.wrap ((K : Int) + 1 - (rs.length : Int)) = (K : Int) + 1 - (rs.length : Int) := IntWalk.i64_in _ (by omega)
    have hge : (K : Int) + 1 - (rs.length : Int) ≤ et + 1 := by omega
    have hge2 : ((K + 1 : Nat) : Int) - (rs.length : Int) ≤ et + 1 := by omega
    go_wp2
    go_ret
    exact ⟨rfl, hbw13⟩
namespace fnLocks
set_option maxRecDepth 100000 in
theorem lifted (os : Os) (started : os.Started) (H : Type) (enc : TypeId × Value → H) :
    ReturnsInHanded {} Try.checked os 11 .any (Rows.fnLocksSpec.pre6 enc Try.prog Try.f11 Rows.fnLocksRow.domain false) (Rows.fnLocksSpec.post enc Try.prog Try.f11 false true false false) := by
  refine returnsInHanded_of_change (C := Try.checked) own started (by kernel_rfl) Try.func11
    (ChangeSpec.witness6 (enc := enc) (C := Try.checked) false ⟨#[], #[.slice none 0 0], []⟩ 8 (by kernel_rfl) (by kernel_rfl) (by kernel_rfl) (by kernel_rfl)) ?_
  intro W base args ds gs before hval0 hW hcnd _
  have hval : ∀ (j : Nat) t v, Try.f11.params[j]? = some t → args[j]? = some v → Value.okWide Try.prog W .any base t v := hval0
  have hW' := hW
  obtain ⟨p, q, hA0, hV, hbef, hfz, hnd⟩ := hW
  have hA : DataW.TrodAll enc Try.prog W 0 (fun _ => true) true Try.f11.params.toList args.toList ds p := hA0
  rw [Try.params11] at hA hval
  obtain ⟨v0, vs0, d0, ds0, p0, q0, hargs, rfl, hp0, h0, r0⟩ := trodAll_cons hA
  obtain ⟨rfl, rfl, hpn⟩ := trodAll_nil r0
  obtain rfl : args = #[v0] := by cases args; simp_all
  obtain ⟨rfl, rfl⟩ := trodVars_none hV
  obtain ⟨a0, g0, w0⟩ := open_rows8 Try.underlying37 Try.underlying5 (by kernel_rfl) (hval 0 37 v0 rfl rfl) h0
  refine (FnLocks_walk W _ a0 g0 w0).mono fun e W' ⟨he, hg⟩ => ?_
  subst he
  exact ⟨_, rfl, post_law laidOut (by kernel_rfl) rfl Try.underlying4 rfl ⟨rfl, rfl, rfl⟩ hW' hg⟩
theorem proved : Rows.FnLocksSaid :=
  OpenClaim.holds_of_wide 11 Try.f11 rfl rfl rfl rfl rfl rfl rfl ⟨rfl, rfl, rfl, rfl, rfl⟩ rfl rfl rfl rfl rfl (by kernel_rfl) Try.func11 (by kernel_rfl)
    (of_decide_eq_true (by kernel_rfl)) (by unfold Func.isWrapper; first | (rw [if_pos (by decide +kernel)]; kernel_rfl) | (rw [if_neg (by decide +kernel)]; exact ⟨rfl, rfl⟩))
    (fun os started H enc _ => lifted os started H enc)
end fnLocks
end Go.Proofs.Ytjmffhpfmfmnlaa
