/- The law FnPacked: for every row of bytes it returns true and leaves its argument as it was. No condition. -/
import Derived.Test.YtjmffhpfmfmnlaaBytes
import Derived.Test.YtjmffhpfmfmnlaaCham
import Derived.Test.YtjmffhpfmfmnlaaPackedP
import Derived.Test.YtjmffhpfmfmnlaaLaw2
namespace Go.Proofs.Ytjmffhpfmfmnlaa
open Go.RowKit Go.WideShapes Go.ChangeShapes Go.ChangeAt Go.Joins Go.Deep
set_option linter.unusedVariables false
theorem calls_intK {P : Program} {f : FuncId} {args : Array Value} {w : World} {R : World → Prop} {b c : Int} (h : Calls P f args w fun e w' => e = .returned (.int .i64 b) ∧ R w') (hb : b = c) : Calls P f args w fun e w' => e = .returned (.int .i64 c) ∧ R w' := hb ▸ h
set_option maxRecDepth 100000 in
set_option maxHeartbeats 16000000 in
theorem FnPacked_walk (w : World) (v : Value) (bs : List Int) (h : RdB w w.heap.size 1 enc8 v bs) (hby : Byt bs) :
    Calls Try.prog 8 #[v] w fun e w' => e = .returned (.bool true) ∧ Below w.heap.size w w' := by
  have HR := hide h; have HBY := hide hby; clear hby
  obtain ⟨A0, c0, rfl, hc0, hm0, -⟩ := h
  unfold maxLen at hm0
  go_enter Try.func8, Try.ntmps8
  by_cases hbig : (1048576 : Int) < (bs.length : Int)
  · go_wp2_with fail
    go_ret
    exact ⟨rfl, (by repeat (first | exact Below.refl _ _ | assumption | refine Below.setCell ?_ (by first | omega | (simp <;> omega)) _ | refine Below.alloc ?_ (by first | omega | (simp <;> omega)) _ | refine below_drewN ?_ _ | refine Below.drew ?_ | refine Below.trans ?_ (Below.mono (by assumption) (by first | omega | (simp <;> omega)))))⟩
  have hbig' : (bs.length : Int) ≤ 1048576 := by omega
  have HN := hide (show bs.length ≤ 1048576 by omega)
  clear hbig
  go_wp2_with fail
  refine (MakeChamber_any _ bs _ HR.out HBY.out HN.out).mono ?_
  rintro e w1 ⟨x0, x1, x2, vl, ns, rfl, a0, a1, a2, a3, a4, a5, hol, hl5, hns, hb1⟩
  obtain ⟨m, rfl⟩ : ∃ m : Nat, x1 = m := ⟨x1.toNat, by omega⟩
  have hm1 : 1 ≤ m := by omega
  have hm2 : m ≤ 2 := by omega
  have G1 : chOk x0 m x2 = true := by simp only [chOk, inB, Bool.and_eq_true, decide_eq_true_eq]; omega
  have G2 : lengthsOk ns = true := lengthsOk_mk (by omega) (fun n hn => by have := hns n hn; omega)
  have G3 : ∀ n ∈ ns, 0 ≤ n ∧ n ≤ x0 := fun n hn => by have := hns n hn; omega
  have HRL := hide (Own.rd encI_len hol)
  clear hol
  obtain ⟨A1, c1, rfl, hc1, hml, -⟩ := HRL.out
  unfold maxLen at hml
  obtain ⟨q1, q2⟩ := pk_most G1 G2 G3
  obtain ⟨q3, q4, q5, q6⟩ := pk_least G1 G2 G3 hm1
  have hall := pk_all G1 G2 G3
  have hpk := fun h => pk_packing G1 G2 G3 h
  have hprefE := pk_prefE G1 G2 G3
  have hpl : ((prefixLockings x0 m x2 ns).length : Int) ≤ ns.length := by rw [hprefE]; have := prefL_length (L := x0) (m := m) ns; omega
  have htime := pk_time G1 G2 G3 q3 q4 (by omega)
  obtain ⟨most, hmost⟩ : ∃ x, mostShips x0 m x2 ns = x := ⟨_, rfl⟩
  obtain ⟨least, hleast⟩ : ∃ x, leastLockings x0 m x2 ns = x := ⟨_, rfl⟩
  obtain ⟨ps, hps⟩ : ∃ x, prefixLockings x0 m x2 ns = x := ⟨_, rfl⟩
  obtain ⟨ok, hok⟩ : ∃ x, (packShips x0 m x2 ns).isSome = x := ⟨_, rfl⟩
  rw [hok] at hall hpk q6
  rw [hmost] at q1 q2 q5 hall
  rw [hleast] at q3 q4 q5 q6 htime
  rw [hps] at hpl hprefE q4 htime
  have HG1 := hide G1; have HG2 := hide G2; have HG3 := hide G3; have HPE := hide hprefE; have HPK := hide hpk
  have HMOST := hide hmost; have HLEAST := hide hleast; have HPS := hide hps; have HOK := hide hok
  clear G1 G2 G3 hns hprefE hmost hleast hps hok hpk
  have hl5' : (ns.length : Int) ≤ 5 := by omega
  have hq5 : (0 : Int) ≤ least * most := Int.mul_nonneg q3 q1
  have hq5b : least * most ≤ 25 := by
    have h1 := Int.mul_le_mul_of_nonneg_left q2 q3
    have h2 := Int.mul_le_mul_of_nonneg_right (show least ≤ 5 by omega) (show (0 : Int) ≤ ns.length by omega)
    omega
  have hwm : IntKind.i64.wrap (least * most) = least * most := IntWalk.i64_in _ (by omega)
  go_wp2_with fail
  generalize hW0 : w1.alloc (.cells #[.int .i64 x0, .int .i64 m, .int .i64 x2] 26) = W0
  have hb0 : Below w1.heap.size w1 W0 := by rw [← hW0]; exact (Below.refl _ _).alloc (Nat.le_refl _) _
  have hl0 : w1.heap.size < W0.heap.size := by rw [← hW0]; simp
  have z0 : W0.cell? ⟨w1.heap.size, 0, none⟩ = some (.int .i64 x0) := by rw [← hW0]; simp [go_sem]
  have z1 : W0.cell? ⟨w1.heap.size, 1, none⟩ = some (.int .i64 m) := by rw [← hW0]; simp [go_sem]
  have z2 : W0.cell? ⟨w1.heap.size, 2, none⟩ = some (.int .i64 x2) := by rw [← hW0]; simp [go_sem]
  clear hW0
  have RL0 := hide (HRL.out.keep hb0 (Nat.le_refl _))
  refine (impl_PackShips_any x0 m x2 _ ns _ (RL0.out.mono (by omega))).mono ?_
  rintro e w2 ⟨v2, rfl, ho2, hb2⟩
  rw [HOK.out]
  have HO2 := hide (Own.rd encI_len ho2); clear ho2
  obtain ⟨A2, c2, rfl, hc2, hm2', -⟩ := HO2.out
  have s2 := hb2.size
  have y0 := cellKeepL hb2 z0 hl0; have y1 := cellKeepL hb2 z1 hl0; have y2 := cellKeepL hb2 z2 hl0
  go_wp2_with fail
  have RL2 := hide (RL0.out.keep hb2 (by omega))
  refine (impl_MostShips_any x0 m x2 _ ns _ (RL2.out.mono (by omega))).mono ?_
  rintro e w3 ⟨rfl, hb3⟩
  rw [HMOST.out]
  have hB3 := bnext hb2 hb3 (Nat.le_refl _)
  have s3 := hb3.size
  clear y0 y1 y2
  have y0 := cellKeepL hB3 z0 hl0; have y1 := cellKeepL hB3 z1 hl0; have y2 := cellKeepL hB3 z2 hl0
  go_wp2_with fail
  refine (impl_ChamberOk_any _ _ _ _).mono ?_
  rintro e w4 ⟨rfl, hb4⟩
  rw [HG1.out]
  have hB4 := bnext hB3 hb4 (Nat.le_refl _)
  have s4 := hb4.size
  clear y0 y1 y2
  have y0 := cellKeepL hB4 z0 hl0; have y1 := cellKeepL hB4 z1 hl0; have y2 := cellKeepL hB4 z2 hl0
  have hRL4 := hide (RL0.out.keep hB4 (by omega))
  go_wp2_with fail
  refine (impl_LengthsOk_any _ ns _ (hRL4.out.mono (by omega))).mono ?_
  rintro e w5 ⟨rfl, hb5⟩
  rw [HG2.out]
  have hB5 := bnext hB4 hb5 (Nat.le_refl _)
  have s5 := hb5.size
  clear y0 y1 y2
  have y0 := cellKeepL hB5 z0 hl0; have y1 := cellKeepL hB5 z1 hl0; have y2 := cellKeepL hB5 z2 hl0
  have hB6 : ∃ (w6 : World), True := ⟨w5, trivial⟩
  clear hB6
  have REST : ∀ (w6 : World), Below W0.heap.size W0 w6 → Hid (RdI w6 (.slice A1 ns.length c1) ns) := fun w6 hB => hide ((RL0.out.keep hB (by omega)).mono (by have := hB.size; omega))
  have RES2 := hide REST; clear REST
  cases ok
  · have hmo : ¬ (most = (ns.length : Int)) := by have := hall; simpa using this.symm
    have hle : ¬ (least ≤ 1) := by have := q6; simpa using this
    clear hall q6
    go_wp2_with fail
    refine (impl_PrefixLockings_any x0 m x2 _ ns _ (RES2.out _ hB5).out).mono ?_
    rintro e w7 ⟨v7, rfl, ho7, hb7⟩
    rw [HPS.out] at ho7
    have HP7 := hide (Own.rd encI_len ho7); clear ho7
    obtain ⟨A7, c7, rfl, hc7, hm7, -⟩ := HP7.out
    unfold maxLen at hm7
    have hB7 := bnext hB5 hb7 (Nat.le_refl _)
    have s7 := hb7.size
    clear y0 y1 y2
    have y0 := cellKeepL hB7 z0 hl0; have y1 := cellKeepL hB7 z1 hl0; have y2 := cellKeepL hB7 z2 hl0
    go_wp2_with fail
    refine (impl_LeastLockings_any x0 m x2 _ ns _ (RES2.out _ hB7).out).mono ?_
    rintro e w8 ⟨rfl, hb8⟩
    rw [HLEAST.out]
    have hB8 := bnext hB7 hb8 (Nat.le_refl _)
    have HP8 := hide ((HP7.out.keep hb8 (Nat.le_refl _)).mono (B' := w8.heap.size) (by have := hb8.size; omega))
    clear y0 y1 y2
    have Y := hide (show w8.cell? ⟨w1.heap.size, 0, none⟩ = some (.int .i64 x0) ∧ w8.cell? ⟨w1.heap.size, 1, none⟩ = some (.int .i64 m) ∧ w8.cell? ⟨w1.heap.size, 2, none⟩ = some (.int .i64 x2) from ⟨cellKeepL hB8 z0 hl0, cellKeepL hB8 z1 hl0, cellKeepL hB8 z2 hl0⟩)
    have s8 : w1.heap.size < w8.heap.size := by have := hB8.size; omega
    have HBW := hide (show Below w.heap.size w w8 from (hb1.trans (hb0.mono hb1.size)).trans (hB8.mono (by have := hb1.size; have := hb0.size; omega)))
    have HR8 := RES2.out _ hB8
    have HTIME := hide htime
    clear z0 z1 z2 hb2 hb3 hb4 hb5 hb7 hb8 hB3 hB4 hB5 hB7 s2 s3 s4 s5 s7 htime
    obtain ⟨P, hP⟩ : ∃ P, w1.heap.size = P := ⟨_, rfl⟩
    rw [hP] at Y s8 ⊢
    have hws : w.heap.size ≤ w8.heap.size := HBW.out.size
    go_wp2_with fail
    go_loopw [10, 76] (fun s i wr => ∃ k sum : Nat, s = .int .i64 sum ∧ i = .int .i64 k ∧ k ≤ ps.length ∧ sum ≤ ns.length ∧ Hid (ps.drop k = prefL x0 m (ns.drop sum)) ∧ Below w8.heap.size w8 wr) (fun _ i _ => ps.length - (intOf i).toNat)
    case atStart => exact ⟨0, 0, rfl, rfl, Nat.zero_le _, Nat.zero_le _, hide (by rw [HPE.out]; rfl), Below.refl _ _⟩
    case round =>
      obtain ⟨k, sum, rfl, rfl, hk, hsum, HD, hbk⟩ := hrel
      obtain ⟨wo, rfl⟩ : ∃ wo : World, wo = wr := ⟨_, rfl⟩
      have hbs := hbk.size
      have z0 := cellKeepL hbk Y.out.1 s8; have z1 := cellKeepL hbk Y.out.2.1 s8; have z2 := cellKeepL hbk Y.out.2.2 s8
      have hso : P < wo.heap.size := by omega
      by_cases hlt : k < ps.length
      · obtain ⟨g, hg, hg1, hg2, hfit, hnext⟩ := pref_step hm1 HG3.out hsum HD.out hlt
        have HF := hide hfit; have HX := hide hnext; clear hfit hnext
        obtain ⟨A7', c7', e7, _, _, h7⟩ := HP8.out
        obtain ⟨b7, o7, e7', hb7, hcell7⟩ := h7 (by omega)
        obtain ⟨rfl, -, rfl⟩ : A7 = A7' ∧ ps.length = ps.length ∧ c7 = c7' := by injection e7 with e1 e2 e3; exact ⟨e1, rfl, e3⟩
        subst e7'
        have e0 : w8.cell? ⟨b7, o7 + k, none⟩ = some (.int .i64 g) := by have := hcell7 k ps[k] (List.getElem?_eq_getElem hlt) 0 _ rfl; rw [← hg]; simpa using this
        replace e0 := cellKeepL hbk e0 hb7
        have hq7 : b7 < wo.heap.size := by omega
        clear hcell7 hg h7 e7
        obtain ⟨A1', c1', e1, _, _, h1⟩ := HR8.out
        obtain ⟨b1, o1, e1', hbb1, -⟩ := h1 (by omega)
        obtain ⟨rfl, -, rfl⟩ : A1 = A1' ∧ ns.length = ns.length ∧ c1 = c1' := by injection e1 with e1 e2 e3; exact ⟨e1, rfl, e3⟩
        subst e1'
        clear h1 e1
        have HSUB := hide (show RdB w8 w8.heap.size 1 encI (.slice (some ⟨b1, o1 + sum, none⟩) g (c1 - sum)) ((ns.drop sum).take g) by have := RdB.part HR8.out sum g (by omega) (by omega); simpa using this)
        have HLO := hide (show lengthsOk ((ns.drop sum).take g) = true from lengthsOk_sub HG2.out (by simp; omega) (fun x hx => List.mem_of_mem_drop (List.mem_of_mem_take hx)))
        have HPS2 := hide (show (packShips x0 m x2 ((ns.drop sum).take g)).isSome = true by rw [packShips_some HG1.out HLO.out]; exact HF.out)
        have HRS := hide ((RdB.keep HSUB.out hbk (Nat.le_refl _)).mono (B' := wo.heap.size) (by omega))
        have hlt' : (k : Int) < ps.length := by omega
        have hk1 : (1 : Int) ≤ (g : Int) := by omega
        have hq1 : (sum : Int) + g ≤ c1 := by omega
        have hq2 : (sum : Int) ≤ c1 := by omega
        have hq3 : (sum : Int) + g ≤ ns.length := by omega
        have hq4 : (0 : Int) ≤ sum := by omega
        have hcat : ¬ c1 = sum := by omega
        have htn : ((sum : Int) + g).toNat - sum = g := by omega
        have hq5 : (0 : Int) ≤ (sum : Int) + g := by omega
        have hq6 : (sum : Int) ≤ (sum : Int) + g := by omega
        have hw1 : IntKind.i64.wrap ((sum : Int) + g) = (sum : Int) + g := IntWalk.i64_in _ (by omega)
        have hw2 : IntKind.i64.wrap ((k : Int) + 1) = (k : Int) + 1 := IntWalk.i64_in _ (by omega)
        have keepS : ∀ w', Below wo.heap.size wo w' → w'.cell? ⟨P, 0, none⟩ = some (.int .i64 x0) ∧ w'.cell? ⟨P, 1, none⟩ = some (.int .i64 m) ∧ w'.cell? ⟨P, 2, none⟩ = some (.int .i64 x2) ∧ Below wo.heap.size wo w' := fun w' hB => ⟨cellKeepL hB z0 hso, cellKeepL hB z1 hso, cellKeepL hB z2 hso, hB⟩
        go_wp2
        go_region_held3 (fun w' => w'.cell? ⟨P, 0, none⟩ = some (.int .i64 x0) ∧ w'.cell? ⟨P, 1, none⟩ = some (.int .i64 m) ∧ w'.cell? ⟨P, 2, none⟩ = some (.int .i64 x2) ∧ Below wo.heap.size wo w')
          (first
            | exact keepS _ (Below.drew (Below.refl _ _))
            | exact keepS _ hB11
            | (obtain ⟨_, _, _, qB⟩ := (by with_reducible assumption : _ ∧ _); exact keepS _ (qB.alloc qB.size _)))
          (first | (go_at_call 18; obtain ⟨_, _, _, qB⟩ := (by with_reducible assumption : _ ∧ _); (with_reducible refine (impl_PackShips_any x0 m x2 _ _ _ ((RdB.keep HRS.out qB (Nat.le_refl _)).mono qB.size)).mono ?_); rintro e w11 ⟨v11, rfl, ho11, hb11⟩; clear ho11; have hB11 := bnext qB hb11 (Nat.le_refl _)))
        all_goals
          have hbk5 := bnext hbk hB11 (Nat.le_refl _)
          rw [HPS2.out]
          go_wp2
          go_roundw
          case rel => exact ⟨k + 1, sum + g, by first | rfl | go_num, by first | rfl | go_num, by omega, by omega, HX, hbk5⟩
          case measure => simp [intOf] <;> omega
      · have hend := pref_end hsum HD.out (by omega)
        obtain rfl : sum = ns.length := hend
        obtain ⟨lt1, hlt1⟩ : ∃ x, lockTime x0 m x2 (ps.length : Int) = x := ⟨_, rfl⟩
        obtain ⟨lt2, hlt2⟩ : ∃ x, lockTime x0 m x2 least = x := ⟨_, rfl⟩
        have hT := HTIME.out
        rw [hlt1, hlt2] at hT
        have HL1 := hide hlt1; have HL2 := hide hlt2; clear hlt1 hlt2
        have hps : k = ps.length := by omega
        have hks : ¬ ((k : Int) < ps.length) := by omega
        clear hps
        have hbww : Below w.heap.size w wo := HBW.out.trans (hbk.mono hws)
        go_wp2
        try (have hle : ¬ (least ≤ 1) := by omega)
        refine wp_region_below (Below.refl wo.heap.size wo) (by kernel_rfl) (by kernel_rfl) ?_
        repeat (first
          | go_big_quiet_skip
          | (go_big_quiet_want
             first
              | (refine quiet_value ?_; apply Exists.intro
                 refine ⟨fun wq hq => ?_, ?_⟩
                 · (obtain ⟨hc, hf⟩ := bcell hq; go_simp; first | done | rfl)
                 go_big_quiet_on
                 simp only [Act.put, List.setIfInBounds_toArray, List.set_cons_zero, List.set_cons_succ])
              | (refine quiet_call ?_; apply Exists.intro; apply Exists.intro; apply Exists.intro
                 refine ⟨fun wq hq => ?_, fun wq hq => ?_, ?_⟩
                 · (obtain ⟨hc, hf⟩ := bcell hq; go_simp; exact ⟨rfl, rfl⟩)
                 · (first | with_reducible exact (calls_intK (impl_LockingTime_any x0 m x2 (ps.length : Int) _) HL1.out).mono fun e w'' ⟨he, hw⟩ => ⟨he, hw ▸ hq⟩ | with_reducible exact (calls_intK (impl_LockingTime_any x0 m x2 (ps.length : Int) _) HL1.out).mono fun e w'' ⟨he, hb'⟩ => ⟨he, bnext hq hb'⟩ | with_reducible exact (calls_intK (impl_LockingTime_any x0 m x2 least _) HL2.out).mono fun e w'' ⟨he, hw⟩ => ⟨he, hw ▸ hq⟩ | with_reducible exact (calls_intK (impl_LockingTime_any x0 m x2 least _) HL2.out).mono fun e w'' ⟨he, hb'⟩ => ⟨he, bnext hq hb'⟩ |  exact (calls_intK (impl_LockingTime_any x0 m x2 (ps.length : Int) _) HL1.out).mono fun e w'' ⟨he, hb'⟩ => ⟨he, bnext hq hb'⟩ |  exact (calls_intK (impl_LockingTime_any x0 m x2 (ps.length : Int) _) HL1.out).mono fun e w'' ⟨he, hw⟩ => ⟨he, hw ▸ hq⟩ |  exact (calls_intK (impl_LockingTime_any x0 m x2 least _) HL2.out).mono fun e w'' ⟨he, hb'⟩ => ⟨he, bnext hq hb'⟩ |  exact (calls_intK (impl_LockingTime_any x0 m x2 least _) HL2.out).mono fun e w'' ⟨he, hw⟩ => ⟨he, hw ▸ hq⟩)
                 go_big_quiet_on
                 simp only [Act.put, List.setIfInBounds_toArray, List.set_cons_zero, List.set_cons_succ])
              | (go_big_quiet_op; go_big_quiet_on)
             ))
        refine wpQuiet_nil (fun w5 hb5 => ?_)
        go_wp2
        go_ret
        exact ⟨rfl, (by repeat (first | exact Below.refl _ _ | assumption | refine Below.setCell ?_ (by first | omega | (simp <;> omega)) _ | refine Below.alloc ?_ (by first | omega | (simp <;> omega)) _ | refine below_drewN ?_ _ | refine Below.drew ?_ | refine Below.trans ?_ (Below.mono (by assumption) (by first | omega | (simp <;> omega)))))⟩
  · obtain rfl : most = (ns.length : Int) := by have := hall; simpa using this.symm
    have hle : least ≤ 1 := by have := q6; simpa using this
    clear hall q6
    go_wp2_with fail
    have RA5 := hide (((HO2.out.keep (B' := w2.heap.size) (bnext (Below.refl _ _) hb3 (Nat.le_refl _)) (Nat.le_refl _)).keep (hb4.mono (by omega)) (by omega)).keep (hb5.mono (by omega)) (by omega))
    refine (impl_IsPacking_any x0 m x2 _ _ ns _ _ (RES2.out _ hB5).out (RA5.out.mono (by omega))).mono ?_
    rintro e w9 ⟨rfl, hb9⟩
    rw [HPK.out (by first | rfl | trivial)]
    have hB9 := bnext hB5 hb9 (Nat.le_refl _)
    have s9 := hb9.size
    clear y0 y1 y2 hB5 s5
    have hB5 := hB9
    obtain ⟨w5, rfl⟩ : ∃ wo : World, wo = w9 := ⟨_, rfl⟩
    have s5 : W0.heap.size ≤ w5.heap.size := hB5.size
    have y0 := cellKeepL hB5 z0 hl0; have y1 := cellKeepL hB5 z1 hl0; have y2 := cellKeepL hB5 z2 hl0
    go_wp2_with fail
    refine (impl_PrefixLockings_any x0 m x2 _ ns _ (RES2.out _ hB5).out).mono ?_
    rintro e w7 ⟨v7, rfl, ho7, hb7⟩
    rw [HPS.out] at ho7
    have HP7 := hide (Own.rd encI_len ho7); clear ho7
    obtain ⟨A7, c7, rfl, hc7, hm7, -⟩ := HP7.out
    unfold maxLen at hm7
    have hB7 := bnext hB5 hb7 (Nat.le_refl _)
    have s7 := hb7.size
    clear y0 y1 y2
    have y0 := cellKeepL hB7 z0 hl0; have y1 := cellKeepL hB7 z1 hl0; have y2 := cellKeepL hB7 z2 hl0
    go_wp2_with fail
    refine (impl_LeastLockings_any x0 m x2 _ ns _ (RES2.out _ hB7).out).mono ?_
    rintro e w8 ⟨rfl, hb8⟩
    rw [HLEAST.out]
    have hB8 := bnext hB7 hb8 (Nat.le_refl _)
    have HP8 := hide ((HP7.out.keep hb8 (Nat.le_refl _)).mono (B' := w8.heap.size) (by have := hb8.size; omega))
    clear y0 y1 y2
    have Y := hide (show w8.cell? ⟨w1.heap.size, 0, none⟩ = some (.int .i64 x0) ∧ w8.cell? ⟨w1.heap.size, 1, none⟩ = some (.int .i64 m) ∧ w8.cell? ⟨w1.heap.size, 2, none⟩ = some (.int .i64 x2) from ⟨cellKeepL hB8 z0 hl0, cellKeepL hB8 z1 hl0, cellKeepL hB8 z2 hl0⟩)
    have s8 : w1.heap.size < w8.heap.size := by have := hB8.size; omega
    have HBW := hide (show Below w.heap.size w w8 from (hb1.trans (hb0.mono hb1.size)).trans (hB8.mono (by have := hb1.size; have := hb0.size; omega)))
    have HR8 := RES2.out _ hB8
    have HTIME := hide htime
    clear z0 z1 z2 hb2 hb3 hb4 hb5 hb7 hb8 hB3 hB4 hB5 hB7 s2 s3 s4 s5 s7 htime
    obtain ⟨P, hP⟩ : ∃ P, w1.heap.size = P := ⟨_, rfl⟩
    rw [hP] at Y s8 ⊢
    have hws : w.heap.size ≤ w8.heap.size := HBW.out.size
    go_wp2_with fail
    go_loopw [10, 76] (fun s i wr => ∃ k sum : Nat, s = .int .i64 sum ∧ i = .int .i64 k ∧ k ≤ ps.length ∧ sum ≤ ns.length ∧ Hid (ps.drop k = prefL x0 m (ns.drop sum)) ∧ Below w8.heap.size w8 wr) (fun _ i _ => ps.length - (intOf i).toNat)
    case atStart => exact ⟨0, 0, rfl, rfl, Nat.zero_le _, Nat.zero_le _, hide (by rw [HPE.out]; rfl), Below.refl _ _⟩
    case round =>
      obtain ⟨k, sum, rfl, rfl, hk, hsum, HD, hbk⟩ := hrel
      obtain ⟨wo, rfl⟩ : ∃ wo : World, wo = wr := ⟨_, rfl⟩
      have hbs := hbk.size
      have z0 := cellKeepL hbk Y.out.1 s8; have z1 := cellKeepL hbk Y.out.2.1 s8; have z2 := cellKeepL hbk Y.out.2.2 s8
      have hso : P < wo.heap.size := by omega
      by_cases hlt : k < ps.length
      · obtain ⟨g, hg, hg1, hg2, hfit, hnext⟩ := pref_step hm1 HG3.out hsum HD.out hlt
        have HF := hide hfit; have HX := hide hnext; clear hfit hnext
        obtain ⟨A7', c7', e7, _, _, h7⟩ := HP8.out
        obtain ⟨b7, o7, e7', hb7, hcell7⟩ := h7 (by omega)
        obtain ⟨rfl, -, rfl⟩ : A7 = A7' ∧ ps.length = ps.length ∧ c7 = c7' := by injection e7 with e1 e2 e3; exact ⟨e1, rfl, e3⟩
        subst e7'
        have e0 : w8.cell? ⟨b7, o7 + k, none⟩ = some (.int .i64 g) := by have := hcell7 k ps[k] (List.getElem?_eq_getElem hlt) 0 _ rfl; rw [← hg]; simpa using this
        replace e0 := cellKeepL hbk e0 hb7
        have hq7 : b7 < wo.heap.size := by omega
        clear hcell7 hg h7 e7
        obtain ⟨A1', c1', e1, _, _, h1⟩ := HR8.out
        obtain ⟨b1, o1, e1', hbb1, -⟩ := h1 (by omega)
        obtain ⟨rfl, -, rfl⟩ : A1 = A1' ∧ ns.length = ns.length ∧ c1 = c1' := by injection e1 with e1 e2 e3; exact ⟨e1, rfl, e3⟩
        subst e1'
        clear h1 e1
        have HSUB := hide (show RdB w8 w8.heap.size 1 encI (.slice (some ⟨b1, o1 + sum, none⟩) g (c1 - sum)) ((ns.drop sum).take g) by have := RdB.part HR8.out sum g (by omega) (by omega); simpa using this)
        have HLO := hide (show lengthsOk ((ns.drop sum).take g) = true from lengthsOk_sub HG2.out (by simp; omega) (fun x hx => List.mem_of_mem_drop (List.mem_of_mem_take hx)))
        have HPS2 := hide (show (packShips x0 m x2 ((ns.drop sum).take g)).isSome = true by rw [packShips_some HG1.out HLO.out]; exact HF.out)
        have HRS := hide ((RdB.keep HSUB.out hbk (Nat.le_refl _)).mono (B' := wo.heap.size) (by omega))
        have hlt' : (k : Int) < ps.length := by omega
        have hk1 : (1 : Int) ≤ (g : Int) := by omega
        have hq1 : (sum : Int) + g ≤ c1 := by omega
        have hq2 : (sum : Int) ≤ c1 := by omega
        have hq3 : (sum : Int) + g ≤ ns.length := by omega
        have hq4 : (0 : Int) ≤ sum := by omega
        have hcat : ¬ c1 = sum := by omega
        have htn : ((sum : Int) + g).toNat - sum = g := by omega
        have hq5 : (0 : Int) ≤ (sum : Int) + g := by omega
        have hq6 : (sum : Int) ≤ (sum : Int) + g := by omega
        have hw1 : IntKind.i64.wrap ((sum : Int) + g) = (sum : Int) + g := IntWalk.i64_in _ (by omega)
        have hw2 : IntKind.i64.wrap ((k : Int) + 1) = (k : Int) + 1 := IntWalk.i64_in _ (by omega)
        have keepS : ∀ w', Below wo.heap.size wo w' → w'.cell? ⟨P, 0, none⟩ = some (.int .i64 x0) ∧ w'.cell? ⟨P, 1, none⟩ = some (.int .i64 m) ∧ w'.cell? ⟨P, 2, none⟩ = some (.int .i64 x2) ∧ Below wo.heap.size wo w' := fun w' hB => ⟨cellKeepL hB z0 hso, cellKeepL hB z1 hso, cellKeepL hB z2 hso, hB⟩
        go_wp2
        go_region_held3 (fun w' => w'.cell? ⟨P, 0, none⟩ = some (.int .i64 x0) ∧ w'.cell? ⟨P, 1, none⟩ = some (.int .i64 m) ∧ w'.cell? ⟨P, 2, none⟩ = some (.int .i64 x2) ∧ Below wo.heap.size wo w')
          (first
            | exact keepS _ (Below.drew (Below.refl _ _))
            | exact keepS _ hB11
            | (obtain ⟨_, _, _, qB⟩ := (by with_reducible assumption : _ ∧ _); exact keepS _ (qB.alloc qB.size _)))
          (first | (go_at_call 18; obtain ⟨_, _, _, qB⟩ := (by with_reducible assumption : _ ∧ _); (with_reducible refine (impl_PackShips_any x0 m x2 _ _ _ ((RdB.keep HRS.out qB (Nat.le_refl _)).mono qB.size)).mono ?_); rintro e w11 ⟨v11, rfl, ho11, hb11⟩; clear ho11; have hB11 := bnext qB hb11 (Nat.le_refl _)))
        all_goals
          have hbk5 := bnext hbk hB11 (Nat.le_refl _)
          rw [HPS2.out]
          go_wp2
          go_roundw
          case rel => exact ⟨k + 1, sum + g, by first | rfl | go_num, by first | rfl | go_num, by omega, by omega, HX, hbk5⟩
          case measure => simp [intOf] <;> omega
      · have hend := pref_end hsum HD.out (by omega)
        obtain rfl : sum = ns.length := hend
        obtain ⟨lt1, hlt1⟩ : ∃ x, lockTime x0 m x2 (ps.length : Int) = x := ⟨_, rfl⟩
        obtain ⟨lt2, hlt2⟩ : ∃ x, lockTime x0 m x2 least = x := ⟨_, rfl⟩
        have hT := HTIME.out
        rw [hlt1, hlt2] at hT
        have HL1 := hide hlt1; have HL2 := hide hlt2; clear hlt1 hlt2
        have hps : k = ps.length := by omega
        have hks : ¬ ((k : Int) < ps.length) := by omega
        clear hps
        have hbww : Below w.heap.size w wo := HBW.out.trans (hbk.mono hws)
        go_wp2
        try (have hle : ¬ (least ≤ 1) := by omega)
        refine wp_region_below (Below.refl wo.heap.size wo) (by kernel_rfl) (by kernel_rfl) ?_
        repeat (first
          | go_big_quiet_skip
          | (go_big_quiet_want
             first
              | (refine quiet_value ?_; apply Exists.intro
                 refine ⟨fun wq hq => ?_, ?_⟩
                 · (obtain ⟨hc, hf⟩ := bcell hq; go_simp; first | done | rfl)
                 go_big_quiet_on
                 simp only [Act.put, List.setIfInBounds_toArray, List.set_cons_zero, List.set_cons_succ])
              | (refine quiet_call ?_; apply Exists.intro; apply Exists.intro; apply Exists.intro
                 refine ⟨fun wq hq => ?_, fun wq hq => ?_, ?_⟩
                 · (obtain ⟨hc, hf⟩ := bcell hq; go_simp; exact ⟨rfl, rfl⟩)
                 · (first | with_reducible exact (calls_intK (impl_LockingTime_any x0 m x2 (ps.length : Int) _) HL1.out).mono fun e w'' ⟨he, hw⟩ => ⟨he, hw ▸ hq⟩ | with_reducible exact (calls_intK (impl_LockingTime_any x0 m x2 (ps.length : Int) _) HL1.out).mono fun e w'' ⟨he, hb'⟩ => ⟨he, bnext hq hb'⟩ | with_reducible exact (calls_intK (impl_LockingTime_any x0 m x2 least _) HL2.out).mono fun e w'' ⟨he, hw⟩ => ⟨he, hw ▸ hq⟩ | with_reducible exact (calls_intK (impl_LockingTime_any x0 m x2 least _) HL2.out).mono fun e w'' ⟨he, hb'⟩ => ⟨he, bnext hq hb'⟩ |  exact (calls_intK (impl_LockingTime_any x0 m x2 (ps.length : Int) _) HL1.out).mono fun e w'' ⟨he, hb'⟩ => ⟨he, bnext hq hb'⟩ |  exact (calls_intK (impl_LockingTime_any x0 m x2 (ps.length : Int) _) HL1.out).mono fun e w'' ⟨he, hw⟩ => ⟨he, hw ▸ hq⟩ |  exact (calls_intK (impl_LockingTime_any x0 m x2 least _) HL2.out).mono fun e w'' ⟨he, hb'⟩ => ⟨he, bnext hq hb'⟩ |  exact (calls_intK (impl_LockingTime_any x0 m x2 least _) HL2.out).mono fun e w'' ⟨he, hw⟩ => ⟨he, hw ▸ hq⟩)
                 go_big_quiet_on
                 simp only [Act.put, List.setIfInBounds_toArray, List.set_cons_zero, List.set_cons_succ])
              | (go_big_quiet_op; go_big_quiet_on)
             ))
        refine wpQuiet_nil (fun w5 hb5 => ?_)
        go_wp2
        go_ret
        exact ⟨rfl, (by repeat (first | exact Below.refl _ _ | assumption | refine Below.setCell ?_ (by first | omega | (simp <;> omega)) _ | refine Below.alloc ?_ (by first | omega | (simp <;> omega)) _ | refine below_drewN ?_ _ | refine Below.drew ?_ | refine Below.trans ?_ (Below.mono (by assumption) (by first | omega | (simp <;> omega)))))⟩
namespace fnPacked
set_option maxRecDepth 100000 in
theorem lifted (os : Os) (started : os.Started) (H : Type) (enc : TypeId × Value → H) :
    ReturnsInHanded {} Try.checked os 8 .any (Rows.fnPackedSpec.pre6 enc Try.prog Try.f8 Rows.fnPackedRow.domain false) (Rows.fnPackedSpec.post enc Try.prog Try.f8 false true false false) := by
  refine returnsInHanded_of_change (C := Try.checked) own started (by kernel_rfl) Try.func8
    (ChangeSpec.witness6 (enc := enc) (C := Try.checked) false ⟨#[], #[.slice none 0 0], []⟩ 8 (by kernel_rfl) (by kernel_rfl) (by kernel_rfl) (by kernel_rfl)) ?_
  intro W base args ds gs before hval0 hW hcnd _
  have hval : ∀ (j : Nat) t v, Try.f8.params[j]? = some t → args[j]? = some v → Value.okWide Try.prog W .any base t v := hval0
  have hW' := hW
  obtain ⟨p, q, hA0, hV, hbef, hfz, hnd⟩ := hW
  have hA : DataW.TrodAll enc Try.prog W 0 (fun _ => true) true Try.f8.params.toList args.toList ds p := hA0
  rw [Try.params8] at hA hval
  obtain ⟨v0, vs0, d0, ds0, p0, q0, hargs, rfl, hp0, h0, r0⟩ := trodAll_cons hA
  obtain ⟨rfl, rfl, hpn⟩ := trodAll_nil r0
  obtain rfl : args = #[v0] := by cases args; simp_all
  obtain ⟨rfl, rfl⟩ := trodVars_none hV
  obtain ⟨a0, g0, w0⟩ := open_rows8 Try.underlying37 Try.underlying5 (by kernel_rfl) (hval 0 37 v0 rfl rfl) h0
  refine (FnPacked_walk W _ a0 g0 w0).mono fun e W' ⟨he, hg⟩ => ?_
  subst he
  exact ⟨_, rfl, post_law laidOut (by kernel_rfl) rfl Try.underlying4 rfl ⟨rfl, rfl, rfl⟩ hW' hg⟩
theorem proved : Rows.FnPackedSaid :=
  OpenClaim.holds_of_wide 8 Try.f8 rfl rfl rfl rfl rfl rfl rfl ⟨rfl, rfl, rfl, rfl, rfl⟩ rfl rfl rfl rfl rfl (by kernel_rfl) Try.func8 (by kernel_rfl)
    (of_decide_eq_true (by kernel_rfl)) (by unfold Func.isWrapper; first | (rw [if_pos (by decide +kernel)]; kernel_rfl) | (rw [if_neg (by decide +kernel)]; exact ⟨rfl, rfl⟩))
    (fun os started H enc _ => lifted os started H enc)
end fnPacked
end Go.Proofs.Ytjmffhpfmfmnlaa
