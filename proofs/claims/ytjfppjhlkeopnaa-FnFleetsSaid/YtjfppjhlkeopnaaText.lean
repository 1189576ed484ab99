/- The laws' helper that makes a text out of a number. No condition. -/
import Derived.Test.YtjfppjhlkeopnaaFix
namespace Go.Proofs.Ytjfppjhlkeopnaa
open Go.RowKit

/-- the decimal digits of n ahead of 'out' -/
def digs : Nat → Nat → List UInt8 → List UInt8
  | 0, _, out => out
  | f + 1, n, out => if n = 0 then out else digs f (n / 10) ((48 + UInt8.ofNat (n % 10)) :: out)
theorem digs_step (f n : Nat) (out : List UInt8) (h : n < f + 1) (hn : n ≠ 0) : digs (f + 1) n out = digs (f + 1) (n / 10) ((48 + UInt8.ofNat (n % 10)) :: out) := by
  have key : ∀ (f g m : Nat) (o : List UInt8), m < f → m < g → digs f m o = digs g m o := by
    intro f
    induction f with
    | zero => intro g m o h; omega
    | succ f ih =>
      intro g m o h1 h2
      cases g with
      | zero => omega
      | succ g =>
        rw [digs, digs]
        by_cases h0 : m = 0
        · simp [h0]
        · rw [if_neg h0, if_neg h0]; exact ih g _ _ (by omega) (by omega)
  conv => lhs; rw [digs, if_neg hn]
  exact key f (f + 1) _ _ (by omega) (by omega)
theorem run_bytes_one (P : Program) (src dst e : TypeId) (hs : P.underlying src = some (.slice e)) (he : P.underlying e = some (.int .u8)) (hd : P.underlying dst = some .string) (w : World) (v : Int) :
    (convert src dst (.slice (some ⟨w.heap.size, 0, none⟩) 1 1)).run P (w.alloc (.cells #[.int .u8 v] e)) = .ok (.string ⟨[UInt8.ofNat v.toNat].toArray⟩) (w.alloc (.cells #[.int .u8 v] e)) := by
  rw [run_convert_bytes_string _ _ _ e _ _ _ hs he hd, run_bytesToString _ _ _ _ [v]]
  · rfl
  · exact run_loadCells_list (w := w.alloc (.cells #[.int .u8 v] e)) ⟨w.heap.size, 0, none⟩ [Value.int .u8 v] (fun j u hj => by
      match j with
      | 0 => simp at hj; subst hj; simp [Addr.add]
      | j + 1 => simp at hj)
def markT (k : Int) : ByteArray := ⟨(109 :: digs (k.toNat + 1) k.toNat []).toArray⟩

set_option maxRecDepth 100000 in
set_option maxHeartbeats 1000000 in
theorem markText_any (k : Int) (w : World) (h0 : 1 ≤ k) (h1 : k ≤ 2199023255552) :
    Calls Try.prog 81 #[.int .i64 k] w fun e w' => e = .returned (.string (markT k)) ∧ Below w.heap.size w w' := by
  obtain ⟨n, rfl⟩ := Int.eq_ofNat_of_zero_le (show (0 : Int) ≤ k by omega)
  have kc := fun (w' : World) (v : Int) => run_bytes_one Try.prog 50 9 5 Try.underlying50 Try.underlying5 Try.underlying9 w' v
  go_enter Try.func81, Try.ntmps81
  go_wp2
  go_loopw [0, 3] (fun kv sv wr => ∃ (m : Nat) (o : List UInt8), m ≤ n ∧ kv = .int .i64 m ∧ sv = .string ⟨o.toArray⟩ ∧ Hid (digs (n + 1) n [] = digs (n + 1) m o) ∧ o.length + m ≤ 2199023255552 ∧ Below w.heap.size w wr) (fun kv _ _ => (intOf kv).toNat)
  case atStart => exact ⟨n, [], by omega, rfl, rfl, hide rfl, by simp; omega, Below.refl _ _⟩
  case round =>
    obtain ⟨m, o, hm, rfl, rfl, HD, hl, hb⟩ := hrel
    have hbs := hb.size
    have hsz : (ByteArray.mk o.toArray).size = o.length := rfl
    by_cases hlt : 0 < m
    · have hlen : o.length ≤ 2199023255552 := by omega
      go_wp2
      go_roundw
      case rel =>
        refine ⟨m / 10, (48 + UInt8.ofNat (m % 10)) :: o, by omega, by go_num, ?_, hide ?_, by simp; omega, (by repeat (first | exact Below.refl _ _ | assumption | refine Below.setCell ?_ (by first | omega | (simp <;> omega)) _ | refine Below.alloc ?_ (by first | omega | (simp <;> omega)) _ | refine below_drewN ?_ _ | refine Below.drew ?_ | refine Below.trans ?_ (Below.mono (by assumption) (by first | omega | (simp <;> omega)))))⟩
        · have e : (ByteArray.mk #[48 + UInt8.ofNat (m % 10)] ++ ByteArray.mk o.toArray) = ByteArray.mk ((48 + UInt8.ofNat (m % 10)) :: o).toArray := ByteArray.mk_append_mk [48 + UInt8.ofNat (m % 10)] o
          rw [e]
        · rw [HD.out]; exact digs_step n m o (by omega) (by omega)
      case measure => simp [intOf]; omega
    · obtain rfl : m = 0 := by omega
      have hlen : o.length ≤ 2199023255552 := by omega
      go_wp2
      go_ret
      refine ⟨?_, hb⟩
      have e : markT (n : Int) = ByteArray.mk [109].toArray ++ ByteArray.mk o.toArray := by
        rw [ByteArray.mk_append_mk, markT, Int.toNat_natCast, HD.out]
        rfl
      rw [e]
      rfl
end Go.Proofs.Ytjfppjhlkeopnaa
