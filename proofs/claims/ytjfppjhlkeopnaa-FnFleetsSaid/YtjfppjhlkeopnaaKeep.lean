/- What a cell holds behind a call that leaves its block alone. No condition. -/
import Derived.Test.YtjfppjhlkeopnaaMem
namespace Go.Proofs.Ytjfppjhlkeopnaa
open Go.RowKit
theorem cellKeep {B b o : Nat} {w1 w2 : World} {v : Value} (hb : Below B w1 w2) (h : w1.cell? ⟨b, o, none⟩ = some v) (hlt : b < B) : w2.cell? ⟨b, o, none⟩ = some v := by rw [hb.cell (p := ⟨b, o, none⟩) hlt]; exact h
theorem frozenKeep {B b o : Nat} {w1 w2 : World} {v : Bool} (hb : Below B w1 w2) (h : w1.frozen? ⟨b, o, none⟩ = v) (hlt : b < B) : w2.frozen? ⟨b, o, none⟩ = v := by rw [hb.frozen (p := ⟨b, o, none⟩) hlt]; exact h
end Go.Proofs.Ytjfppjhlkeopnaa
