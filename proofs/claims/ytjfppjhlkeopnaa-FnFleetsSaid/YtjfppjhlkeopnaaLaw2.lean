/- What the laws' walks need besides. No condition. -/
import Derived.Test.YtjfppjhlkeopnaaFix
import Derived.Deep.RegionHeld3
import Derived.Outline
namespace Go.Proofs.Ytjfppjhlkeopnaa
open Go.RowKit
theorem cellKeepL {B b o : Nat} {w1 w2 : World} {v : Value} (hb : Below B w1 w2) (h : w1.cell? ⟨b, o, none⟩ = some v) (hlt : b < B) : w2.cell? ⟨b, o, none⟩ = some v := by rw [hb.cell (p := ⟨b, o, none⟩) hlt]; exact h
end Go.Proofs.Ytjfppjhlkeopnaa
