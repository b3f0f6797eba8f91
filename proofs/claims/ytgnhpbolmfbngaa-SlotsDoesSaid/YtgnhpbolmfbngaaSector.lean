/- sacristanlaw04.Sector: the sector of a seed. -/
import Derived.Test.YtgnhpbolmfbngaaDiskPure
import Derived.Test.YtgnhpbolmfbngaaFixed
import Derived.Test.YtgnhpbolmfbngaaAddr
namespace Go.Proofs.Ytgnhpbolmfbngaa
open Go.RowKit Go.ChangeMaps

def sectorOf (b : Nat) : List UInt8 := (List.range 80).map fun j => UInt8.ofNat (b + 7 * j)
theorem sectorOf_length (b : Nat) : (sectorOf b).length = 80 := by simp [sectorOf]
theorem sectorOf_get (b j : Nat) (h : j < 80) : (sectorOf b).getD j 0 = UInt8.ofNat (b + 7 * j) := by
  unfold sectorOf
  rw [List.getD_eq_getElem?_getD, List.getElem?_map, List.getElem?_range h]
  rfl
end Go.Proofs.Ytgnhpbolmfbngaa
