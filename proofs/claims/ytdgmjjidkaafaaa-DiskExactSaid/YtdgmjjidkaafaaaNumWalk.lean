/- The walks through the layer num. -/
import Derived.Test.YtdgmjjidkaafaaaRows
import Derived.Test.YtdgmjjidkaafaaaNumPure
import Derived.Test.YtdgmjjidkaafaaaBytes
namespace Go.Proofs.Ytdgmjjidkaafaaa
open Go.RowKit

/-! ### Fixed -/
/-- The cells of Fixed's slice when r of them are still to be written. -/
def fixCells (n m r : Nat) : Array Value := (List.replicate r (Value.int .u8 0) ++ (fixedL n (m - r)).map byteV).toArray
theorem fixCells_start (n m : Nat) : fixCells n m m = Array.replicate m (.int .u8 0) := by
  simp [fixCells, fixedL]
theorem fixCells_set (n m q : Nat) (h : q + 1 ≤ m) {x : Int} (hx : x = (((n / 256 ^ (m - (q + 1))) % 256 : Nat) : Int)) :
    (fixCells n m (q + 1)).setIfInBounds q (.int .u8 x) = fixCells n m q := by
  subst hx
  unfold fixCells
  rw [show m - q = (m - (q + 1)) + 1 by omega, fixedL, List.map_cons, List.replicate_succ', List.append_assoc]
  simp only [List.setIfInBounds_toArray]
  rw [List.set_append_right _ _ (by simp)]
  simp [byteV]
theorem fixCells_get (n m : Nat) (j : Nat) (hj : j < (fixedL n m).length) : (fixCells n m 0)[j]? = some (.int .u8 ((fixedL n m)[j].toNat : Nat)) := by
  simp [fixCells, byteV, List.getElem?_eq_getElem hj]
theorem fixCells_at (n m q : Nat) : (fixCells n m (q + 1))[q]? = some (.int .u8 0) := by
  unfold fixCells
  rw [List.replicate_succ', List.append_assoc]
  simp

theorem numOf_take_small (l : List UInt8) {k : Nat} (h : k ≤ 7) : numOf (l.take k) < 72057594037927936 :=
  Nat.lt_of_lt_of_le (numOf_take_lt l k) (Nat.le_trans (Nat.pow_le_pow_right (by decide) h) (by decide))
theorem unfixed_step (n : Nat) (c : UInt8) (h : n < 72057594037927936) : IntKind.u64.wrap (IntKind.u64.wrap ((n : Int) * 256) + IntKind.u64.wrap (c.toNat : Int)) = ((n * 256 + c.toNat : Nat) : Int) := by
  have := byte_lt c
  rw [IntKind.wrap_u64, IntKind.wrap_u64, IntKind.wrap_u64]; omega
theorem runfixed_step (n : Nat) (c : UInt8) (h : n < 72057594037927936) : bits BinOp.or IntKind.u64 (IntKind.u64.wrap ((n : Int) * 256)) (IntKind.u64.wrap (c.toNat : Int)) = ((n * 256 + c.toNat : Nat) : Int) := by
  have hc := byte_lt c
  have e1 : IntKind.u64.wrap ((n : Int) * 256) = ((n * 256 : Nat) : Int) := by rw [IntKind.wrap_u64]; omega
  have e2 : IntKind.u64.wrap (c.toNat : Int) = ((c.toNat : Nat) : Int) := by rw [IntKind.wrap_u64]; omega
  rw [e1, e2, u64_or_nat _ _ (by omega) (by omega), nat_join 8 _ _ (by omega) (by omega)]

end Go.Proofs.Ytdgmjjidkaafaaa
