/- Contracts in the form in which the generator of conditions takes them. -/
import Derived.Lib.Repeat
import Derived.Test.YtajmmolfnjdanaaGreatDoorTab
import Derived.Test.YtajmmolfnjdanaaGreatDoorNumWalk
import Derived.Test.YtajmmolfnjdanaaGreatDoorShelf
namespace Go.Proofs.YtajmmolfnjdanaaGreatDoor
open Go.RowKit
set_option linter.unusedSimpArgs false
set_option linter.unusedVariables false
theorem bytesOf_lit (l : List UInt8) : bytesOf ⟨l.toArray⟩ = l := rfl
theorem strEq_true {a b : ByteArray} : strEq a b = true ↔ bytesOf a = bytesOf b := by simp [strEq]
theorem strEq_false {a b : ByteArray} : strEq a b = false ↔ ¬ bytesOf a = bytesOf b := by simp [strEq]
theorem lit_size (a : Array UInt8) : (ByteArray.mk a).size = a.size := rfl
theorem c_fixed (k : Nat) (hk : 1 ≤ k ∧ k ≤ 8) (x : Int) (hx : 0 ≤ x) (w : World) :
    Calls Tryz.prog 59 #[.int .u64 x, .int .i64 k] w fun e w' => e = .returned (.string (strOf (fixedL x.toNat k))) ∧ Below w.heap.size w w' := by
  have h := fixed_any x.toNat k w (by omega) (by omega)
  rwa [show wd (k : Int) = k by unfold wd; split <;> (try split) <;> omega, show ((x.toNat : Nat) : Int) = x by omega] at h
theorem c_fixed1 (x : Int) (hx : 0 ≤ x) (w : World) :
    Calls Tryz.prog 59 #[.int .u64 x, .int .i64 1] w fun e w' => e = .returned (.string (strOf (fixedL x.toNat 1))) ∧ Below w.heap.size w w' := c_fixed 1 (by decide) x hx w
theorem c_fixed2 (x : Int) (hx : 0 ≤ x) (w : World) :
    Calls Tryz.prog 59 #[.int .u64 x, .int .i64 2] w fun e w' => e = .returned (.string (strOf (fixedL x.toNat 2))) ∧ Below w.heap.size w w' := c_fixed 2 (by decide) x hx w
theorem c_fixed4 (x : Int) (hx : 0 ≤ x) (w : World) :
    Calls Tryz.prog 59 #[.int .u64 x, .int .i64 4] w fun e w' => e = .returned (.string (strOf (fixedL x.toNat 4))) ∧ Below w.heap.size w w' := c_fixed 4 (by decide) x hx w
theorem c_fixed8 (x : Int) (hx : 0 ≤ x) (w : World) :
    Calls Tryz.prog 59 #[.int .u64 x, .int .i64 8] w fun e w' => e = .returned (.string (strOf (fixedL x.toNat 8))) ∧ Below w.heap.size w w' := c_fixed 8 (by decide) x hx w
theorem c_rfixed (k : Nat) (hk : 1 ≤ k ∧ k ≤ 8) (x : Int) (hx : 0 ≤ x) (w : World) :
    Calls Tryz.prog 61 #[.int .u64 x, .int .i64 k] w fun e w' => e = .returned (.string (strOf (fixedL x.toNat k))) ∧ Below w.heap.size w w' := by
  have h := rfixed_any x.toNat k w (by omega) (by omega)
  rwa [show wd (k : Int) = k by unfold wd; split <;> (try split) <;> omega, show ((x.toNat : Nat) : Int) = x by omega] at h
theorem c_rfixed1 (x : Int) (hx : 0 ≤ x) (w : World) :
    Calls Tryz.prog 61 #[.int .u64 x, .int .i64 1] w fun e w' => e = .returned (.string (strOf (fixedL x.toNat 1))) ∧ Below w.heap.size w w' := c_rfixed 1 (by decide) x hx w
theorem c_rfixed2 (x : Int) (hx : 0 ≤ x) (w : World) :
    Calls Tryz.prog 61 #[.int .u64 x, .int .i64 2] w fun e w' => e = .returned (.string (strOf (fixedL x.toNat 2))) ∧ Below w.heap.size w w' := c_rfixed 2 (by decide) x hx w
theorem c_rfixed4 (x : Int) (hx : 0 ≤ x) (w : World) :
    Calls Tryz.prog 61 #[.int .u64 x, .int .i64 4] w fun e w' => e = .returned (.string (strOf (fixedL x.toNat 4))) ∧ Below w.heap.size w w' := c_rfixed 4 (by decide) x hx w
theorem c_rfixed8 (x : Int) (hx : 0 ≤ x) (w : World) :
    Calls Tryz.prog 61 #[.int .u64 x, .int .i64 8] w fun e w' => e = .returned (.string (strOf (fixedL x.toNat 8))) ∧ Below w.heap.size w w' := c_rfixed 8 (by decide) x hx w
theorem repeatL_one (b : UInt8) : ∀ k : Nat, Lib.repeatL [b] k = List.replicate k b
  | 0 => rfl
  | k + 1 => by
    show [b] ++ Lib.repeatL [b] k = _
    rw [repeatL_one b k]; rfl
theorem bytes_from (s : ByteArray) (k : Nat) : bytesOf (s.extract k s.size) = (bytesOf s).drop k := by
  rw [bytesOf_extract, List.take_of_length_le (by rw [bytesOf_length]; exact Nat.le_refl _)]
theorem bytes_upto (s : ByteArray) (k : Nat) : bytesOf (s.extract 0 k) = (bytesOf s).take k := by rw [bytesOf_extract, List.drop_zero]
theorem numOf_four {s : ByteArray} (h : s.size ≤ 4) : numOf (bytesOf s) < 4294967296 :=
  Nat.lt_of_lt_of_le (numOf_lt _) (Nat.le_trans (Nat.pow_le_pow_right (by decide) (by rw [bytesOf_length]; exact h)) (by decide))
theorem w64n4 (s : ByteArray) (h : s.size ≤ 4) : ((numOf (bytesOf s) : Nat) : Int) = IntKind.i64.wrap ((numOf (bytesOf s) : Nat) : Int) := w64 (by omega) (by have := numOf_four h; omega)
/-- A text filled with noughts, or cut, to a page's length. -/
def padL (l : List UInt8) : List UInt8 := l.take 232 ++ List.replicate (232 - l.length) 0
theorem padL_length (l : List UInt8) : (padL l).length = 232 := by simp [padL]; omega
theorem noughts_cells (k : Nat) : (List.replicate k [Value.int .u8 0]).flatten = (List.replicate k (0 : UInt8)).map byteV' := by
  induction k with
  | zero => rfl
  | succ k ih => rw [List.replicate_succ, List.flatten_cons, ih]; rfl
theorem noughts_take (k ty sz c : Nat) : List.take k (List.drop 0 (Itm.row ty sz c (List.replicate k [Value.int .u8 0]).flatten).cells) = (List.replicate k (0 : UInt8)).map byteV' := by
  rw [List.drop_zero, ← noughts_cells]; exact List.take_of_length_le (by simp [Itm.cells])
end Go.Proofs.YtajmmolfnjdanaaGreatDoor
