/- Contracts in the form in which the generator of conditions takes them. -/
import Derived.Lib.Repeat
import Derived.Test.YtdgmjjidkaafaaaTab
import Derived.Test.YtdgmjjidkaafaaaNumWalk
import Derived.Test.YtdgmjjidkaafaaaShelf
namespace Go.Proofs.Ytdgmjjidkaafaaa
open Go.RowKit
set_option linter.unusedSimpArgs false
set_option linter.unusedVariables false
theorem bytesOf_lit (l : List UInt8) : bytesOf ⟨l.toArray⟩ = l := rfl
theorem strEq_true {a b : ByteArray} : strEq a b = true ↔ bytesOf a = bytesOf b := by simp [strEq]
theorem strEq_false {a b : ByteArray} : strEq a b = false ↔ ¬ bytesOf a = bytesOf b := by simp [strEq]
theorem lit_size (a : Array UInt8) : (ByteArray.mk a).size = a.size := rfl
theorem repeatL_one (b : UInt8) : ∀ k : Nat, Lib.repeatL [b] k = List.replicate k b
  | 0 => rfl
  | k + 1 => by
    show [b] ++ Lib.repeatL [b] k = _
    rw [repeatL_one b k]; rfl
theorem c_noughts (k : Int) (hk : 0 ≤ k ∧ k ≤ 281474976710656) (h2 : k ≤ 140737488355328) (w : World) :
    Calls Try.prog 42 #[.string ⟨#[0]⟩, .int .i64 k] w fun e w' => e = .returned (.string (strOf (List.replicate k.toNat 0))) ∧ Below w.heap.size w w' := by
  have h := Try.strings_Repeat ⟨#[0]⟩ k.toNat w (by omega) (by show 1 * k.toNat ≤ _; omega)
  rw [show ((k.toNat : Nat) : Int) = k by omega] at h
  refine h.mono ?_
  rintro e w' ⟨rfl, hb⟩
  refine ⟨?_, hb⟩
  rw [← repeatL_one]; rfl
theorem bytes_from (s : ByteArray) (k : Nat) : bytesOf (s.extract k s.size) = (bytesOf s).drop k := by
  rw [bytesOf_extract, List.take_of_length_le (by rw [bytesOf_length]; exact Nat.le_refl _)]
theorem bytes_upto (s : ByteArray) (k : Nat) : bytesOf (s.extract 0 k) = (bytesOf s).take k := by rw [bytesOf_extract, List.drop_zero]
theorem numOf_four {s : ByteArray} (h : s.size ≤ 4) : numOf (bytesOf s) < 4294967296 :=
  Nat.lt_of_lt_of_le (numOf_lt _) (Nat.le_trans (Nat.pow_le_pow_right (by decide) (by rw [bytesOf_length]; exact h)) (by decide))
theorem w64n4 (s : ByteArray) (h : s.size ≤ 4) : ((numOf (bytesOf s) : Nat) : Int) = IntKind.i64.wrap ((numOf (bytesOf s) : Nat) : Int) := w64 (by omega) (by have := numOf_four h; omega)
/-- A text filled with noughts, or cut, to a page's length. -/
def padL (l : List UInt8) : List UInt8 := l.take 232 ++ List.replicate (232 - l.length) 0
theorem padL_length (l : List UInt8) : (padL l).length = 232 := by simp [padL]; omega
theorem noughts_cells (k : Nat) : (List.replicate k [Value.int .u8 0]).flatten = (List.replicate k (0 : UInt8)).map byteV' := by
  induction k with
  | zero => rfl
  | succ k ih => rw [List.replicate_succ, List.flatten_cons, ih]; rfl
theorem noughts_take (k ty sz c : Nat) : List.take k (List.drop 0 (Itm.row ty sz c (List.replicate k [Value.int .u8 0]).flatten).cells) = (List.replicate k (0 : UInt8)).map byteV' := by
  rw [List.drop_zero, ← noughts_cells]; exact List.take_of_length_le (by simp [Itm.cells])
end Go.Proofs.Ytdgmjjidkaafaaa
