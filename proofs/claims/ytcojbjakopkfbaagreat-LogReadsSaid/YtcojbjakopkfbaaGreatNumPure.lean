/- The plain functions of the layer num: numbers as bytes; no program in sight. -/
import Derived.Test.YtcojbjakopkfbaaGreatBase
namespace Go.Proofs.YtcojbjakopkfbaaGreat
def wd (w : Int) : Nat := if w < 1 then 1 else if w > 8 then 8 else w.toNat
theorem wd_pos (w : Int) : 1 ≤ wd w := by unfold wd; split <;> (try split) <;> omega
theorem wd_le (w : Int) : wd w ≤ 8 := by unfold wd; split <;> (try split) <;> omega
def fixedL (n : Nat) : Nat → List UInt8
 | 0 => []
 | k + 1 => UInt8.ofNat (n / 256 ^ k) :: fixedL n k
theorem fixedL_length (n k : Nat) : (fixedL n k).length = k := by
 induction k with
 | zero => rfl
 | succ k ih => simp [fixedL, ih]
def numOf (l : List UInt8) : Nat := l.foldl (fun n b => n * 256 + b.toNat) 0
theorem numOf_snoc (l : List UInt8) (b : UInt8) : numOf (l ++ [b]) = numOf l * 256 + b.toNat := by simp [numOf]
theorem numOf_fold (l : List UInt8) (a : Nat) : l.foldl (fun n b => n * 256 + b.toNat) a = a * 256 ^ l.length + numOf l := by
 induction l generalizing a with
 | nil => simp [numOf]
 | cons b r ih =>
  unfold numOf
  rw [List.foldl_cons, ih, List.foldl_cons, ih, List.length_cons, Nat.pow_succ, Nat.add_mul]
  have : a * 256 * 256 ^ r.length = a * (256 ^ r.length * 256) := by rw [Nat.mul_assoc, Nat.mul_comm 256]
  rw [this, Nat.zero_mul, Nat.zero_add]
  omega
theorem numOf_cons (b : UInt8) (r : List UInt8) : numOf (b :: r) = b.toNat * 256 ^ r.length + numOf r := by
 have h := numOf_fold r (b.toNat)
 unfold numOf at h ⊢
 rw [List.foldl_cons, ← h]
 simp
theorem byte_lt (b : UInt8) : b.toNat < 256 := b.toNat_lt
theorem numOf_lt (l : List UInt8) : numOf l < 256 ^ l.length := by
 induction l with
 | nil => decide
 | cons b r ih =>
  rw [numOf_cons, List.length_cons, Nat.pow_succ]
  have hb := byte_lt b
  have : b.toNat * 256 ^ r.length ≤ 255 * 256 ^ r.length := Nat.mul_le_mul_right _ (by omega)
  omega
theorem numOf_lt64 {l : List UInt8} (h : l.length ≤ 8) : numOf l < 18446744073709551616 :=
 Nat.lt_of_lt_of_le (numOf_lt l) (Nat.le_trans (Nat.pow_le_pow_right (by decide) h) (by decide))
theorem u8_ofNat_toNat (n : Nat) : (UInt8.ofNat n).toNat = n % 256 := by simp
theorem numOf_fixedL (n k : Nat) : numOf (fixedL n k) = n % 256 ^ k := by
 induction k with
 | zero => simp [fixedL, numOf, Nat.mod_one]
 | succ k ih =>
  rw [fixedL, numOf_cons, ih, fixedL_length, u8_ofNat_toNat, Nat.pow_succ, Nat.mod_mul, Nat.mul_comm (256 ^ k), Nat.add_comm]
theorem fixedL_eight {n : Nat} (h : n < 18446744073709551616) : numOf (fixedL n 8) = n := by
 rw [numOf_fixedL]; exact Nat.mod_eq_of_lt (by simpa using h)
def unfixed (l : List UInt8) : Nat × Nat := if 1 ≤ l.length ∧ l.length ≤ 8 then (numOf l, 0) else (0, 1)
theorem unfixed_pos {l : List UInt8} (h : 1 ≤ l.length) (h' : l.length ≤ 8) : unfixed l = (numOf l, 0) := by unfold unfixed; rw [if_pos ⟨h, h'⟩]
theorem unfixed_neg {l : List UInt8} (h : l.length < 1 ∨ 8 < l.length) : unfixed l = (0, 1) := by unfold unfixed; rw [if_neg (by omega)]
theorem numOf_take {l : List UInt8} {k : Nat} (h : k < l.length) : numOf (l.take (k + 1)) = numOf (l.take k) * 256 + l[k].toNat := by
 rw [List.take_succ_eq_append_getElem h, numOf_snoc]
theorem numOf_take_lt (l : List UInt8) (k : Nat) : numOf (l.take k) < 256 ^ k :=
 Nat.lt_of_lt_of_le (numOf_lt _) (Nat.pow_le_pow_right (by decide) (List.length_take_le _ _))
end Go.Proofs.YtcojbjakopkfbaaGreat
