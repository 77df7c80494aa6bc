/- The plain functions of the layer num: numbers as bytes; no program in sight. -/
import Derived.Test.YtelolcagncgfpaaGreatBase
namespace Go.Proofs.YtelolcagncgfpaaGreat
def wd (w : Int) : Nat := if w < 1 then 1 else if w > 8 then 8 else w.toNat
theorem wd_pos (w : Int) : 1 ≤ wd w := by unfold wd; split <;> (try split) <;> omega
theorem wd_le (w : Int) : wd w ≤ 8 := by unfold wd; split <;> (try split) <;> omega
def fixedL (n : Nat) : Nat → List UInt8
 | 0 => []
 | k + 1 => UInt8.ofNat (n / 256 ^ k) :: fixedL n k
theorem fixedL_length (n k : Nat) : (fixedL n k).length = k := by
 induction k with
 | zero => rfl
 | succ k ih => simp [fixedL, ih]
def numOf (l : List UInt8) : Nat := l.foldl (fun n b => n * 256 + b.toNat) 0
theorem numOf_snoc (l : List UInt8) (b : UInt8) : numOf (l ++ [b]) = numOf l * 256 + b.toNat := by simp [numOf]
theorem numOf_fold (l : List UInt8) (a : Nat) : l.foldl (fun n b => n * 256 + b.toNat) a = a * 256 ^ l.length + numOf l := by
 induction l generalizing a with
 | nil => simp [numOf]
 | cons b r ih =>
  unfold numOf
  rw [List.foldl_cons, ih, List.foldl_cons, ih, List.length_cons, Nat.pow_succ, Nat.add_mul]
  have : a * 256 * 256 ^ r.length = a * (256 ^ r.length * 256) := by rw [Nat.mul_assoc, Nat.mul_comm 256]
  rw [this, Nat.zero_mul, Nat.zero_add]
  omega
theorem numOf_cons (b : UInt8) (r : List UInt8) : numOf (b :: r) = b.toNat * 256 ^ r.length + numOf r := by
 have h := numOf_fold r (b.toNat)
 unfold numOf at h ⊢
 rw [List.foldl_cons, ← h]
 simp
theorem byte_lt (b : UInt8) : b.toNat < 256 := b.toNat_lt
theorem numOf_lt (l : List UInt8) : numOf l < 256 ^ l.length := by
 induction l with
 | nil => decide
 | cons b r ih =>
  rw [numOf_cons, List.length_cons, Nat.pow_succ]
  have hb := byte_lt b
  have : b.toNat * 256 ^ r.length ≤ 255 * 256 ^ r.length := Nat.mul_le_mul_right _ (by omega)
  omega
theorem numOf_lt64 {l : List UInt8} (h : l.length ≤ 8) : numOf l < 18446744073709551616 :=
 Nat.lt_of_lt_of_le (numOf_lt l) (Nat.le_trans (Nat.pow_le_pow_right (by decide) h) (by decide))
theorem u8_ofNat_toNat (n : Nat) : (UInt8.ofNat n).toNat = n % 256 := by simp
theorem numOf_fixedL (n k : Nat) : numOf (fixedL n k) = n % 256 ^ k := by
 induction k with
 | zero => simp [fixedL, numOf, Nat.mod_one]
 | succ k ih =>
  rw [fixedL, numOf_cons, ih, fixedL_length, u8_ofNat_toNat, Nat.pow_succ, Nat.mod_mul, Nat.mul_comm (256 ^ k), Nat.add_comm]
theorem fixedL_numOf (l : List UInt8) : ∀ (n k : Nat), l.length = k → fixedL (n * 256 ^ k + numOf l) k = l := by
 induction l with
 | nil => intro n k h; simp at h; subst h; rfl
 | cons b r ih =>
  intro n k h
  obtain _ | k := k
  · simp at h
  · have hr : r.length = k := by simpa using h
    have hlt := numOf_lt r
    rw [hr] at hlt
    have hp : 0 < 256 ^ k := Nat.pow_pos (by decide)
    have e : n * 256 ^ (k + 1) + numOf (b :: r) = (n * 256 + b.toNat) * 256 ^ k + numOf r := by
     rw [numOf_cons, hr, Nat.pow_succ, Nat.add_mul, Nat.mul_assoc n 256, Nat.mul_comm 256 (256 ^ k)]; omega
    rw [e, fixedL, ih _ k hr]
    congr 1
    have : ((n * 256 + b.toNat) * 256 ^ k + numOf r) / 256 ^ k = n * 256 + b.toNat := by
     rw [Nat.mul_comm, Nat.mul_add_div hp, Nat.div_eq_of_lt hlt]; omega
    rw [this]
    apply UInt8.toNat_inj.1
    rw [u8_ofNat_toNat]
    have := byte_lt b
    omega
theorem fixedL_of_numOf {l : List UInt8} {k : Nat} (h : l.length = k) : fixedL (numOf l) k = l := by
 have := fixedL_numOf l 0 k h
 simpa using this
theorem fixedL_eight {n : Nat} (h : n < 18446744073709551616) : numOf (fixedL n 8) = n := by
 rw [numOf_fixedL]; exact Nat.mod_eq_of_lt (by simpa using h)
def unfixed (l : List UInt8) : Nat × Nat := if 1 ≤ l.length ∧ l.length ≤ 8 then (numOf l, 0) else (0, 1)
theorem unfixed_pos {l : List UInt8} (h : 1 ≤ l.length) (h' : l.length ≤ 8) : unfixed l = (numOf l, 0) := by unfold unfixed; rw [if_pos ⟨h, h'⟩]
theorem unfixed_neg {l : List UInt8} (h : l.length < 1 ∨ 8 < l.length) : unfixed l = (0, 1) := by unfold unfixed; rw [if_neg (by omega)]
theorem unfixed_lt (l : List UInt8) : (unfixed l).1 < 18446744073709551616 := by
 unfold unfixed; split
 · rename_i h; exact numOf_lt64 h.2
 · decide
theorem numOf_take {l : List UInt8} {k : Nat} (h : k < l.length) : numOf (l.take (k + 1)) = numOf (l.take k) * 256 + l[k].toNat := by
 rw [List.take_succ_eq_append_getElem h, numOf_snoc]
theorem numOf_take_lt (l : List UInt8) (k : Nat) : numOf (l.take k) < 256 ^ k :=
 Nat.lt_of_lt_of_le (numOf_lt _) (Nat.pow_le_pow_right (by decide) (List.length_take_le _ _))
def varF : Nat → Nat → List UInt8
 | 0, _ => []
 | f + 1, n => if n < 128 then [UInt8.ofNat n] else UInt8.ofNat (n % 128 + 128) :: varF f (n / 128)
def varL (n : Nat) : List UInt8 := varF 10 n
def unv : List UInt8 → Nat → Nat → Nat × Nat × Nat
 | [], _, _ => (0, 0, 3)
 | b :: r, i, n =>
  if (i = 9 ∧ 1 < b.toNat) ∨ (0 < i ∧ b.toNat = 0) then (0, 0, 4)
  else if b.toNat < 128 then (n + b.toNat * 128 ^ i, i + 1, 0)
  else unv r (i + 1) (n + (b.toNat - 128) * 128 ^ i)
def unvar (l : List UInt8) : Nat × Nat × Nat := unv l 0 0
theorem varF_unv : ∀ (f n i a : Nat) (t : List UInt8), i + f = 10 → n * 128 ^ i < 18446744073709551616 → (0 < i → 0 < n) → 0 < f →
 unv (varF f n ++ t) i a = (a + n * 128 ^ i, i + (varF f n).length, 0) := by
 intro f
 induction f with
 | zero => intro n i a t _ _ _ h; omega
 | succ f ih =>
  intro n i a t hi hn h0 _
  by_cases hlt : n < 128
  · rw [varF, if_pos hlt]
    have e : (UInt8.ofNat n).toNat = n := by rw [u8_ofNat_toNat]; omega
    simp only [List.cons_append, List.nil_append, unv, e, List.length_cons, List.length_nil]
    rw [if_neg, if_pos hlt]
    rintro (⟨h9, h1⟩ | ⟨hi0, hz⟩)
    · subst h9
      simp only [Nat.reducePow] at hn
      omega
    · have := h0 hi0; omega
  · rw [varF, if_neg hlt]
    have e : (UInt8.ofNat (n % 128 + 128)).toNat = n % 128 + 128 := by rw [u8_ofNat_toNat]; omega
    have hp : 0 < 128 ^ i := Nat.pow_pos (by decide)
    have hf : 0 < f := by
     rcases Nat.eq_zero_or_pos f with h | h
     · subst h
       obtain rfl : i = 9 := by omega
       simp only [Nat.reducePow] at hn
       omega
     · exact h
    have hdm : n / 128 * (128 ^ i * 128) ≤ n * 128 ^ i := by
     rw [Nat.mul_comm (128 ^ i) 128, ← Nat.mul_assoc]
     exact Nat.mul_le_mul_right _ (Nat.div_mul_le_self n 128)
    have h9 : ¬ ((i = 9 ∧ 1 < n % 128 + 128) ∨ (0 < i ∧ n % 128 + 128 = 0)) := by omega
    simp only [List.cons_append, unv, e, List.length_cons]
    rw [if_neg h9, if_neg (by omega), ih (n / 128) (i + 1) _ t (by omega) (by rw [Nat.pow_succ]; omega) (by omega) hf]
    have e2 : a + (n % 128 + 128 - 128) * 128 ^ i + n / 128 * 128 ^ (i + 1) = a + n * 128 ^ i := by
     have : n * 128 ^ i = (n % 128) * 128 ^ i + n / 128 * (128 ^ i * 128) := by
      rw [Nat.mul_comm (128 ^ i) 128, ← Nat.mul_assoc, ← Nat.add_mul]
      congr 1; omega
     rw [Nat.pow_succ, show n % 128 + 128 - 128 = n % 128 by omega, this]; omega
    rw [e2, show i + 1 + (varF f (n / 128)).length = i + ((varF f (n / 128)).length + 1) by omega]
theorem unvar_varL {n : Nat} (h : n < 18446744073709551616) (t : List UInt8) : unvar (varL n ++ t) = (n, (varL n).length, 0) := by
 have := varF_unv 10 n 0 0 t rfl (by simpa using h) (by omega) (by decide)
 simpa [unvar, varL] using this
theorem varF_length (f n : Nat) : (varF f n).length ≤ f := by
 induction f generalizing n with
 | zero => simp [varF]
 | succ f ih => rw [varF]; split <;> simp; exact ih _
theorem varF_pos (f n : Nat) (h : 0 < f) : 1 ≤ (varF f n).length := by
 obtain _ | f := f
 · omega
 · rw [varF]; split <;> simp
theorem varF_mono : ∀ (f a b : Nat), a ≤ b → (varF f a).length ≤ (varF f b).length := by
 intro f
 induction f with
 | zero => intro a b _; simp [varF]
 | succ f ih =>
  intro a b h
  rw [varF, varF]
  by_cases h1 : b < 128
  · rw [if_pos h1, if_pos (by omega)]; simp
  · rw [if_neg h1]
    split
    · simp
    · have := ih (a / 128) (b / 128) (by omega)
      simp only [List.length_cons]; omega
theorem pow_room (i n r : Nat) (hi : i ≤ 8) (hr : r < 128) (hn : n * 128 ^ (i + 1) < 18446744073709551616) : (r + 128 * n) * 128 ^ i < 18446744073709551616 := by
 have hM : ∃ M, M * 128 ^ (i + 1) = 18446744073709551616 := by
  refine ⟨2 ^ (57 - 7 * i), ?_⟩
  rw [show (128 : Nat) = 2 ^ 7 from rfl, ← Nat.pow_mul, ← Nat.pow_add, show 57 - 7 * i + 7 * (i + 1) = 64 by omega]
 obtain ⟨M, hM⟩ := hM
 rw [← hM] at hn ⊢
 have h1 : n < M := Nat.lt_of_mul_lt_mul_right hn
 have h2 : (n + 1) * 128 ^ (i + 1) ≤ M * 128 ^ (i + 1) := Nat.mul_le_mul_right _ h1
 have hp : 0 < 128 ^ i := Nat.pow_pos (by decide)
 have h3 : (r + 128 * n) * 128 ^ i < (n + 1) * 128 ^ (i + 1) := by
  rw [Nat.pow_succ, Nat.mul_comm (128 ^ i) 128, ← Nat.mul_assoc]
  exact Nat.mul_lt_mul_of_pos_right (by omega) hp
 omega
theorem pow_last : ∀ i c : Nat, i ≤ 9 → c < 128 → (i = 9 → c ≤ 1) → c * 128 ^ i < 18446744073709551616 := by
 intro i c hi hc h9
 rcases (show i = 0 ∨ i = 1 ∨ i = 2 ∨ i = 3 ∨ i = 4 ∨ i = 5 ∨ i = 6 ∨ i = 7 ∨ i = 8 ∨ i = 9 by omega) with h | h | h | h | h | h | h | h | h | h <;> subst h <;> first | (simp only [Nat.reducePow]; omega) | (have := h9 rfl; simp only [Nat.reducePow]; omega)
theorem unv_varF : ∀ (l : List UInt8) (i a f b m : Nat), i + f = 10 → 0 < f → unv l i a = (b, m, 0) →
 ∃ n, i < m ∧ m ≤ i + l.length ∧ b = a + n * 128 ^ i ∧ n * 128 ^ i < 18446744073709551616 ∧ varF f n = l.take (m - i) ∧ (0 < i → 0 < n) := by
 intro l
 induction l with
 | nil => intro i a f b m _ _ h; simp [unv] at h
 | cons c r ih =>
  intro i a f b m hf hf0 h
  have hc := byte_lt c
  rw [unv] at h
  by_cases h1 : (i = 9 ∧ 1 < c.toNat) ∨ (0 < i ∧ c.toNat = 0)
  · rw [if_pos h1] at h; simp at h
  · rw [if_neg h1] at h
    obtain ⟨g, rfl⟩ : ∃ g, f = g + 1 := ⟨f - 1, by omega⟩
    by_cases h2 : c.toNat < 128
    · rw [if_pos h2] at h
      simp only [Prod.mk.injEq, and_true] at h
      obtain ⟨rfl, rfl⟩ := h
      refine ⟨c.toNat, by omega, by simp, rfl, pow_last i _ (by omega) h2 (by omega), ?_, by omega⟩
      rw [varF, if_pos h2, show i + 1 - i = 1 by omega]
      simp
    · rw [if_neg h2] at h
      obtain ⟨n, g1, g2, g3, g4, g5, g6⟩ := ih (i + 1) _ g b m (by omega) (by omega) h
      have hn := g6 (by omega)
      refine ⟨(c.toNat - 128) + 128 * n, by omega, by simp only [List.length_cons]; omega, ?_, pow_room i n _ (by omega) (by omega) g4, ?_, by omega⟩
      · rw [g3, Nat.pow_succ, Nat.add_mul, show n * (128 ^ i * 128) = 128 * n * 128 ^ i by rw [Nat.mul_comm (128 ^ i) 128, ← Nat.mul_assoc, Nat.mul_comm n 128]]
        omega
      · rw [varF, if_neg (by omega), show (c.toNat - 128 + 128 * n) / 128 = n by omega, show (c.toNat - 128 + 128 * n) % 128 + 128 = c.toNat by omega, g5,
         show m - i = (m - (i + 1)) + 1 by omega, List.take_succ_cons]
        congr 1
        simp
theorem unvar_ok {l : List UInt8} {b m : Nat} (h : unvar l = (b, m, 0)) : 1 ≤ m ∧ m ≤ l.length ∧ varL b = l.take m ∧ b < 18446744073709551616 := by
 obtain ⟨n, g1, g2, g3, g4, g5, _⟩ := unv_varF l 0 0 10 b m rfl (by decide) h
 simp only [Nat.pow_zero, Nat.mul_one, Nat.zero_add, Nat.sub_zero] at *
 subst g3
 exact ⟨g1, g2, g5, g4⟩
theorem unv_err : ∀ (l : List UInt8) (i a b m e : Nat), unv l i a = (b, m, e) → e ≠ 0 → b = 0 ∧ m = 0 ∧ (e = 3 ∨ e = 4) := by
 intro l
 induction l with
 | nil => intro i a b m e h _; simp [unv] at h; omega
 | cons c r ih =>
  intro i a b m e h he
  rw [unv] at h
  split at h
  · simp only [Prod.mk.injEq] at h; omega
  · split at h
    · simp only [Prod.mk.injEq] at h; omega
    · exact ih _ _ _ _ _ h he
theorem unvar_err {l : List UInt8} {b m e : Nat} (h : unvar l = (b, m, e)) (he : e ≠ 0) : b = 0 ∧ m = 0 ∧ (e = 3 ∨ e = 4) := unv_err _ _ _ _ _ _ h he
theorem varF_cut : ∀ (f n i a k : Nat), i + f = 10 → n * 128 ^ i < 18446744073709551616 → (0 < i → 0 < n) → k < (varF f n).length → unv ((varF f n).take k) i a = (0, 0, 3) := by
 intro f
 induction f with
 | zero => intro n i a k _ _ _ hk; simp [varF] at hk
 | succ f ih =>
  intro n i a k hi hn h0 hk
  obtain _ | k := k
  · simp [unv]
  · by_cases hlt : n < 128
    · rw [varF, if_pos hlt] at hk; simp at hk
    · rw [varF, if_neg hlt] at hk ⊢
      have e : (UInt8.ofNat (n % 128 + 128)).toNat = n % 128 + 128 := by rw [u8_ofNat_toNat]; omega
      have hdm : n / 128 * (128 ^ i * 128) ≤ n * 128 ^ i := by
       rw [Nat.mul_comm (128 ^ i) 128, ← Nat.mul_assoc]
       exact Nat.mul_le_mul_right _ (Nat.div_mul_le_self n 128)
      have h9 : ¬ i = 9 := by
       intro h9
       subst h9
       simp only [Nat.reducePow] at hn
       omega
      rw [List.take_succ_cons, unv, e, if_neg (by omega), if_neg (by omega)]
      exact ih _ _ _ _ (by omega) (by rw [Nat.pow_succ]; omega) (by omega) (by simpa using hk)
theorem varL_cut {n k : Nat} (h : n < 18446744073709551616) (hk : k < (varL n).length) : unvar ((varL n).take k) = (0, 0, 3) :=
 varF_cut 10 n 0 0 k rfl (by simpa using h) (by omega) hk
def foldI (n : Int) : Nat := if 0 ≤ n then (2 * n).toNat else (-2 * n - 1).toNat
def unfoldN (n : Nat) : Int := if n % 2 = 0 then (n / 2 : Nat) else -((n / 2 : Nat) : Int) - 1
theorem unfold_fold (n : Int) : unfoldN (foldI n) = n := by unfold unfoldN foldI; split <;> split <;> omega
theorem fold_unfold (n : Nat) : foldI (unfoldN n) = n := by unfold unfoldN foldI; split <;> split <;> omega
theorem foldI_lt {n : Int} (h : -9223372036854775808 ≤ n) (h' : n ≤ 9223372036854775807) : foldI n < 18446744073709551616 := by unfold foldI; split <;> omega
theorem unfoldN_bd {n : Nat} (h : n < 18446744073709551616) : -9223372036854775808 ≤ unfoldN n ∧ unfoldN n ≤ 9223372036854775807 := by unfold unfoldN; split <;> omega
theorem varL_length (n : Nat) : 1 ≤ (varL n).length ∧ (varL n).length ≤ 10 := ⟨varF_pos 10 n (by decide), varF_length 10 n⟩
theorem varL_mono {a b : Nat} (h : a ≤ b) : (varL a).length ≤ (varL b).length := varF_mono 10 a b h
theorem varL_one {n : Nat} : (varL n).length = 1 ↔ n < 128 := by
 unfold varL
 rw [varF]
 by_cases h : n < 128
 · rw [if_pos h]; simp [h]
 · rw [if_neg h]
   have := varF_pos 9 (n / 128) (by decide)
   simp only [List.length_cons]; omega
theorem fixedL_order (k a b : Nat) : Op.bytesLess (fixedL a k) (fixedL b k) = decide (a % 256 ^ k < b % 256 ^ k) := by
 induction k with
 | zero => simp [fixedL, Op.bytesLess, Nat.mod_one]
 | succ k ih =>
  have hp : 0 < 256 ^ k := Nat.pow_pos (by decide)
  have ha : a % 256 ^ (k + 1) = a / 256 ^ k % 256 * 256 ^ k + a % 256 ^ k := by rw [Nat.pow_succ, Nat.mod_mul, Nat.mul_comm (256 ^ k) (_ % _)]; omega
  have hb : b % 256 ^ (k + 1) = b / 256 ^ k % 256 * 256 ^ k + b % 256 ^ k := by rw [Nat.pow_succ, Nat.mod_mul, Nat.mul_comm (256 ^ k) (_ % _)]; omega
  have la := Nat.mod_lt a hp
  have lb := Nat.mod_lt b hp
  rw [fixedL, fixedL, Op.bytesLess, ih, ha, hb]
  have e1 : (UInt8.ofNat (a / 256 ^ k) < UInt8.ofNat (b / 256 ^ k)) ↔ a / 256 ^ k % 256 < b / 256 ^ k % 256 := by
   rw [UInt8.lt_iff_toNat_lt, u8_ofNat_toNat, u8_ofNat_toNat]
  have e2 : (UInt8.ofNat (a / 256 ^ k) == UInt8.ofNat (b / 256 ^ k)) = decide (a / 256 ^ k % 256 = b / 256 ^ k % 256) := by
   rw [Bool.eq_iff_iff, beq_iff_eq, decide_eq_true_iff, ← UInt8.toNat_inj, u8_ofNat_toNat, u8_ofNat_toNat]
  rw [e2]
  generalize a / 256 ^ k % 256 = x at *
  generalize b / 256 ^ k % 256 = y at *
  generalize a % 256 ^ k = u at *
  generalize b % 256 ^ k = v at *
  generalize 256 ^ k = z at *
  rw [Bool.eq_iff_iff]
  simp only [Bool.or_eq_true, Bool.and_eq_true, decide_eq_true_eq, e1]
  constructor
  · rintro (h | ⟨h, h'⟩)
    · have : (x + 1) * z ≤ y * z := Nat.mul_le_mul_right z h
      rw [Nat.add_mul] at this; omega
    · rw [h]; omega
  · intro h
    rcases Nat.lt_trichotomy x y with h1 | h1 | h1
    · exact .inl h1
    · rw [h1] at h; exact .inr ⟨h1, by omega⟩
    · have : (y + 1) * z ≤ x * z := Nat.mul_le_mul_right z h1
      rw [Nat.add_mul] at this; omega
end Go.Proofs.YtelolcagncgfpaaGreat
