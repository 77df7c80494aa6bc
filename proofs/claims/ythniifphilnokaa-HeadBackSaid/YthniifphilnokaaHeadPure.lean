/- The plain functions of the layer head: what the first page says; no program in sight. -/
import Derived.Test.YthniifphilnokaaNumPure
namespace Go.Proofs.Ythniifphilnokaa

def headFit (m p t s r : Int) : Bool := decide ((m = 1 ∨ m = 2) ∧ p ≤ 4096 ∧ (0 ≤ t ∧ t < p) ∧ (0 ≤ r ∧ r < p) ∧ (0 ≤ s ∧ s < p) ∧ (s = 0 ↔ t = 0))
def magicL : List UInt8 := [99, 97, 104, 105, 101, 114, 48, 49]
def headRaw (m p t s r c : Nat) : List UInt8 := magicL ++ (fixedL m 4 ++ (fixedL p 4 ++ (fixedL t 4 ++ (fixedL s 4 ++ (fixedL r 4 ++ fixedL c 8)))))
def headL (m p t s r c : Nat) : List UInt8 := headRaw m p t s r c ++ List.replicate 196 0
theorem headRaw_length (m p t s r c : Nat) : (headRaw m p t s r c).length = 36 := by simp [headRaw, magicL, fixedL_length]
theorem headL_length (m p t s r c : Nat) : (headL m p t s r c).length = 232 := by
  unfold headL; rw [List.length_append, headRaw_length, List.length_replicate]
/-- The number that stands in so many bytes from a place on. -/
def fld (l : List UInt8) (o k : Nat) : Nat := numOf ((l.drop o).take k)
theorem fld_at {a b c : List UInt8} {o k : Nat} (ha : a.length = o) (hb : b.length = k) : fld (a ++ (b ++ c)) o k = numOf b := by
  unfold fld; rw [List.drop_left' ha, List.take_left' hb]
theorem fld_lt4 (l : List UInt8) (o : Nat) : fld l o 4 < 4294967296 := by
  have h1 := numOf_lt ((l.drop o).take 4)
  have h2 : ((l.drop o).take 4).length ≤ 4 := List.length_take_le _ _
  exact Nat.lt_of_lt_of_le h1 (Nat.le_trans (Nat.pow_le_pow_right (by decide) h2) (by decide))
theorem fld_lt8 (l : List UInt8) (o : Nat) : fld l o 8 < 18446744073709551616 := numOf_lt64 (List.length_take_le _ _)
def isHead (l : List UInt8) : Bool := decide (l.length = 232) && (headFit (fld l 8 4) (fld l 12 4) (fld l 16 4) (fld l 20 4) (fld l 24 4) && decide (headL (fld l 8 4) (fld l 12 4) (fld l 16 4) (fld l 20 4) (fld l 24 4) (fld l 28 8) = l))
theorem fld_head {m p t s r c : Nat} (hm : m < 4294967296) (hp : p < 4294967296) (ht : t < 4294967296) (hs : s < 4294967296) (hr : r < 4294967296) (hc : c < 18446744073709551616) :
    fld (headL m p t s r c) 8 4 = m ∧ fld (headL m p t s r c) 12 4 = p ∧ fld (headL m p t s r c) 16 4 = t ∧ fld (headL m p t s r c) 20 4 = s ∧ fld (headL m p t s r c) 24 4 = r ∧ fld (headL m p t s r c) 28 8 = c := by
  have f4 : ∀ n, n < 4294967296 → numOf (fixedL n 4) = n := fun n h => by rw [numOf_fixedL]; exact Nat.mod_eq_of_lt h
  have e : headL m p t s r c = magicL ++ (fixedL m 4 ++ (fixedL p 4 ++ (fixedL t 4 ++ (fixedL s 4 ++ (fixedL r 4 ++ (fixedL c 8 ++ List.replicate 196 0)))))) := by simp only [headL, headRaw, List.append_assoc]
  have a : ∀ n, (fixedL n 4).length = 4 := fun n => fixedL_length n 4
  refine ⟨?_, ?_, ?_, ?_, ?_, ?_⟩
  · rw [e, fld_at (o := 8) rfl (a _), f4 _ hm]
  · rw [e, ← List.append_assoc magicL, fld_at (by simp [magicL, a]) (a _), f4 _ hp]
  · rw [e, ← List.append_assoc magicL, ← List.append_assoc (magicL ++ _), fld_at (by simp [magicL, a]) (a _), f4 _ ht]
  · rw [e, ← List.append_assoc magicL, ← List.append_assoc (magicL ++ _), ← List.append_assoc (magicL ++ _ ++ _), fld_at (by simp [magicL, a]) (a _), f4 _ hs]
  · rw [e, ← List.append_assoc magicL, ← List.append_assoc (magicL ++ _), ← List.append_assoc (magicL ++ _ ++ _), ← List.append_assoc (magicL ++ _ ++ _ ++ _), fld_at (by simp [magicL, a]) (a _), f4 _ hr]
  · rw [e, ← List.append_assoc magicL, ← List.append_assoc (magicL ++ _), ← List.append_assoc (magicL ++ _ ++ _), ← List.append_assoc (magicL ++ _ ++ _ ++ _), ← List.append_assoc (magicL ++ _ ++ _ ++ _ ++ _), fld_at (by simp [magicL, a]) (fixedL_length _ _), fixedL_eight hc]
theorem headFit_iff {m p t s r : Int} : headFit m p t s r = true ↔ ((m = 1 ∨ m = 2) ∧ p ≤ 4096 ∧ (0 ≤ t ∧ t < p) ∧ (0 ≤ r ∧ r < p) ∧ (0 ≤ s ∧ s < p) ∧ (s = 0 ↔ t = 0)) := by simp [headFit]
/-- What is written is read as itself. -/
theorem head_back {m p t s r c : Int} (h : headFit m p t s r = true) (hc : 0 ≤ c ∧ c < 18446744073709551616) :
    isHead (headL m.toNat p.toNat t.toNat s.toNat r.toNat c.toNat) = true ∧ ((fld (headL m.toNat p.toNat t.toNat s.toNat r.toNat c.toNat) 8 4 : Nat) : Int) = m ∧ ((fld (headL m.toNat p.toNat t.toNat s.toNat r.toNat c.toNat) 12 4 : Nat) : Int) = p ∧
      ((fld (headL m.toNat p.toNat t.toNat s.toNat r.toNat c.toNat) 16 4 : Nat) : Int) = t ∧ ((fld (headL m.toNat p.toNat t.toNat s.toNat r.toNat c.toNat) 20 4 : Nat) : Int) = s ∧ ((fld (headL m.toNat p.toNat t.toNat s.toNat r.toNat c.toNat) 24 4 : Nat) : Int) = r ∧
      ((fld (headL m.toNat p.toNat t.toNat s.toNat r.toNat c.toNat) 28 8 : Nat) : Int) = c := by
  obtain ⟨h1, h2, h3, h4, h5, h6⟩ := headFit_iff.1 h
  obtain ⟨e1, e2, e3, e4, e5, e6⟩ := fld_head (m := m.toNat) (p := p.toNat) (t := t.toNat) (s := s.toNat) (r := r.toNat) (c := c.toNat) (by omega) (by omega) (by omega) (by omega) (by omega) (by omega)
  have i1 : ((m.toNat : Nat) : Int) = m := by omega
  have i2 : ((p.toNat : Nat) : Int) = p := by omega
  have i3 : ((t.toNat : Nat) : Int) = t := by omega
  have i4 : ((s.toNat : Nat) : Int) = s := by omega
  have i5 : ((r.toNat : Nat) : Int) = r := by omega
  have i6 : ((c.toNat : Nat) : Int) = c := by omega
  refine ⟨?_, by rw [e1, i1], by rw [e2, i2], by rw [e3, i3], by rw [e4, i4], by rw [e5, i5], by rw [e6, i6]⟩
  unfold isHead
  rw [e1, e2, e3, e4, e5, e6, headL_length, i1, i2, i3, i4, i5, h]
  simp
end Go.Proofs.Ythniifphilnokaa
