/- The plain functions of the layer seal: sectors that tell what they are; no program in sight. -/
import Derived.Test.YtcojbjakopkfbaaGreatNumPure
import Derived.Test.YtcojbjakopkfbaaGreatMixPure
namespace Go.Proofs.YtcojbjakopkfbaaGreat
def sealHead (k n : Int) (salt : Nat) (d : List UInt8) : List UInt8 := d ++ fixedL k.toNat 4 ++ fixedL n.toNat 4 ++ fixedL salt 8
def sealL (k n : Int) (salt : Nat) (d : List UInt8) : List UInt8 := sealHead k n salt d ++ fixedL (mixSum 1 (sealHead k n salt d)) 8
def short32 (n : Int) : Bool := decide (0 ≤ n ∧ n < 4294967296)
def sealOk (k n : Int) (d : List UInt8) : Bool := short32 k && short32 n && d.length == 232
theorem sealOk_iff {k n : Int} {d : List UInt8} : sealOk k n d = true ↔ (0 ≤ k ∧ k < 4294967296) ∧ (0 ≤ n ∧ n < 4294967296) ∧ d.length = 232 := by
 simp [sealOk, short32, and_assoc]
theorem sealHead_length {k n : Int} {salt : Nat} {d : List UInt8} (h : d.length = 232) : (sealHead k n salt d).length = 248 := by
 simp [sealHead, fixedL_length, h]
theorem sealL_length {k n : Int} {salt : Nat} {d : List UInt8} (h : d.length = 232) : (sealL k n salt d).length = 256 := by
 simp [sealL, fixedL_length, sealHead_length h]
def sumAt (l : List UInt8) : Nat := if l.length = 256 then numOf (l.drop 248) else 0
def isSeal (l : List UInt8) : Bool := l.length == 256 && decide (numOf (l.drop 248) = mixSum 1 (l.take 248))
theorem isSeal_iff {l : List UInt8} : isSeal l = true ↔ l.length = 256 ∧ numOf (l.drop 248) = mixSum 1 (l.take 248) := by simp [isSeal]
def kindAt (l : List UInt8) : Nat := numOf ((l.drop 232).take 4)
def numberAt (l : List UInt8) : Nat := numOf ((l.drop 236).take 4)
def saltAt (l : List UInt8) : Nat := numOf ((l.drop 240).take 8)
theorem numOf4 {l : List UInt8} (h : l.length ≤ 4) : numOf l < 4294967296 :=
 Nat.lt_of_lt_of_le (numOf_lt l) (Nat.le_trans (Nat.pow_le_pow_right (by decide) h) (by decide))
theorem kindAt_lt (l : List UInt8) : kindAt l < 4294967296 := numOf4 (List.length_take_le _ _)
theorem numberAt_lt (l : List UInt8) : numberAt l < 4294967296 := numOf4 (List.length_take_le _ _)
theorem sumAt_lt (l : List UInt8) : sumAt l < 18446744073709551616 := by
 unfold sumAt
 split
 · rename_i h; exact numOf_lt64 (by rw [List.length_drop]; omega)
 · decide
theorem fixed4 {n : Nat} (h : n < 4294967296) : numOf (fixedL n 4) = n := by rw [numOf_fixedL]; exact Nat.mod_eq_of_lt h
theorem seal_open {k n : Int} {salt : Nat} {d : List UInt8} (h : sealOk k n d = true) (hs : salt < 18446744073709551616) :
 isSeal (sealL k n salt d) = true ∧ (sealL k n salt d).take 232 = d ∧ (kindAt (sealL k n salt d) : Int) = k ∧ (numberAt (sealL k n salt d) : Int) = n ∧ saltAt (sealL k n salt d) = salt := by
 obtain ⟨⟨k0, k1⟩, ⟨n0, n1⟩, hd⟩ := sealOk_iff.1 h
 have hh := sealHead_length (k := k) (n := n) (salt := salt) hd
 have e : sealL k n salt d = d ++ (fixedL k.toNat 4 ++ (fixedL n.toNat 4 ++ (fixedL salt 8 ++ fixedL (mixSum 1 (sealHead k n salt d)) 8))) := by
  simp only [sealL, sealHead, List.append_assoc]
 have l4 : ∀ m, (fixedL m 4).length = 4 := fun m => fixedL_length m 4
 have l8 : ∀ m, (fixedL m 8).length = 8 := fun m => fixedL_length m 8
 have hm : mixSum 1 (sealHead k n salt d) < 18446744073709551616 := mixSum_lt (by decide) _
 refine ⟨isSeal_iff.2 ⟨sealL_length hd, ?_⟩, ?_, ?_, ?_, ?_⟩
 · rw [sealL, List.drop_left' hh, List.take_left' hh, fixedL_eight hm]
 · rw [e, List.take_left' hd]
 · unfold kindAt
   rw [e, List.drop_left' hd, List.take_left' (l4 _), fixed4 (by omega)]; omega
 · unfold numberAt
   rw [e, ← List.append_assoc d, List.drop_left' (by simp [hd, l4]), List.take_left' (l4 _), fixed4 (by omega)]; omega
 · unfold saltAt
   rw [e, ← List.append_assoc d, ← List.append_assoc (d ++ _), List.drop_left' (by simp [hd, l4]), List.take_left' (l8 _), fixedL_eight hs]
end Go.Proofs.YtcojbjakopkfbaaGreat
