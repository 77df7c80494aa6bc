/- The plain functions of the layer seal: sectors that tell what they are; no program in sight. -/
import Derived.Test.YtelolcagncgfpaaGreatNumPure
import Derived.Test.YtelolcagncgfpaaGreatMixPure
namespace Go.Proofs.YtelolcagncgfpaaGreat
def sealHead (k n : Int) (salt : Nat) (d : List UInt8) : List UInt8 := d ++ fixedL k.toNat 4 ++ fixedL n.toNat 4 ++ fixedL salt 8
def sealL (k n : Int) (salt : Nat) (d : List UInt8) : List UInt8 := sealHead k n salt d ++ fixedL (mixSum 1 (sealHead k n salt d)) 8
def short32 (n : Int) : Bool := decide (0 ≤ n ∧ n < 4294967296)
def sealOk (k n : Int) (d : List UInt8) : Bool := short32 k && short32 n && d.length == 232
theorem sealOk_iff {k n : Int} {d : List UInt8} : sealOk k n d = true ↔ (0 ≤ k ∧ k < 4294967296) ∧ (0 ≤ n ∧ n < 4294967296) ∧ d.length = 232 := by
 simp [sealOk, short32, and_assoc]
theorem sealHead_length {k n : Int} {salt : Nat} {d : List UInt8} (h : d.length = 232) : (sealHead k n salt d).length = 248 := by
 simp [sealHead, fixedL_length, h]
theorem sealL_length {k n : Int} {salt : Nat} {d : List UInt8} (h : d.length = 232) : (sealL k n salt d).length = 256 := by
 simp [sealL, fixedL_length, sealHead_length h]
def sumAt (l : List UInt8) : Nat := if l.length = 256 then numOf (l.drop 248) else 0
def isSeal (l : List UInt8) : Bool := l.length == 256 && decide (numOf (l.drop 248) = mixSum 1 (l.take 248))
theorem isSeal_iff {l : List UInt8} : isSeal l = true ↔ l.length = 256 ∧ numOf (l.drop 248) = mixSum 1 (l.take 248) := by simp [isSeal]
def kindAt (l : List UInt8) : Nat := numOf ((l.drop 232).take 4)
def numberAt (l : List UInt8) : Nat := numOf ((l.drop 236).take 4)
def saltAt (l : List UInt8) : Nat := numOf ((l.drop 240).take 8)
theorem numOf4 {l : List UInt8} (h : l.length ≤ 4) : numOf l < 4294967296 :=
 Nat.lt_of_lt_of_le (numOf_lt l) (Nat.le_trans (Nat.pow_le_pow_right (by decide) h) (by decide))
theorem kindAt_lt (l : List UInt8) : kindAt l < 4294967296 := numOf4 (List.length_take_le _ _)
theorem numberAt_lt (l : List UInt8) : numberAt l < 4294967296 := numOf4 (List.length_take_le _ _)
theorem saltAt_lt (l : List UInt8) : saltAt l < 18446744073709551616 := numOf_lt64 (List.length_take_le _ _)
theorem sumAt_lt (l : List UInt8) : sumAt l < 18446744073709551616 := by
 unfold sumAt
 split
 · rename_i h; exact numOf_lt64 (by rw [List.length_drop]; omega)
 · decide
theorem fixed4 {n : Nat} (h : n < 4294967296) : numOf (fixedL n 4) = n := by rw [numOf_fixedL]; exact Nat.mod_eq_of_lt h
theorem seal_open {k n : Int} {salt : Nat} {d : List UInt8} (h : sealOk k n d = true) (hs : salt < 18446744073709551616) :
 isSeal (sealL k n salt d) = true ∧ (sealL k n salt d).take 232 = d ∧ (kindAt (sealL k n salt d) : Int) = k ∧ (numberAt (sealL k n salt d) : Int) = n ∧ saltAt (sealL k n salt d) = salt := by
 obtain ⟨⟨k0, k1⟩, ⟨n0, n1⟩, hd⟩ := sealOk_iff.1 h
 have hh := sealHead_length (k := k) (n := n) (salt := salt) hd
 have e : sealL k n salt d = d ++ (fixedL k.toNat 4 ++ (fixedL n.toNat 4 ++ (fixedL salt 8 ++ fixedL (mixSum 1 (sealHead k n salt d)) 8))) := by
  simp only [sealL, sealHead, List.append_assoc]
 have l4 : ∀ m, (fixedL m 4).length = 4 := fun m => fixedL_length m 4
 have l8 : ∀ m, (fixedL m 8).length = 8 := fun m => fixedL_length m 8
 have hm : mixSum 1 (sealHead k n salt d) < 18446744073709551616 := mixSum_lt (by decide) _
 refine ⟨isSeal_iff.2 ⟨sealL_length hd, ?_⟩, ?_, ?_, ?_, ?_⟩
 · rw [sealL, List.drop_left' hh, List.take_left' hh, fixedL_eight hm]
 · rw [e, List.take_left' hd]
 · unfold kindAt
   rw [e, List.drop_left' hd, List.take_left' (l4 _), fixed4 (by omega)]; omega
 · unfold numberAt
   rw [e, ← List.append_assoc d, List.drop_left' (by simp [hd, l4]), List.take_left' (l4 _), fixed4 (by omega)]; omega
 · unfold saltAt
   rw [e, ← List.append_assoc d, ← List.append_assoc (d ++ _), List.drop_left' (by simp [hd, l4]), List.take_left' (l8 _), fixedL_eight hs]
theorem open_seal {l : List UInt8} (h : isSeal l = true) : sealOk (kindAt l : Nat) (numberAt l : Nat) (l.take 232) = true ∧ sealL (kindAt l : Nat) (numberAt l : Nat) (saltAt l) (l.take 232) = l := by
 obtain ⟨hl, hs⟩ := isSeal_iff.1 h
 have hk := kindAt_lt l
 have hn := numberAt_lt l
 have l1 : ((l.drop 232).take 4).length = 4 := by rw [List.length_take, List.length_drop]; omega
 have l2 : ((l.drop 236).take 4).length = 4 := by rw [List.length_take, List.length_drop]; omega
 have l3 : ((l.drop 240).take 8).length = 8 := by rw [List.length_take, List.length_drop]; omega
 have hh : sealHead (kindAt l : Nat) (numberAt l : Nat) (saltAt l) (l.take 232) = l.take 248 := by
  unfold sealHead kindAt numberAt saltAt
  rw [Int.toNat_natCast, Int.toNat_natCast, fixedL_of_numOf l1, fixedL_of_numOf l2, fixedL_of_numOf l3]
  rw [show l.take 248 = l.take (232 + 16) from rfl, List.take_add, show (l.drop 232).take 16 = (l.drop 232).take (4 + 12) from rfl, List.take_add, List.drop_drop,
   show (l.drop (232 + 4)).take 12 = (l.drop (232 + 4)).take (4 + 8) from rfl, List.take_add, List.drop_drop]
  simp only [List.append_assoc]
 refine ⟨sealOk_iff.2 ⟨⟨by omega, by omega⟩, ⟨by omega, by omega⟩, by rw [List.length_take]; omega⟩, ?_⟩
 unfold sealL
 rw [hh, ← hs, fixedL_of_numOf (by rw [List.length_drop]; omega), List.take_append_drop]
theorem four {g : List UInt8} (h : g.length = 4) : ∃ a b c d, g = [a, b, c, d] := by
 match g, h with
 | [a, b, c, d], _ => exact ⟨a, b, c, d, rfl⟩
theorem seal_tells' {l p g g' r t : List UInt8} (hp : p.length % 4 = 0) (hg : g.length = 4) (hg' : g'.length = 4) (e : l = p ++ g' ++ r)
 (hb : mixSum 1 (p ++ g' ++ t) = mixSum 1 (p ++ g ++ t)) : p ++ g ++ r = l := by
 obtain ⟨a, b, c, d, rfl⟩ := four hg
 obtain ⟨a', b', c', d', rfl⟩ := four hg'
 obtain ⟨rfl, rfl, rfl, rfl⟩ := ((mixSum_tells (n := 1) (m := 1) (by decide) (by decide) p t hp a' b' c' d' a b c d).1).1 hb
 exact e.symm
theorem seal_tells {l g : List UInt8} {j : Nat} (h : isSeal l = true) (hj : j < 64) (hg : g.length = 4) :
 isSeal (l.take (4 * j) ++ g ++ l.drop (4 * j + 4)) = true ↔ l.take (4 * j) ++ g ++ l.drop (4 * j + 4) = l := by
 obtain ⟨hl, hs⟩ := isSeal_iff.1 h
 have hlen : (l.take (4 * j) ++ g ++ l.drop (4 * j + 4)).length = 256 := by simp [hg, hl]; omega
 constructor
 · intro hb
   obtain ⟨_, hb⟩ := isSeal_iff.1 hb
   obtain ⟨g', hg', e⟩ : ∃ g' : List UInt8, g'.length = 4 ∧ l = l.take (4 * j) ++ g' ++ l.drop (4 * j + 4) :=
    ⟨(l.drop (4 * j)).take 4, by rw [List.length_take, List.length_drop]; omega, by
     rw [List.append_assoc, show l.drop (4 * j + 4) = (l.drop (4 * j)).drop 4 by rw [List.drop_drop], List.take_append_drop, List.take_append_drop]⟩
   have ht : (l.take (4 * j)).length = 4 * j := by rw [List.length_take]; omega
   by_cases hc : 4 * j < 248
   · -- the group stands ahead of the sum
     have hdrop : ∀ x : List UInt8, x.length = 4 → (l.take (4 * j) ++ x ++ l.drop (4 * j + 4)).drop 248 = l.drop 248 := by
      intro x hx
      rw [List.drop_append, List.drop_eq_nil_of_le (by simp [ht, hx]; omega), List.nil_append, List.drop_drop]
      congr 1
      simp [ht, hx] <;> omega
     have htake : ∀ x : List UInt8, x.length = 4 → (l.take (4 * j) ++ x ++ l.drop (4 * j + 4)).take 248 = l.take (4 * j) ++ x ++ (l.drop (4 * j + 4)).take (244 - 4 * j) := by
      intro x hx
      rw [List.take_append, List.take_of_length_le (by simp [ht, hx]; omega)]
      congr 2
      simp [ht, hx] <;> omega
     have e2 := htake _ hg'
     rw [← e] at e2
     have hb : mixSum 1 (l.take (4 * j) ++ g' ++ (l.drop (4 * j + 4)).take (244 - 4 * j)) = mixSum 1 (l.take (4 * j) ++ g ++ (l.drop (4 * j + 4)).take (244 - 4 * j)) :=
      (congrArg (mixSum 1) e2).symm.trans (hs.symm.trans ((congrArg numOf (hdrop g hg).symm).trans (hb.trans (congrArg (mixSum 1) (htake g hg)))))
     clear hdrop htake e2
     generalize (l.drop (4 * j + 4)).take (244 - 4 * j) = t at hb
     have hmod : (l.take (4 * j)).length % 4 = 0 := by rw [ht]; omega
     exact seal_tells' hmod hg hg' e hb
   · -- the group is a half of the sum
     have hj' : j = 62 ∨ j = 63 := by omega
     have htk : (l.take (4 * j) ++ g ++ l.drop (4 * j + 4)).take 248 = l.take 248 := by
      rw [List.append_assoc, List.take_append, ht, List.take_take]
      rcases hj' with rfl | rfl <;> simp
     rw [htk, ← hs] at hb
     have hi : ∀ {x y : List UInt8}, x.length = 8 → y.length = 8 → numOf x = numOf y → x = y := by
      intro x y hx hy hxy
      rw [← fixedL_of_numOf hx, hxy, fixedL_of_numOf hy]
     have := hi (by rw [List.length_drop, hlen]) (by rw [List.length_drop, hl]) hb
     rw [← List.take_append_drop 248 (l.take (4 * j) ++ g ++ l.drop (4 * j + 4)), htk, this, List.take_append_drop]
 · intro hb
   rw [hb]; exact h
end Go.Proofs.YtelolcagncgfpaaGreat
