/- The walk through the reference's Unkey. -/
import Derived.Test.YtajmmolfnjdanaaGreatDoorValUnkey
namespace Go.Proofs.YtajmmolfnjdanaaGreatDoor
open Go.RowKit
set_option linter.unusedSimpArgs false
set_option linter.unusedVariables false
section
variable {l d : List UInt8} {j : Nat}
theorem x_drop2 (hl : j + 2 ≤ l.length) : l.drop j = l.getD j 0 :: l.getD (j + 1) 0 :: l.drop (j + 2) := by
  rw [drop_getD (l := l) (i := j) (by omega), drop_getD (l := l) (i := j + 1) (by omega)]
theorem x_short (hk : unesc 0 l = (unesc d.length (l.drop j)).pre d j) (h0 : l.getD j 0 = 0) (hl : l.length = j + 1) : unesc 0 l = .bad 3 :=
  un_short hk (by rw [drop_getD (by omega), h0, List.drop_of_length_le (by omega)])
theorem x_end (hk : unesc 0 l = (unesc d.length (l.drop j)).pre d j) (h0 : l.getD j 0 = 0) (hl : j + 2 ≤ l.length) (h1 : l.getD (j + 1) 0 = 1) : unesc 0 l = ⟨d, j + 2, 0⟩ :=
  un_end hk (pre2.2 ⟨l.drop (j + 2), by rw [x_drop2 hl, h0, h1]⟩)
theorem x_form (hk : unesc 0 l = (unesc d.length (l.drop j)).pre d j) (h0 : l.getD j 0 = 0) (hl : j + 2 ≤ l.length) (h1 : l.getD (j + 1) 0 ≠ 1) (h2 : l.getD (j + 1) 0 ≠ 255) : unesc 0 l = .bad 4 := by
  refine un_form hk ?_ ?_ ?_ (by omega) h0
  · rw [Bool.eq_false_iff]; intro h; obtain ⟨t, ht⟩ := pre2.1 h; rw [x_drop2 hl] at ht; injection ht with _ ht; injection ht with ht _; exact h1 ht
  · intro h; rw [x_drop2 hl] at h; injection h with _ h; cases h
  · rw [Bool.eq_false_iff]; intro h; obtain ⟨t, ht⟩ := pre2.1 h; rw [x_drop2 hl] at ht; injection ht with _ ht; injection ht with ht _; exact h2 ht
theorem x_esc (hk : unesc 0 l = (unesc d.length (l.drop j)).pre d j) (h0 : l.getD j 0 = 0) (hl : j + 2 ≤ l.length) (h1 : l.getD (j + 1) 0 = 255) :
    (d.length = 2000 → unesc 0 l = .bad 4) ∧ (d.length ≠ 2000 → unesc 0 l = (unesc (d ++ [0]).length (l.drop (j + 2))).pre (d ++ [0]) (j + 2)) := by
  have := un_esc hk (pre2.2 ⟨l.drop (j + 2), by rw [x_drop2 hl, h0, h1]⟩)
  exact ⟨this.2.2.2.1, this.2.2.2.2⟩
end
theorem sf_get (s : ByteArray) (j : Nat) : (bytesOf (sfrom s 1)).getD j 0 = (bytesOf s).getD (j + 1) 0 := by
  rw [bytesOf_sfrom, List.getD_eq_getElem?_getD, List.getD_eq_getElem?_getD, List.getElem?_drop, Nat.add_comm 1 j]
theorem sf_len (s : ByteArray) : (bytesOf (sfrom s 1)).length = s.size - 1 := by rw [bytesOf_length, size_sfrom]
theorem kz_none {s : ByteArray} (h : s.size = 0) : unkey (bytesOf s) = .bad 3 := k_none (strEq_none.2 h)
theorem kt_bad {s : ByteArray} {e : Int} (hs : 0 < s.size) (h : (((bytesOf s).getD 0 0).toNat : Int) = 2 ∨ (((bytesOf s).getD 0 0).toNat : Int) = 3) (he : e ≠ 0) (hq : unesc 0 (bytesOf (sfrom s 1)) = .bad e) : unkey (bytesOf s) = .bad e := by
  rw [k_text hs h, hq]; exact if_neg he
theorem kt_ok {s : ByteArray} {d : List UInt8} {n : Nat} (hs : 0 < s.size) (h : (((bytesOf s).getD 0 0).toNat : Int) = 2 ∨ (((bytesOf s).getD 0 0).toNat : Int) = 3) (hq : unesc 0 (bytesOf (sfrom s 1)) = ⟨d, n, 0⟩) : unkey (bytesOf s) = ⟨(((bytesOf s).getD 0 0).toNat : Nat), 0, d, n + 1, 0⟩ := by
  rw [k_text hs h, hq]; exact if_pos rfl
theorem ne_byte {a b : UInt8} {n : Nat} (h : a = b) (hb : ¬ ((b.toNat : Nat) : Int) = (n : Nat)) (hn : n < 256) : a ≠ UInt8.ofNat n := fun e => hb (by rw [← h, e, UInt8.toNat_ofNat']; omega)
theorem z_byte {a b : UInt8} {n : Nat} (h : a = b) (hb : ((b.toNat : Nat) : Int) = (n : Nat)) (hn : n < 256) : a = UInt8.ofNat n := h.trans (byte_no hb hn)
structure WV where
  d : List UInt8
  bc : Nat
  j : Nat
theorem app_b {l : List UInt8} {b : UInt8} {x : Int} (hx : x = (b.toNat : Nat)) : l.map byteV' ++ [.int .u8 x] = (l ++ [b]).map byteV' := by
  subst hx; rw [List.map_append]; rfl
theorem all_row {l : List UInt8} {ty c : Nat} : List.take l.length (List.drop 0 (Itm.lst ty 1 c (l.map byteV')).cells) = l.map byteV' := by
  rw [List.drop_zero]; exact List.take_of_length_le (by show (l.map byteV').length ≤ l.length; rw [List.length_map]; exact Nat.le_refl _)
attribute [local irreducible] bytesOf strOf strEq strLt sfrom unesc unkey UR.pre numOf
end Go.Proofs.YtajmmolfnjdanaaGreatDoor
