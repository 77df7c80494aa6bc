/- Prefixes; a text is read in one way only. No program in sight. -/
import Derived.Test.YtajmmolfnjdanaaGreatDoorValDec
import Derived.Test.YtajmmolfnjdanaaGreatDoorValParse
namespace Go.Proofs.YtajmmolfnjdanaaGreatDoor
open Go.RowKit
set_option linter.unusedSimpArgs false
set_option linter.unusedVariables false
attribute [local irreducible] bytesOf strOf strEq strLt sfrom numAt Lib.itoa Lib.atoiAll dgt
end Go.Proofs.YtajmmolfnjdanaaGreatDoor
namespace Go.Proofs.YtajmmolfnjdanaaGreatDoor
open Go.RowKit
set_option linter.unusedSimpArgs false
set_option linter.unusedVariables false
section
variable {s : ByteArray} {F i : Nat} {d : List UInt8}
end
end Go.Proofs.YtajmmolfnjdanaaGreatDoor
namespace Go.Proofs.YtajmmolfnjdanaaGreatDoor
open Go.RowKit
set_option linter.unusedSimpArgs false
set_option linter.unusedVariables false
attribute [local irreducible] bytesOf strOf strEq strLt sfrom quot UR.pre hexI comb oddB
end Go.Proofs.YtajmmolfnjdanaaGreatDoor
namespace Go.Proofs.YtajmmolfnjdanaaGreatDoor
open Go.RowKit
set_option linter.unusedSimpArgs false
set_option linter.unusedVariables false
theorem hp_take {l p : List UInt8} : Lib.hasPrefix l p = true ↔ l.take p.length = p := by
  unfold Lib.hasPrefix; rw [List.isPrefixOf_iff_prefix, List.prefix_iff_eq_take]; exact eq_comm
theorem hp_short {s : ByteArray} {p : List UInt8} (h : s.size < p.length) : Lib.hasPrefix (bytesOf s) p = false := by
  rw [Bool.eq_false_iff]; intro hp
  have := congrArg List.length (hp_take.1 hp)
  rw [List.length_take, bytesOf_length] at this; omega
theorem hp_eq {s : ByteArray} {p : List UInt8} {n : Nat} {b : Bool} (hn : n = p.length) (h : strEq (s.extract 0 n) ⟨p.toArray⟩ = b) : Lib.hasPrefix (bytesOf s) p = b := by
  subst h
  rw [Bool.eq_iff_iff, strEq_list, bytesOf_extract, List.drop_zero, hp_take, hn]
theorem hp_one {s : ByteArray} {c : UInt8} (h : 0 < s.size) : Lib.hasPrefix (bytesOf s) [c] = true ↔ (bytesOf s).getD 0 0 = c := by
  have e := drop_getD (l := bytesOf s) (i := 0) (by rw [bytesOf_length]; exact h)
  rw [List.drop_zero] at e
  rw [pre1]
  constructor
  · rintro ⟨t, ht⟩; rw [ht] at e; injection e with e _; rw [ht]; rfl
  · rintro rfl; exact ⟨_, e⟩
theorem hp_39 {s : ByteArray} (h : 0 < s.size) (hb : (((bytesOf s).getD 0 0).toNat : Int) = 39) : Lib.hasPrefix (bytesOf s) [39] = true := (hp_one h).2 (byte_no hb (by decide))
theorem hp_n39 {s : ByteArray} (hb : s.size < 1 ∨ ¬ (((bytesOf s).getD 0 0).toNat : Int) = 39) : Lib.hasPrefix (bytesOf s) [39] = false := by
  rcases Nat.eq_zero_or_pos s.size with h | h
  · exact hp_short (by rw [h]; decide)
  · rw [Bool.eq_false_iff]; intro hp
    have := (hp_one h).1 hp
    rcases hb with hb | hb
    · omega
    · exact hb (by rw [this]; rfl)
theorem trim_from {s : ByteArray} {p : List UInt8} {n : Nat} (hn : n = p.length) (h : Lib.hasPrefix (bytesOf s) p = true) : strOf (Lib.trimPrefix (bytesOf s) p) = sfrom s n := by
  unfold Lib.trimPrefix
  rw [if_pos h, ← bytesOf_inj, bytesOf_strOf, bytesOf_sfrom, hn]
theorem QuoD.uniq {s : ByteArray} {kd : Int} {y z : Int × ByteArray × Int × Int} (h : QuoD s kd y) (k : QuoD s kd z) : y = z := by
  obtain ⟨y1, y2, y3, y4⟩ := y
  obtain ⟨z1, z2, z3, z4⟩ := z
  have e1 := h.k.trans k.k.symm; have e2 := h.d.trans k.d.symm; have e3 := h.m.trans k.m.symm; have e4 := h.e.trans k.e.symm
  dsimp only at e1 e2 e3 e4
  rw [e1, e2, e3, e4]
theorem QRes.uniq {t : ByteArray} {kd j : Int} {y z : Res} (h : QRes t kd j y) (k : QRes t kd j z) : y = z := by
  obtain ⟨q, hq, h⟩ := h
  obtain ⟨q', hq', k⟩ := k
  have := hq.uniq hq'
  subst this
  rcases h with ⟨h0, rfl⟩ | ⟨h0, rfl⟩ <;> rcases k with ⟨k0, rfl⟩ | ⟨k0, rfl⟩ <;> first | rfl | exact absurd h0 k0 | exact absurd k0 h0
theorem ParD.uniq {s : ByteArray} {y z : Res} (h : ParD s y) (k : ParD s z) : y = z := by
  cases h1 : Lib.hasPrefix (bytesOf s) [110, 117, 108, 108] with
  | true => rw [h.null h1, k.null h1]
  | false =>
    cases h2 : Lib.hasPrefix (bytesOf s) [39] with
    | true => exact (h.text h1 h2).uniq (k.text h1 h2)
    | false =>
      cases h3 : Lib.hasPrefix (bytesOf s) [120, 39] with
      | true => exact (h.blob h1 h2 h3).uniq (k.blob h1 h2 h3)
      | false =>
        obtain ⟨u, hu, rfl⟩ := h.num h1 h2 h3
        obtain ⟨v, hv, rfl⟩ := k.num h1 h2 h3
        rw [hu.uniq hv]
theorem par_null {s : ByteArray} (h : Lib.hasPrefix (bytesOf s) [110, 117, 108, 108] = true) : ParD s (0, 0, ⟨#[]⟩, 4, 0) := ⟨fun _ => rfl, fun h' => tf h h', fun h' => tf h h', fun h' => tf h h'⟩
theorem par_text {s : ByteArray} {z : Res} (h : Lib.hasPrefix (bytesOf s) [110, 117, 108, 108] = false) (h2 : Lib.hasPrefix (bytesOf s) [39] = true) (hq : QRes (sfrom s 1) 2 (1 : Nat) z) : ParD s z :=
  ⟨fun h' => tf h' h, fun _ _ => by rw [trim_from (n := 1) rfl h2]; exact hq, fun _ h' => tf h2 h', fun _ h' => tf h2 h'⟩
theorem par_blob {s : ByteArray} {z : Res} (h : Lib.hasPrefix (bytesOf s) [110, 117, 108, 108] = false) (h2 : Lib.hasPrefix (bytesOf s) [39] = false) (h3 : Lib.hasPrefix (bytesOf s) [120, 39] = true) (hq : QRes (sfrom s 2) 3 (2 : Nat) z) : ParD s z :=
  ⟨fun h' => tf h' h, fun _ h' => tf h' h2, fun _ _ _ => by rw [trim_from (n := 2) rfl h3]; exact hq, fun _ _ h' => tf h3 h'⟩
theorem par_num {s : ByteArray} {y : Int × Int × Int × Int} (h : Lib.hasPrefix (bytesOf s) [110, 117, 108, 108] = false) (h2 : Lib.hasPrefix (bytesOf s) [39] = false) (h3 : Lib.hasPrefix (bytesOf s) [120, 39] = false) (hy : NumR (bytesOf s) y) : ParD s (y.1, y.2.1, ⟨#[]⟩, y.2.2.1, y.2.2.2) :=
  ⟨fun h' => tf h' h, fun _ h' => tf h' h2, fun _ _ h' => tf h' h3, fun _ _ _ => ⟨y, hy, rfl⟩⟩
attribute [local irreducible] bytesOf strOf strEq strLt sfrom numAt Lib.itoa Lib.atoiAll Lib.hasPrefix Lib.trimPrefix quot
end Go.Proofs.YtajmmolfnjdanaaGreatDoor
