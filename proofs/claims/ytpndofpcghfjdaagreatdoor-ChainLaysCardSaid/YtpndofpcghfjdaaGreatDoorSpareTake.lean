/- The walks through taking and giving of pages. -/
import Derived.Test.YtpndofpcghfjdaaGreatDoorSpareBook
namespace Go.Proofs.YtpndofpcghfjdaaGreatDoor
open Go.RowKit
set_option linter.unusedSimpArgs false
set_option linter.unusedVariables false
attribute [local irreducible] numOf fixedL bytesOf strOf strEq strLt sfrom padL headS trS trE fitT getB putB decTE decTN decTL
structure Trk where
  next : Int
  list : List Int
  e : Int
  left : Int
def TrunkD (left : Int) (B : Bk) (n : Int) (x : Trk) : Prop :=
  (left = 0 ∧ x = ⟨0, [], 11, 0⟩) ∨ (left ≠ 0 ∧ ((decTE (getB B n) = 0 ∧ x = ⟨decTN (getB B n), decTL (getB B n), 0, left - 1⟩) ∨ (decTE (getB B n) ≠ 0 ∧ x = ⟨0, [], 30, left - 1⟩)))
/-- What laying a trunk does: an error, the calls left, the book. -/
def LayD (left : Int) (B : Bk) (n next : Int) (l : List Int) (y : Int × Int × Bk) : Prop := (trE next l ≠ 0 ∧ y = (30, left, B)) ∨ (trE next l = 0 ∧ PutD left B n (trS next l) y)
theorem TrunkD.lft {left : Int} {B : Bk} {n : Int} {x : Trk} (h : TrunkD left B n x) : x.left = left ∨ x.left = left - 1 := by
  rcases h with ⟨h0, rfl⟩ | ⟨_, ⟨_, rfl⟩ | ⟨_, rfl⟩⟩
  · exact .inl h0.symm
  · exact .inr rfl
  · exact .inr rfl
theorem TrunkD.len {left : Int} {B : Bk} {n : Int} {x : Trk} (h : TrunkD left B n x) : x.list.length ≤ 50 := by
  rcases h with ⟨_, rfl⟩ | ⟨_, ⟨_, rfl⟩ | ⟨_, rfl⟩⟩
  · exact Nat.zero_le _
  · exact decTL_len _
  · exact Nat.zero_le _
structure Hd where
  m : Int
  p : Int
  t : Int
  x : Int
  r : Int
  c : Int
abbrev Hd.v (h : Hd) : Value := .agg #[iv h.m, iv h.p, iv h.t, iv h.x, iv h.r, .int .u64 h.c]
abbrev hd0 : Hd := ⟨0, 0, 0, 0, 0, 0⟩
/-- What taking comes to: the page, the head, an error, the calls left, the book. -/
structure Took where
  n : Int
  h : Hd
  e : Int
  left : Int
  B : Bk
def TakeT (h : Hd) (tr : Trk) (B : Bk) (z : Took) : Prop :=
  (tr.e ≠ 0 ∧ z = ⟨0, hd0, tr.e, tr.left, B⟩) ∨
  (tr.e = 0 ∧ (h.p ≤ tr.next ∨ ∃ k l, tr.list.length = k + 1 ∧ tr.list[k]? = some l ∧ h.p ≤ l) ∧ z = ⟨0, hd0, 30, tr.left, B⟩) ∨
  (tr.e = 0 ∧ tr.next < h.p ∧ ∃ k l y, tr.list.length = k + 1 ∧ tr.list[k]? = some l ∧ l < h.p ∧ LayD tr.left B h.t tr.next (tr.list.take k) y ∧ ((y.1 ≠ 0 ∧ z = ⟨0, hd0, y.1, y.2.1, y.2.2⟩) ∨ (y.1 = 0 ∧ z = ⟨l, { h with x := h.x - 1 }, 0, y.2.1, y.2.2⟩))) ∨
  (tr.e = 0 ∧ tr.next < h.p ∧ tr.list = [] ∧ ((decide (tr.next = 0) ≠ decide (h.x = 1) ∧ z = ⟨0, hd0, 30, tr.left, B⟩) ∨ (decide (tr.next = 0) = decide (h.x = 1) ∧ z = ⟨h.t, { h with t := tr.next, x := h.x - 1 }, 0, tr.left, B⟩)))
def TakeD (h : Hd) (left : Int) (B : Bk) (z : Took) : Prop :=
  (h.x = 0 ∧ 4096 ≤ h.p ∧ z = ⟨0, hd0, 22, left, B⟩) ∨ (h.x = 0 ∧ h.p < 4096 ∧ z = ⟨h.p, { h with p := h.p + 1 }, 0, left, B⟩) ∨ (h.x ≠ 0 ∧ ∃ tr, TrunkD left B h.t tr ∧ TakeT h tr B z)
end Go.Proofs.YtpndofpcghfjdaaGreatDoor
