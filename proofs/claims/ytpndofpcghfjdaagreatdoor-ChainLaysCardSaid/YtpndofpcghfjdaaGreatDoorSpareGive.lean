/- The walk through giving. -/
import Derived.Test.YtpndofpcghfjdaaGreatDoorSpareTake
namespace Go.Proofs.YtpndofpcghfjdaaGreatDoor
open Go.RowKit
set_option linter.unusedSimpArgs false
set_option linter.unusedVariables false
attribute [local irreducible] numOf fixedL bytesOf strOf strEq strLt sfrom padL headS trS trE fitT getB putB decTE decTN decTL
/-- What giving comes to: the head, an error, the calls left, the book. -/
structure Gave where
  h : Hd
  e : Int
  left : Int
  B : Bk
def GiveL (h h' : Hd) (y : Int × Int × Bk) (z : Gave) : Prop := (y.1 ≠ 0 ∧ z = ⟨hd0, y.1, y.2.1, y.2.2⟩) ∨ (y.1 = 0 ∧ z = ⟨h', 0, y.2.1, y.2.2⟩)
def GiveD (h : Hd) (left : Int) (B : Bk) (n : Int) (z : Gave) : Prop :=
  ((n < 1 ∨ h.p ≤ n) ∧ z = ⟨hd0, 1, left, B⟩) ∨
  (1 ≤ n ∧ n < h.p ∧ h.p - 1 ≤ h.x ∧ z = ⟨hd0, 30, left, B⟩) ∨
  (1 ≤ n ∧ n < h.p ∧ h.x < h.p - 1 ∧ h.t = 0 ∧ ∃ y, LayD left B n h.t [] y ∧ GiveL h { h with t := n, x := h.x + 1 } y z) ∨
  (1 ≤ n ∧ n < h.p ∧ h.x < h.p - 1 ∧ h.t ≠ 0 ∧ ∃ tr, TrunkD left B h.t tr ∧ (
    (tr.e ≠ 0 ∧ z = ⟨hd0, tr.e, tr.left, B⟩) ∨
    (tr.e = 0 ∧ tr.list.length < 50 ∧ ∃ y, LayD tr.left B h.t tr.next (tr.list ++ [n]) y ∧ GiveL h { h with x := h.x + 1 } y z) ∨
    (tr.e = 0 ∧ 50 ≤ tr.list.length ∧ ∃ y, LayD tr.left B n h.t [] y ∧ GiveL h { h with t := n, x := h.x + 1 } y z)))
end Go.Proofs.YtpndofpcghfjdaaGreatDoor
