/- The disk: all bytes of a file; what only asks. -/
import Derived.Test.YtcojbjakopkfbaaGreatDiskTotal
import Derived.Test.YtcojbjakopkfbaaGreatBldAll
namespace Go.Proofs.YtcojbjakopkfbaaGreat
open Go.RowKit
set_option linter.unusedSimpArgs false
set_option linter.unusedVariables false
structure BS where
  u : Bool
  d : List UInt8
  bc : Nat
  i : Nat
def bytF (l : List Cv) (i : Nat) : List UInt8 := (l.take i).flatMap cellB
attribute [local irreducible] bytesOf strOf strEq strLt sfrom begS cellB bytF
end Go.Proofs.YtcojbjakopkfbaaGreat
namespace Go.Proofs.YtcojbjakopkfbaaGreat
open Go.RowKit
set_option linter.unusedSimpArgs false
set_option linter.unusedVariables false
section
variable (S : Nat → Prop) (D : DM) (hD : D.Ok)
include hD
theorem size_k (s : ByteArray) : CallOb Tryz.prog 17 [ptr 0, .string s] [(0, diskI S D)] 1 (fun v h m => ∃ (a : Int) (S' : Nat → Prop), a = sizeD D s ∧ v = iv a ∧ h = [(0, diskI S' D)] ∧ m = 20) :=
  (size_c S D hD s).mono fun v h m ⟨a, D', S', hr, h1, h2, h3⟩ => by
    obtain ⟨rfl, rfl⟩ := hr
    exact ⟨_, S', rfl, h1, h2, h3⟩
end
end Go.Proofs.YtcojbjakopkfbaaGreat
