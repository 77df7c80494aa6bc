/- Contracts in the form in which the generator of conditions takes them. -/
import Derived.Lib.Repeat
import Derived.Test.YtcojbjakopkfbaaGreatTab
import Derived.Test.YtcojbjakopkfbaaGreatNumWalk
import Derived.Test.YtcojbjakopkfbaaGreatShelf
namespace Go.Proofs.YtcojbjakopkfbaaGreat
open Go.RowKit
set_option linter.unusedSimpArgs false
set_option linter.unusedVariables false
theorem strEq_true {a b : ByteArray} : strEq a b = true ↔ bytesOf a = bytesOf b := by simp [strEq]
theorem lit_size (a : Array UInt8) : (ByteArray.mk a).size = a.size := rfl
theorem repeatL_one (b : UInt8) : ∀ k : Nat, Lib.repeatL [b] k = List.replicate k b
  | 0 => rfl
  | k + 1 => by
    show [b] ++ Lib.repeatL [b] k = _
    rw [repeatL_one b k]; rfl
theorem c_noughts (k : Int) (hk : 0 ≤ k ∧ k ≤ 281474976710656) (h2 : k ≤ 140737488355328) (w : World) :
    Calls Tryz.prog 53 #[.string ⟨#[0]⟩, .int .i64 k] w fun e w' => e = .returned (.string (strOf (List.replicate k.toNat 0))) ∧ Below w.heap.size w w' := by
  have h := Tryz.strings_Repeat ⟨#[0]⟩ k.toNat w (by omega) (by show 1 * k.toNat ≤ _; omega)
  rw [show ((k.toNat : Nat) : Int) = k by omega] at h
  refine h.mono ?_
  rintro e w' ⟨rfl, hb⟩
  refine ⟨?_, hb⟩
  rw [← repeatL_one]; rfl
theorem noughts_cells (k : Nat) : (List.replicate k [Value.int .u8 0]).flatten = (List.replicate k (0 : UInt8)).map byteV' := by
  induction k with
  | zero => rfl
  | succ k ih => rw [List.replicate_succ, List.flatten_cons, ih]; rfl
end Go.Proofs.YtcojbjakopkfbaaGreat
