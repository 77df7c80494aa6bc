/- The walks through the laws of the layer mix. -/
import Derived.Test.YthnlomggahikeaaMixWalk
namespace Go.Proofs.Ythnlomggahikeaa
open Go.RowKit

theorem u64_of_wf {x : Int} (h : (Lit.int .u64 x).wf = true) : U64 x := by
  have := bounds_u64 h
  unfold U64
  omega

namespace mixSums
theorem walk (a0 : Int) (a1 : ByteArray) (w : World) (w0 : (Lit.int .u64 a0).wf = true) (b1 : a1.size ≤ 140737488351232) :
    Calls Try.prog 3 #[.int .u64 a0, .string a1] w fun e w' => e = .returned (.bool true) ∧ Below w.heap.size w w' := by
  have hu := u64_of_wf w0
  have hB := Below.refl w.heap.size w
  clear w0
  go_enter Try.func3, Try.ntmps3
  go_wp2_with (first | (go_at_call 13; refine (awake_c _ (Nat.le_refl _) (by assumption)).mono ?_; rintro e w1 ⟨rfl, hB1⟩) | (go_at_call 14; refine (sum_c _ _ _ hu (by omega) (Nat.le_refl _) (by assumption)).mono ?_; rintro e w1 ⟨rfl, hB1⟩) | (go_at_call 15; refine (ref_c _ _ _ hu (by omega)).mono ?_; rintro e w1 ⟨rfl, rfl⟩))
  go_ret
  exact ⟨rfl, by assumption⟩
end mixSums
end Go.Proofs.Ythnlomggahikeaa
