/- Contracts in the form in which the generator of conditions takes them. -/
import Derived.Lib.Repeat
import Derived.Test.YtelolcagncgfpaaGreatTab
import Derived.Test.YtelolcagncgfpaaGreatNumWalk
import Derived.Test.YtelolcagncgfpaaGreatShelf
namespace Go.Proofs.YtelolcagncgfpaaGreat
open Go.RowKit
set_option linter.unusedSimpArgs false
set_option linter.unusedVariables false
theorem bytesOf_lit (l : List UInt8) : bytesOf ⟨l.toArray⟩ = l := rfl
theorem strEq_true {a b : ByteArray} : strEq a b = true ↔ bytesOf a = bytesOf b := by simp [strEq]
theorem strEq_false {a b : ByteArray} : strEq a b = false ↔ ¬ bytesOf a = bytesOf b := by simp [strEq]
theorem lit_size (a : Array UInt8) : (ByteArray.mk a).size = a.size := rfl
theorem c_fixed (k : Nat) (hk : 1 ≤ k ∧ k ≤ 8) (x : Int) (hx : 0 ≤ x) (w : World) :
 Calls Tryz.prog 80 #[.int .u64 x, .int .i64 k] w fun e w' => e = .returned (.string (strOf (fixedL x.toNat k))) ∧ Below w.heap.size w w' := by
 have h := fixed_any x.toNat k w (by omega) (by omega)
 rwa [show wd (k : Int) = k by unfold wd; split <;> (try split) <;> omega, show ((x.toNat : Nat) : Int) = x by omega] at h
theorem c_fixed1 (x : Int) (hx : 0 ≤ x) (w : World) :
 Calls Tryz.prog 80 #[.int .u64 x, .int .i64 1] w fun e w' => e = .returned (.string (strOf (fixedL x.toNat 1))) ∧ Below w.heap.size w w' := c_fixed 1 (by decide) x hx w
theorem c_fixed2 (x : Int) (hx : 0 ≤ x) (w : World) :
 Calls Tryz.prog 80 #[.int .u64 x, .int .i64 2] w fun e w' => e = .returned (.string (strOf (fixedL x.toNat 2))) ∧ Below w.heap.size w w' := c_fixed 2 (by decide) x hx w
theorem c_fixed4 (x : Int) (hx : 0 ≤ x) (w : World) :
 Calls Tryz.prog 80 #[.int .u64 x, .int .i64 4] w fun e w' => e = .returned (.string (strOf (fixedL x.toNat 4))) ∧ Below w.heap.size w w' := c_fixed 4 (by decide) x hx w
theorem c_fixed8 (x : Int) (hx : 0 ≤ x) (w : World) :
 Calls Tryz.prog 80 #[.int .u64 x, .int .i64 8] w fun e w' => e = .returned (.string (strOf (fixedL x.toNat 8))) ∧ Below w.heap.size w w' := c_fixed 8 (by decide) x hx w
theorem c_unfixed (s : ByteArray) (hs : 1 ≤ s.size ∧ s.size ≤ 8) (w : World) :
 Calls Tryz.prog 65 #[.string s] w fun e w' => e = .returned (.tuple #[.int .u64 (numOf (bytesOf s) : Nat), .int .i64 0]) ∧ Below w.heap.size w w' := by
 have h := unfixed_any s w (by omega)
 rwa [unfixed_pos (by rw [bytesOf_length]; exact hs.1) (by rw [bytesOf_length]; exact hs.2)] at h
theorem c_rfixed (k : Nat) (hk : 1 ≤ k ∧ k ≤ 8) (x : Int) (hx : 0 ≤ x) (w : World) :
 Calls Tryz.prog 25 #[.int .u64 x, .int .i64 k] w fun e w' => e = .returned (.string (strOf (fixedL x.toNat k))) ∧ Below w.heap.size w w' := by
 have h := rfixed_any x.toNat k w (by omega) (by omega)
 rwa [show wd (k : Int) = k by unfold wd; split <;> (try split) <;> omega, show ((x.toNat : Nat) : Int) = x by omega] at h
theorem c_rfixed1 (x : Int) (hx : 0 ≤ x) (w : World) :
 Calls Tryz.prog 25 #[.int .u64 x, .int .i64 1] w fun e w' => e = .returned (.string (strOf (fixedL x.toNat 1))) ∧ Below w.heap.size w w' := c_rfixed 1 (by decide) x hx w
theorem c_rfixed2 (x : Int) (hx : 0 ≤ x) (w : World) :
 Calls Tryz.prog 25 #[.int .u64 x, .int .i64 2] w fun e w' => e = .returned (.string (strOf (fixedL x.toNat 2))) ∧ Below w.heap.size w w' := c_rfixed 2 (by decide) x hx w
theorem c_rfixed4 (x : Int) (hx : 0 ≤ x) (w : World) :
 Calls Tryz.prog 25 #[.int .u64 x, .int .i64 4] w fun e w' => e = .returned (.string (strOf (fixedL x.toNat 4))) ∧ Below w.heap.size w w' := c_rfixed 4 (by decide) x hx w
theorem c_rfixed8 (x : Int) (hx : 0 ≤ x) (w : World) :
 Calls Tryz.prog 25 #[.int .u64 x, .int .i64 8] w fun e w' => e = .returned (.string (strOf (fixedL x.toNat 8))) ∧ Below w.heap.size w w' := c_rfixed 8 (by decide) x hx w
theorem c_runfixed (s : ByteArray) (hs : 1 ≤ s.size ∧ s.size ≤ 8) (w : World) :
 Calls Tryz.prog 40 #[.string s] w fun e w' => e = .returned (.tuple #[.int .u64 (numOf (bytesOf s) : Nat), .int .i64 0]) ∧ w = w' := by
 have h := runfixed_any s w (by omega)
 rwa [unfixed_pos (by rw [bytesOf_length]; exact hs.1) (by rw [bytesOf_length]; exact hs.2)] at h
theorem repeatL_one (b : UInt8) : ∀ k : Nat, Lib.repeatL [b] k = List.replicate k b
 | 0 => rfl
 | k + 1 => by
  show [b] ++ Lib.repeatL [b] k = _
  rw [repeatL_one b k]; rfl
theorem c_noughts (k : Int) (hk : 0 ≤ k ∧ k ≤ 281474976710656) (h2 : k ≤ 140737488355328) (w : World) :
 Calls Tryz.prog 30 #[.string ⟨#[0]⟩, .int .i64 k] w fun e w' => e = .returned (.string (strOf (List.replicate k.toNat 0))) ∧ Below w.heap.size w w' := by
 have h := Tryz.strings_Repeat ⟨#[0]⟩ k.toNat w (by omega) (by show 1 * k.toNat ≤ _; omega)
 rw [show ((k.toNat : Nat) : Int) = k by omega] at h
 refine h.mono ?_
 rintro e w' ⟨rfl, hb⟩
 refine ⟨?_, hb⟩
 rw [← repeatL_one]; rfl
theorem bytes_from (s : ByteArray) (k : Nat) : bytesOf (s.extract k s.size) = (bytesOf s).drop k := by
 rw [bytesOf_extract, List.take_of_length_le (by rw [bytesOf_length]; exact Nat.le_refl _)]
theorem bytes_upto (s : ByteArray) (k : Nat) : bytesOf (s.extract 0 k) = (bytesOf s).take k := by rw [bytesOf_extract, List.drop_zero]
theorem numOf_four {s : ByteArray} (h : s.size ≤ 4) : numOf (bytesOf s) < 4294967296 :=
 Nat.lt_of_lt_of_le (numOf_lt _) (Nat.le_trans (Nat.pow_le_pow_right (by decide) (by rw [bytesOf_length]; exact h)) (by decide))
theorem w64n4 (s : ByteArray) (h : s.size ≤ 4) : ((numOf (bytesOf s) : Nat) : Int) = IntKind.i64.wrap ((numOf (bytesOf s) : Nat) : Int) := w64 (by omega) (by have := numOf_four h; omega)
def padL (l : List UInt8) : List UInt8 := l.take 232 ++ List.replicate (232 - l.length) 0
theorem padL_length (l : List UInt8) : (padL l).length = 232 := by simp [padL]; omega
theorem noughts_cells (k : Nat) : (List.replicate k [Value.int .u8 0]).flatten = (List.replicate k (0 : UInt8)).map byteV' := by
 induction k with
 | zero => rfl
 | succ k ih => rw [List.replicate_succ, List.flatten_cons, ih]; rfl
theorem noughts_take (k ty sz c : Nat) : List.take k (List.drop 0 (Itm.row ty sz c (List.replicate k [Value.int .u8 0]).flatten).cells) = (List.replicate k (0 : UInt8)).map byteV' := by
 rw [List.drop_zero, ← noughts_cells]; exact List.take_of_length_le (by simp [Itm.cells])
theorem rnCall1 {p : Prop} (h : p := by refine ⟨?_, ?_, ?_⟩; (first | apply rR_tuple | apply rR_one rfl | exact rfl); all_goals (repeat' (first | (with_reducible (first | exact relH_nil | apply rn_lst | apply rn_own | apply rn_mp | apply rn_row | apply rn_abs | exact wo_nil)) | apply wo_keep rfl | apply wo_drop rfl | exact relH_nil | exact r1_flat rfl | exact r0_flat rfl | exact rl_nil | exact wo_nil | exact bk_old rfl | exact bk_new rfl | exact bk_nil rfl | apply rl_cons | (fail) | exact relL_flat (flat_map (fun _ => rfl) _) | exact relL_flat flat_nil | apply relL_to | apply rn_lst | apply rn_own | apply rn_mp | apply rn_row | apply relH_view rfl | apply relH_lview rfl | apply relH_fact rfl | exact r1_rig | exact r0_rig | exact r1_rigs | exact r0_rigs | apply wo_keep rfl | apply wo_drop rfl | apply r1_agg | apply rn_ptr | apply rn_slice | apply rn_slice0 | apply rn_iface | apply rn_map | apply rn_ifacem | apply r0_map | apply r0_ifacem | apply r0_ptr | apply r0_slice | apply r0_slice0 | apply r0_iface)); (first | done | fail)) : p := h
theorem c_full (s : ByteArray) (hs : s.size ≤ 281474976710656) (w : World) :
 Calls Tryz.prog 5 #[.string s] w fun e w' => e = .returned (.string (strOf (padL (bytesOf s)))) ∧ Below w.heap.size w w' := by
 have hl := bytesOf_length s
 refine calls_pure tabOk mixed Tryz.func5 rfl [] [.string s] rfl (Nat.le_of_ble_eq_true rfl) rfl ?_ w
 (repeat' ((try (conv => whnf)); first | (guard_target =~ ∃ (_ : Value), ∃ (_ : HP), ∃ (_ : HP), _; refine ⟨_, _, _, rnCall1, ?_⟩; (try (dsimp only [Nat.reduceAdd]))) | (with_reducible refine ⟨232 - s.size, 232 - s.size, by omega, by omega, Nat.le_refl _, by omega, by omega, ?_⟩) | (with_reducible refine ⟨List.replicate (232 - s.size) 0, noughts_take _ _ _ _, List.length_replicate, ?_⟩) | (with_reducible first | refine chk_in (Nat.ble_eq_true_of_le omT) ?_ | (refine ifB_in ?_ ?_ <;> intro hb <;> (try simp only [bN1, bN2, bN3, bN4, bN5, bN6, bN7, bN8, bN9, bN0] at hb) <;> (try (exfalso; omega))) | refine ⟨_, w64b _, ?_⟩ | refine ⟨_, w64 omT omT, ?_⟩ | refine ⟨_, wu64 omT omT, ?_⟩ | refine ⟨_, wu8 omT omT, ?_⟩ | refine ⟨_, w64 szT szT, ?_⟩ | refine ⟨_, rfl, ?_⟩ | refine ⟨rfl, ?_⟩) | intro cap | (with_reducible refine ⟨trivial, ?_⟩) | (guard_target =~ (planChk _ _ = true) ∧ _; refine ⟨by kernel_rfl, ?_⟩) | (guard_target =~ (_ ∧ _) ∧ _; refine ⟨by ((repeat (first | exact trivial | refine ⟨rfl, ?_⟩)); (first | done | fail)), ?_⟩) | refine ⟨by omega, ?_⟩ | refine ⟨szT, ?_⟩ | refine ⟨0, rfl, ?_⟩ | refine ⟨1, rfl, ?_⟩ | refine ⟨2, rfl, ?_⟩ | refine ⟨3, rfl, ?_⟩ | refine ⟨4, rfl, ?_⟩ | refine ⟨5, rfl, ?_⟩ | (refine cell_at1 (by assumption) ?_) | (refine cell_in1 omT (fun x hx => ?_)) | fail)) <;> (try (conv => whnf))
 · refine congrArg Value.string ?_
   rw [← bytesOf_inj, bytesOf_strOf, bytesOf_extract, padL, show 232 - (bytesOf s).length = 0 by omega]
   simp
 · refine congrArg Value.string ?_
   rw [← bytesOf_inj, bytesOf_strOf, bytesOf_append, bytesOf_strOf, padL, hl, List.take_of_length_le (by omega)]
end Go.Proofs.YtelolcagncgfpaaGreat
