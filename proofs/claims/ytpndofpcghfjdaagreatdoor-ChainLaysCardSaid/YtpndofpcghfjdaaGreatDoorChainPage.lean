/- Chain: the pages behind an interface; a page is written. -/
import Derived.Test.YtpndofpcghfjdaaGreatDoorChainPure
import Derived.Test.YtpndofpcghfjdaaGreatDoorChainNd
import Derived.Test.YtpndofpcghfjdaaGreatDoorBldS
import Derived.Test.YtpndofpcghfjdaaGreatDoorEngU
namespace Go.Proofs.YtpndofpcghfjdaaGreatDoor
open Go.RowKit
set_option linter.unusedSimpArgs false
set_option linter.unusedVariables false
attribute [local irreducible] numOf fixedL bytesOf strOf strEq strLt sfrom padL headS trS trE fitT getB putB decTE decTN decTL
abbrev shV (b : Nat) : Value := .iface 26 (.pointer (some ⟨b, 0, none⟩))
theorem cmeth_new : MethOb Tryz.prog 26 "New" 25 := ⟨fun a w => by kernel_rfl⟩
theorem cmeth_get : MethOb Tryz.prog 26 "Get" 20 := ⟨fun a w => by kernel_rfl⟩
theorem cmeth_put : MethOb Tryz.prog 26 "Put" 26 := ⟨fun a w => by kernel_rfl⟩
theorem cmeth_free : MethOb Tryz.prog 26 "Free" 145 := ⟨fun a w => by kernel_rfl⟩
theorem ahead_put : AheadOb Tryz.prog 26 "Put" := ⟨fun a w => by kernel_rfl⟩
theorem c_trim (s : ByteArray) (hs : s.size ≤ 9223372036854775807) (w : World) :
    Calls Tryz.prog 46 #[.string s, .string ⟨#[0]⟩] w fun e w' => e = .returned (.string (strOf (Lib.trimB (bytesOf s) 0))) ∧ Below w.heap.size w w' := by
  refine (Tryz.strings_Trim_one s 0 (by decide) w hs).mono ?_
  rintro e w' ⟨rfl, rfl | rfl⟩
  · refine ⟨by unfold strOf bytesOf; rfl, Below.refl _ _⟩
  · refine ⟨by unfold strOf bytesOf; rfl, ⟨rfl, rfl, rfl, Nat.le_refl _, fun _ _ => rfl⟩⟩
theorem c_prefix (s : ByteArray) (w : World) :
    Calls Tryz.prog 45 #[.string s, .string ⟨#[3]⟩] w fun e w' => e = .returned (.bool (Lib.hasPrefix (bytesOf s) [3])) ∧ Below w.heap.size w w' := by
  refine (Tryz.strings_HasPrefix s ⟨#[3]⟩ w).mono ?_
  rintro e w' ⟨rfl, rfl⟩
  exact ⟨by unfold bytesOf; rfl, Below.refl _ _⟩
theorem fixed_next {x : Int} (n : Int) (hx : x = n) (h0 : 0 ≤ n) (w : World) :
    Calls Tryz.prog 50 #[.int .u64 x, .int .i64 4] w fun e w' => e = .returned (.string (strOf (fixedL n.toNat 4))) ∧ Below w.heap.size w w' := by
  subst hx; exact c_fixed4 x h0 w
theorem page_c (part : ByteArray) (next : Int) (hp : part.size ≤ 227) (hn : 0 ≤ next ∧ next < 9223372036854775807) :
    CallOb Tryz.prog 31 [.string part, iv next] [] 0 (fun v hh m => ∃ z : ByteArray, z = pageS part next ∧ v = .string z ∧ hh = [] ∧ m = 0) := by
  refine call_spec tabOk mixed Tryz.call31 Tryz.func31 rfl [] (fun z : ByteArray => z = pageS part next) (fun z => .string z) (fun _ => []) (fun _ => 0) ?_ ?_
  · exact (Nat.le_of_ble_eq_true rfl)
  (repeat' ((try (conv => whnf)); first | (guard_target =~ CallOb _ 50 _ _ _ _; (with_reducible refine call_pure Tryz.call50 (fixed_next next (by omega) hn.1) ?_ ?_ ?_); exact rfl; exact rfl) | (guard_target =~ CallOb _ 51 _ _ _ _; (with_reducible refine call_pure Tryz.call51 (c_noughts (227 - part.size) (by omega) (by omega)) ?_ ?_ ?_); exact rfl; exact rfl) | (with_reducible refine chk_in (Nat.ble_eq_true_of_le (by omega)) ?_) | (with_reducible refine ifB_in ?_ ?_ <;> intro hb <;> (try simp only [decide_eq_true_eq, decide_eq_false_iff_not, Int.not_lt, Int.not_le, ne_eq, Decidable.not_not, Bool.not_eq_true', Bool.not_eq_false', gt_iff_lt, ge_iff_le] at hb) <;> (try (exfalso; omega))) | (with_reducible refine ⟨_, w64b _, ?_⟩) | (with_reducible refine ⟨_, w64 (by omega) (by omega), ?_⟩) | (with_reducible refine ⟨_, wu64 (by omega) (by omega), ?_⟩) | (with_reducible refine ⟨_, wu8 (by omega) (by omega), ?_⟩) | (with_reducible refine ⟨_, w64 (by (simp only [size_sfrom, ByteArray.size_extract, ByteArray.size_append, strOf_size, fixedL_length, lit_size, List.size_toArray, List.length_cons, List.length_nil, List.length_append, List.length_replicate]; omega)) (by (simp only [size_sfrom, ByteArray.size_extract, ByteArray.size_append, strOf_size, fixedL_length, lit_size, List.size_toArray, List.length_cons, List.length_nil, List.length_append, List.length_replicate]; omega)), ?_⟩) | (with_reducible refine ⟨_, rfl, ?_⟩) | (with_reducible refine ⟨rfl, ?_⟩) | (intro cap) | (with_reducible refine ⟨trivial, ?_⟩) | (guard_target =~ (planChk _ _ = true) ∧ _; refine ⟨by kernel_rfl, ?_⟩) | (guard_target =~ (_ ∧ _) ∧ _; refine ⟨by ((repeat (first | exact trivial | refine ⟨rfl, ?_⟩)); (first | done | fail)), ?_⟩) | (refine ⟨by omega, ?_⟩) | (refine ⟨by (simp only [size_sfrom, ByteArray.size_extract, ByteArray.size_append, strOf_size, fixedL_length, lit_size, List.size_toArray, List.length_cons, List.length_nil, List.length_append, List.length_replicate]; omega), ?_⟩) | (refine ⟨0, rfl, ?_⟩) | (refine ⟨1, rfl, ?_⟩) | (refine ⟨2, rfl, ?_⟩) | (refine ⟨3, rfl, ?_⟩) | (refine ⟨4, rfl, ?_⟩) | (refine ⟨5, rfl, ?_⟩) | (refine cell_at1 (by assumption) ?_) | (refine cell_in1 (by omega) (fun x hx => ?_)) | fail)) <;> (try (conv => whnf))
  · (refine Ends.go (_) ?_ [] (Fit.q (by (repeat' (first | exact True.intro | (with_reducible exact rfl) | (guard_target =~ @Eq Nat _ _; first | exact rfl | omega) | (guard_target =~ List.map _ _ = []; exact rfl) | (exact congrArg (Value.int _) (by (try dsimp only); omega)) | (exact congrArg (Value.int _) (by omega)) | (exact covL_flat (flat_map (fun _ => rfl) _)) | (exact covL_flat flat_nil) | (refine covP_all ?_) | (refine covL_each ?_) | (refine ⟨?_, ?_⟩) | ((conv => whnf); (first | exact True.intro | (with_reducible exact rfl) | (guard_target =~ @Eq Nat _ _; first | exact rfl | omega) | (guard_target =~ List.map _ _ = []; exact rfl) | (exact congrArg (Value.int _) (by (try dsimp only); omega)) | (exact congrArg (Value.int _) (by omega)) | (exact covL_flat (flat_map (fun _ => rfl) _)) | (exact covL_flat flat_nil) | (refine covP_all ?_) | (refine covL_each ?_) | (refine ⟨?_, ?_⟩) | done)))); (first | done | fail)) (by rfl) (by rfl)))
    rw [← bytesOf_inj, page_bytes, ← strOf_bytesOf part]
    simp only [bytesOf_append, bytesOf_strOf, strOf_size, bytesOf_length, bytesOf_lit]
    rw [show (227 - (part.size : Int)).toNat = 227 - part.size by omega]
end Go.Proofs.YtpndofpcghfjdaaGreatDoor
