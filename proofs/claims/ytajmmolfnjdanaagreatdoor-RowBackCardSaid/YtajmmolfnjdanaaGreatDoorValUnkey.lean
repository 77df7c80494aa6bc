/- The walks through unescape, Good, Compare and Unkey. -/
import Derived.Test.YtajmmolfnjdanaaGreatDoorValSpec
import Derived.Test.YtajmmolfnjdanaaGreatDoorGlob
import Derived.Test.YtajmmolfnjdanaaGreatDoorCall
import Derived.Test.YtajmmolfnjdanaaGreatDoorBldS
namespace Go.Proofs.YtajmmolfnjdanaaGreatDoor
open Go.RowKit
set_option linter.unusedSimpArgs false
set_option linter.unusedVariables false
theorem c_prefixL (s : ByteArray) (p : List UInt8) (w : World) :
    Calls Tryz.prog 49 #[.string s, .string ⟨p.toArray⟩] w fun e w' => e = .returned (.bool (Lib.hasPrefix (bytesOf s) p)) ∧ Below w.heap.size w w' := by
  refine (Tryz.strings_HasPrefix s ⟨p.toArray⟩ w).mono ?_
  rintro e w' ⟨rfl, rfl⟩
  exact ⟨by unfold bytesOf; rfl, Below.refl _ _⟩
theorem strEq_list {s : ByteArray} {p : List UInt8} : strEq s ⟨p.toArray⟩ = true ↔ bytesOf s = p := by
  unfold strEq; rw [decide_eq_true_eq]; exact Iff.rfl
structure WE where
  u : Bool
  d : List UInt8
  bc : Nat
  i : Nat
section
variable {s : ByteArray} {d : List UInt8} {i : Nat}
abbrev UnH (s : ByteArray) (d : List UInt8) (i : Nat) : Prop := unesc 0 (bytesOf s) = (unesc d.length ((bytesOf s).drop i)).pre d i
theorem byte_no {b : UInt8} {n : Nat} (h : ((b.toNat : Nat) : Int) = (n : Nat)) (hn : n < 256) : b = UInt8.ofNat n := by
  refine UInt8.toNat_inj.1 ?_
  rw [UInt8.toNat_ofNat']; omega
theorem w_end (hk : UnH s d i) (hp : Lib.hasPrefix (bytesOf (sfrom s i)) [0, 1] = true) : unesc 0 (bytesOf s) = ⟨d, i + 2, 0⟩ := by rw [bytesOf_sfrom] at hp; exact un_end hk hp
theorem w_short (hk : UnH s d i) (hp : strEq (sfrom s i) ⟨#[0]⟩ = true) : unesc 0 (bytesOf s) = .bad 3 := by
  have := strEq_list.1 hp; rw [bytesOf_sfrom] at this; exact un_short hk this
theorem w_esc (hk : UnH s d i) (hp : Lib.hasPrefix (bytesOf (sfrom s i)) [0, 255] = true) :
    (bytesOf s).getD i 0 = 0 ∧ (bytesOf s).getD (i + 1) 0 = 255 ∧ i + 2 ≤ s.size ∧ (d.length = 2000 → unesc 0 (bytesOf s) = .bad 4) ∧ (d.length ≠ 2000 → UnH s (d ++ [0]) (i + 2)) := by
  rw [bytesOf_sfrom] at hp
  have h := un_esc hk hp
  rw [bytesOf_length] at h; exact h
theorem w_form (hk : UnH s d i) (h1 : Lib.hasPrefix (bytesOf (sfrom s i)) [0, 1] = false) (h2 : strEq (sfrom s i) ⟨#[0]⟩ = false) (h3 : Lib.hasPrefix (bytesOf (sfrom s i)) [0, 255] = false) (hi : i < s.size) (h4 : (((bytesOf s).getD i 0).toNat : Int) = 0) : unesc 0 (bytesOf s) = .bad 4 := by
  rw [bytesOf_sfrom] at h1 h3
  refine un_form hk h1 (fun e => ?_) h3 (by rw [bytesOf_length]; exact hi) (byte_no h4 (by decide))
  have : strEq (sfrom s i) ⟨#[0]⟩ = true := strEq_list.2 (by rw [bytesOf_sfrom]; exact e)
  rw [h2] at this; cases this
theorem w_byte (hk : UnH s d i) (hi : i < s.size) (h4 : ¬ (((bytesOf s).getD i 0).toNat : Int) = 0) :
    (bytesOf s).getD i 0 ≠ 0 ∧ (d.length = 2000 → unesc 0 (bytesOf s) = .bad 4) ∧ (d.length ≠ 2000 → UnH s (d ++ [(bytesOf s).getD i 0]) (i + 1)) := by
  have hn : (bytesOf s).getD i 0 ≠ 0 := fun e => h4 (by rw [e]; rfl)
  exact ⟨hn, un_byte hk (by rw [bytesOf_length]; exact hi) hn⟩
theorem w_none (hk : UnH s d i) (hi : s.size ≤ i) : unesc 0 (bytesOf s) = .bad 3 := un_none hk (by rw [bytesOf_length]; exact hi)
theorem w_start : UnH s [] 0 := by unfold UnH; rw [UR.pre_nil, List.drop_zero]; rfl
theorem bad_res {z : UR} {e : Int} (h : z = .bad e) : z.d = [] ∧ z.n = 0 ∧ z.e = e := by subst h; exact ⟨rfl, rfl, rfl⟩
end
attribute [local irreducible] bytesOf strOf strEq strLt sfrom unesc UR.pre numOf
end Go.Proofs.YtajmmolfnjdanaaGreatDoor
namespace Go.Proofs.YtajmmolfnjdanaaGreatDoor
open Go.RowKit
set_option linter.unusedSimpArgs false
set_option linter.unusedVariables false
abbrev valv (k n : Int) (s : ByteArray) : List Value := [.int .i64 k, .int .i64 n, .string s]
def eqVal (k n : Int) (s : ByteArray) (k' n' : Int) (s' : ByteArray) : Bool := (decide (k = k') && decide (n = n')) && strEq s s'
theorem eqVal_iff {k n k' n' : Int} {s s' : ByteArray} : eqVal k n s k' n' s' = true ↔ k = k' ∧ n = n' ∧ s = s' := by
  simp [eqVal, strEq_eq, and_assoc]
theorem eqIn_val (j : Nat) (k n : Int) (s : ByteArray) (k' n' : Int) (s' : ByteArray) (w : World) : (Op.equalIn (j + 2) 43 (.agg (valv k n s).toArray) (.agg (valv k' n' s').toArray)).run Tryz.prog w = .ok (eqVal k n s k' n' s') w := by
  rw [run_equalIn_struct w (j + 1) 43 _ _ (by kernel_rfl) Tryz.stoodInHeld43]
  simp [Op.eqFields, go_sem, eqVal, strEq, bytesOf, ByteArray.toList_eq, valv]
  (repeat' split) <;> simp_all
theorem ob_val (k n : Int) (s : ByteArray) (k' n' : Int) (s' : ByteArray) : EqOb Tryz.prog 43 (.agg (valv k n s).toArray) (.agg (valv k' n' s').toArray) (eqVal k n s k' n' s') where
  fx := rfl
  fy := rfl
  eql w x y := by
    unfold binRun
    rw [Sem.run_bind, run_eqGuard_agg (hm := Tryz.eqGuardType43), Result.andThen_ok, run_eql_struct, eqIn_val 9998]; rfl
  neq w x y := by
    unfold binRun
    rw [Sem.run_bind, run_eqGuard_agg (hm := Tryz.eqGuardType43), Result.andThen_ok, run_neq_struct, eqIn_val 9998]; rfl
theorem strEq_none {d : ByteArray} : strEq d ⟨#[]⟩ = true ↔ d.size = 0 := by
  rw [strEq_eq]
  constructor
  · rintro rfl; rfl
  · intro h; rw [← bytesOf_inj]; exact List.eq_nil_of_length_eq_zero (by rw [bytesOf_length]; exact h)
attribute [local irreducible] bytesOf strOf strEq strLt sfrom eqVal cmpI cmpS orI cmpV
set_option maxRecDepth 100000 in
theorem vgood_c (k n : Int) (s : ByteArray) :
    CallOb Tryz.prog 33 [.agg (valv k n s).toArray] [] 0 (fun v hh m => ∃ z : Bool, (z = true ↔ OkV (k, n, s)) ∧ v = .bool z ∧ hh = [] ∧ m = 0) := by
  refine call_spec tabOk mixed Tryz.call33 Tryz.func33 rfl [] (fun z : Bool => z = true ↔ OkV (k, n, s)) (fun z => .bool z) (fun _ => []) (fun _ => 0) ?_ ?_
  · exact (Nat.le_of_ble_eq_true rfl)
  (repeat' ((try (conv => whnf)); first | (guard_target =~ ∃ (_ : Value), ∃ (_ : HP), ∃ (_ : HP), _; refine ⟨_, _, _, (by refine ⟨?_, ?_, ?_⟩; (first | apply rR_tuple | apply rR_one rfl | exact rfl); all_goals (repeat' (first | (with_reducible (first | exact relH_nil | apply rn_lst | apply rn_own | apply rn_mp | apply rn_row | exact wo_nil)) | apply wo_keep rfl | apply wo_drop rfl | exact relH_nil | exact r1_flat rfl | exact r0_flat rfl | exact rl_nil | exact wo_nil | exact bk_old rfl | exact bk_new rfl | exact bk_nil rfl | apply rl_cons | (fail) | exact relL_flat (flat_map (fun _ => rfl) _) | exact relL_flat flat_nil | apply relL_to | apply rn_lst | apply rn_own | apply rn_mp | apply rn_row | apply relH_view rfl | apply relH_lview rfl | apply wo_keep rfl | apply wo_drop rfl | apply r1_agg | apply rn_ptr | apply rn_slice | apply rn_iface | apply rn_map | apply rn_ifacem | apply r0_map | apply r0_ifacem | apply r0_ptr | apply r0_slice | apply r0_iface)); (first | done | fail)), ?_⟩; (try (dsimp only [Nat.reduceAdd, List.cons_append, List.nil_append]))) | (guard_target =~ ∃ b, EqOb _ _ _ _ b ∧ _; refine ⟨_, ob_val _ _ _ _ _ _, ?_⟩) | (with_reducible refine chk_in (Nat.ble_eq_true_of_le (by omega)) ?_) | (with_reducible refine ifB_in ?_ ?_ <;> intro hb <;> (try simp only [decide_eq_true_eq, decide_eq_false_iff_not, Int.not_lt, Int.not_le, ne_eq, Decidable.not_not, Bool.not_eq_true', Bool.not_eq_false', gt_iff_lt, ge_iff_le] at hb) <;> (try (exfalso; omega))) | (with_reducible refine ⟨_, w64b _, ?_⟩) | (with_reducible refine ⟨_, w64 (by omega) (by omega), ?_⟩) | (with_reducible refine ⟨_, wu64 (by omega) (by omega), ?_⟩) | (with_reducible refine ⟨_, wu8 (by omega) (by omega), ?_⟩) | (with_reducible refine ⟨_, w64 (by (simp only [size_sfrom, ByteArray.size_extract, ByteArray.size_append, strOf_size, fixedL_length, lit_size, List.size_toArray, List.length_cons, List.length_nil, List.length_append, List.length_replicate]; omega)) (by (simp only [size_sfrom, ByteArray.size_extract, ByteArray.size_append, strOf_size, fixedL_length, lit_size, List.size_toArray, List.length_cons, List.length_nil, List.length_append, List.length_replicate]; omega)), ?_⟩) | (with_reducible refine ⟨_, rfl, ?_⟩) | (with_reducible refine ⟨rfl, ?_⟩) | (intro cap) | (with_reducible refine ⟨trivial, ?_⟩) | (guard_target =~ (planChk _ _ = true) ∧ _; refine ⟨by kernel_rfl, ?_⟩) | (guard_target =~ (_ ∧ _) ∧ _; refine ⟨by ((repeat (first | exact trivial | refine ⟨rfl, ?_⟩)); (first | done | fail)), ?_⟩) | (refine ⟨by omega, ?_⟩) | (refine ⟨by (simp only [size_sfrom, ByteArray.size_extract, ByteArray.size_append, strOf_size, fixedL_length, lit_size, List.size_toArray, List.length_cons, List.length_nil, List.length_append, List.length_replicate]; omega), ?_⟩) | (refine ⟨0, rfl, ?_⟩) | (refine ⟨1, rfl, ?_⟩) | (refine ⟨2, rfl, ?_⟩) | (refine ⟨3, rfl, ?_⟩) | (refine ⟨4, rfl, ?_⟩) | (refine ⟨5, rfl, ?_⟩) | (refine cell_at1 (by assumption) ?_) | (refine cell_in1 (by omega) (fun x hx => ?_)) | fail)) <;> (try (conv => whnf))
  all_goals
    (refine Ends.go (_) ?_ [] (Fit.q (by (repeat' (first | exact True.intro | (with_reducible exact rfl) | (guard_target =~ @Eq Nat _ _; first | exact rfl | omega) | (guard_target =~ List.map _ _ = []; exact rfl) | (first | exact congrArg (Value.int _) (by (try dsimp only); omega) | (guard_target =~ @Eq (List Value) _ _; exact rfl)) | (exact congrArg (Value.int _) (by omega)) | (exact covL_flat (flat_map (fun _ => rfl) _)) | (exact covL_flat flat_nil) | (refine covP_all ?_) | (refine covL_each ?_) | (refine ⟨?_, ?_⟩) | ((conv => whnf); (first | exact True.intro | (with_reducible exact rfl) | (guard_target =~ @Eq Nat _ _; first | exact rfl | omega) | (guard_target =~ List.map _ _ = []; exact rfl) | (first | exact congrArg (Value.int _) (by (try dsimp only); omega) | (guard_target =~ @Eq (List Value) _ _; exact rfl)) | (exact congrArg (Value.int _) (by omega)) | (exact covL_flat (flat_map (fun _ => rfl) _)) | (exact covL_flat flat_nil) | (refine covP_all ?_) | (refine covL_each ?_) | (refine ⟨?_, ?_⟩) | done)))); (first | done | fail)) (by rfl) (by rfl)))
    have e1 := @strEq_none s
    have e2 := @eqVal_iff k n 0 0 s ⟨#[]⟩
    unfold OkV
    dsimp only
    first
      | (rw [e2, ← strEq_eq, strEq_none]; omega)
      | (rw [e1]; omega)
      | (rw [decide_eq_true_eq]; omega)
      | exact iff_of_false (by decide) (by omega)
      | trace_state

theorem cmpI_lib (a b : Int) : Lib.compareInt a b = cmpI a b := by
  unfold Lib.compareInt cmpI; (repeat' split) <;> first | rfl | omega
theorem c_cmpint (a b : Int) (w : World) : Calls Tryz.prog 56 #[.int .i64 a, .int .i64 b] w fun e w' => e = .returned (.int .i64 (cmpI a b)) ∧ Below w.heap.size w w' := by
  have h := Tryz.cmp_Compare_int a b w
  rw [cmpI_lib] at h
  exact h.mono fun e w' ⟨h1, h2⟩ => ⟨h1, h2 ▸ Below.refl _ _⟩
theorem cmpB_lib (a b : List UInt8) : Lib.compareBytes a b = if a < b then -1 else if a = b then 0 else 1 := by
  induction a generalizing b with
  | nil =>
    cases b with
    | nil => rfl
    | cons y b => rw [if_pos (List.nil_lt_cons _ _)]; rfl
  | cons x a ih =>
    cases b with
    | nil => rw [if_neg (fun h => by cases h), if_neg (fun h => by cases h)]; rfl
    | cons y b =>
      show (if x < y then (-1 : Int) else if y < x then 1 else Lib.compareBytes a b) = _
      rw [ih]
      have irr : ¬ x < x := fun h => Nat.lt_irrefl _ (UInt8.lt_iff_toNat_lt.1 h)
      by_cases h1 : x < y
      · rw [if_pos h1, if_pos (List.cons_lt_cons_iff.2 (.inl h1))]
      · by_cases h2 : y < x
        · have n1 : ¬ (x :: a < y :: b) := fun h => by
            rcases List.cons_lt_cons_iff.1 h with h | ⟨h, _⟩
            · exact h1 h
            · rw [h] at h2; exact Nat.lt_irrefl _ (UInt8.lt_iff_toNat_lt.1 h2)
          have n2 : ¬ (x :: a = y :: b) := fun h => by
            injection h with h _; rw [h] at h2; exact Nat.lt_irrefl _ (UInt8.lt_iff_toNat_lt.1 h2)
          rw [if_neg h1, if_pos h2, if_neg n1, if_neg n2]
        · have e : x = y := UInt8.toNat_inj.1 (by rw [UInt8.lt_iff_toNat_lt] at h1 h2; omega)
          subst e
          rw [if_neg h1, if_neg h2]
          have e1 : (x :: a < x :: b) = (a < b) := propext ⟨fun h => by
            rcases List.cons_lt_cons_iff.1 h with h | ⟨_, h⟩
            · exact absurd h irr
            · exact h, fun h => List.cons_lt_cons_iff.2 (.inr ⟨rfl, h⟩)⟩
          have e2 : (x :: a = x :: b) = (a = b) := propext ⟨fun h => by injection h, fun h => by rw [h]⟩
          simp only [e1, e2]
theorem c_cmpstr (a b : ByteArray) (w : World) : Calls Tryz.prog 57 #[.string a, .string b] w fun e w' => e = .returned (.int .i64 (cmpS a b)) ∧ Below w.heap.size w w' := by
  have h := Tryz.strings_Compare a b w
  rw [cmpB_lib] at h
  have e : cmpS a b = if a.data.toList < b.data.toList then -1 else if a.data.toList = b.data.toList then 0 else 1 := by
    unfold cmpS
    have e1 : (strLt a b = true) = (a.data.toList < b.data.toList) := by have := propext (strLt_lt a b); unfold bytesOf at this; exact this
    have e2 : (strEq a b = true) = (a.data.toList = b.data.toList) := by have := propext ((strEq_eq a b).trans bytesOf_inj.symm); unfold bytesOf at this; exact this
    simp only [e1, e2]
  rw [e]
  exact h.mono fun e w' ⟨h1, h2⟩ => ⟨h1, h2 ▸ Below.refl _ _⟩
structure WO where
  i : Nat
theorem or3 (x y z : Int) : CallOb Tryz.prog 55 [mslice 0 3 3] [(0, .view [iv x, iv y, iv z])] 1 (fun v hh m => ∃ r : Int, r = orI x (orI y z) ∧ v = iv r ∧ hh = [] ∧ m = 1) := by
  refine call_spec tabOk mixed Tryz.call55 Tryz.func55 rfl [] (fun r : Int => r = orI x (orI y z)) (fun r => iv r) (fun _ => []) (fun _ => 1) ?_ ?_
  · exact (Nat.le_of_ble_eq_true rfl)
  (repeat' ((try (conv => whnf)); first | (guard_target =~ ∃ (_ : Value), ∃ (_ : HP), ∃ (_ : HP), _; refine ⟨_, _, _, (by refine ⟨?_, ?_, ?_⟩; (first | apply rR_tuple | apply rR_one rfl | exact rfl); all_goals (repeat' (first | (with_reducible (first | exact relH_nil | apply rn_lst | apply rn_own | apply rn_mp | apply rn_row | exact wo_nil)) | apply wo_keep rfl | apply wo_drop rfl | exact relH_nil | exact r1_flat rfl | exact r0_flat rfl | exact rl_nil | exact wo_nil | exact bk_old rfl | exact bk_new rfl | exact bk_nil rfl | apply rl_cons | (fail) | exact relL_flat (flat_map (fun _ => rfl) _) | exact relL_flat flat_nil | apply relL_to | apply rn_lst | apply rn_own | apply rn_mp | apply rn_row | apply relH_view rfl | apply relH_lview rfl | apply wo_keep rfl | apply wo_drop rfl | apply r1_agg | apply rn_ptr | apply rn_slice | apply rn_iface | apply rn_map | apply rn_ifacem | apply r0_map | apply r0_ifacem | apply r0_ptr | apply r0_slice | apply r0_iface)); (first | done | fail)), ?_⟩; (try (dsimp only [Nat.reduceAdd, List.cons_append, List.nil_append]))) | (guard_target =~ LoopOb _ _ _ _ _ _ _ _; with_reducible refine loop_fuel tabOk mixed [] 5 ?_) | (with_reducible refine chk_in (Nat.ble_eq_true_of_le (by omega)) ?_) | (with_reducible refine ifB_in ?_ ?_ <;> intro hb <;> (try simp only [decide_eq_true_eq, decide_eq_false_iff_not, Int.not_lt, Int.not_le, ne_eq, Decidable.not_not, Bool.not_eq_true', Bool.not_eq_false', gt_iff_lt, ge_iff_le] at hb) <;> (try (exfalso; omega))) | (with_reducible refine ⟨_, w64b _, ?_⟩) | (with_reducible refine ⟨_, w64 (by omega) (by omega), ?_⟩) | (with_reducible refine ⟨_, wu64 (by omega) (by omega), ?_⟩) | (with_reducible refine ⟨_, wu8 (by omega) (by omega), ?_⟩) | (with_reducible refine ⟨_, w64 (by (simp only [size_sfrom, ByteArray.size_extract, ByteArray.size_append, strOf_size, fixedL_length, lit_size, List.size_toArray, List.length_cons, List.length_nil, List.length_append, List.length_replicate]; omega)) (by (simp only [size_sfrom, ByteArray.size_extract, ByteArray.size_append, strOf_size, fixedL_length, lit_size, List.size_toArray, List.length_cons, List.length_nil, List.length_append, List.length_replicate]; omega)), ?_⟩) | (with_reducible refine ⟨_, rfl, ?_⟩) | (with_reducible refine ⟨rfl, ?_⟩) | (intro cap) | (with_reducible refine ⟨trivial, ?_⟩) | (guard_target =~ (planChk _ _ = true) ∧ _; refine ⟨by kernel_rfl, ?_⟩) | (guard_target =~ (_ ∧ _) ∧ _; refine ⟨by ((repeat (first | exact trivial | refine ⟨rfl, ?_⟩)); (first | done | fail)), ?_⟩) | (refine ⟨by omega, ?_⟩) | (refine ⟨by (simp only [size_sfrom, ByteArray.size_extract, ByteArray.size_append, strOf_size, fixedL_length, lit_size, List.size_toArray, List.length_cons, List.length_nil, List.length_append, List.length_replicate]; omega), ?_⟩) | (refine ⟨0, rfl, ?_⟩) | (refine ⟨1, rfl, ?_⟩) | (refine ⟨2, rfl, ?_⟩) | (refine ⟨3, rfl, ?_⟩) | (refine ⟨4, rfl, ?_⟩) | (refine ⟨5, rfl, ?_⟩) | (refine cell_at1 (by assumption) ?_) | (refine cell_in1 (by omega) (fun x hx => ?_)) | fail)) <;> (try (conv => whnf))
  all_goals ((refine Ends.go (_) ?_ [] (Fit.q (by (repeat' (first | exact True.intro | (with_reducible exact rfl) | (guard_target =~ @Eq Nat _ _; first | exact rfl | omega) | (guard_target =~ List.map _ _ = []; exact rfl) | (first | exact congrArg (Value.int _) (by (try dsimp only); omega) | (guard_target =~ @Eq (List Value) _ _; exact rfl)) | (exact congrArg (Value.int _) (by omega)) | (exact covL_flat (flat_map (fun _ => rfl) _)) | (exact covL_flat flat_nil) | (refine covP_all ?_) | (refine covL_each ?_) | (refine ⟨?_, ?_⟩) | ((conv => whnf); (first | exact True.intro | (with_reducible exact rfl) | (guard_target =~ @Eq Nat _ _; first | exact rfl | omega) | (guard_target =~ List.map _ _ = []; exact rfl) | (first | exact congrArg (Value.int _) (by (try dsimp only); omega) | (guard_target =~ @Eq (List Value) _ _; exact rfl)) | (exact congrArg (Value.int _) (by omega)) | (exact covL_flat (flat_map (fun _ => rfl) _)) | (exact covL_flat flat_nil) | (refine covP_all ?_) | (refine covL_each ?_) | (refine ⟨?_, ?_⟩) | done)))); (first | done | fail)) (by rfl) (by rfl))); unfold orI; (repeat' split) <;> omega)
set_option maxRecDepth 100000 in
set_option maxHeartbeats 4000000 in
theorem vcompare_c (k n : Int) (s : ByteArray) (k' n' : Int) (s' : ByteArray) :
    CallOb Tryz.prog 37 [.agg (valv k n s).toArray, .agg (valv k' n' s').toArray] [] 0 (fun v hh m => ∃ z : Int, ((OkV (k, n, s) → OkV (k', n', s') → z = cmpV (k, n, s) (k', n', s')) ∧ (¬ OkV (k, n, s) ∨ ¬ OkV (k', n', s') → z = 0)) ∧ v = iv z ∧ hh = [] ∧ m = 0) := by
  refine call_spec tabOk mixed Tryz.call37 Tryz.func37 rfl [(3, [(0, true), (1, true), (2, true), (3, true), (5, true), (6, true), (7, true), (8, true), (10, true), (11, true), (12, true), (13, true), (4, false), (9, false), (1014, false), (15, false), (1016, false), (17, true)])] (fun z : Int => (OkV (k, n, s) → OkV (k', n', s') → z = cmpV (k, n, s) (k', n', s')) ∧ (¬ OkV (k, n, s) ∨ ¬ OkV (k', n', s') → z = 0)) (fun z => iv z) (fun _ => []) (fun _ => 0) ?_ ?_
  · exact (Nat.le_of_ble_eq_true rfl)
  (repeat' ((try (conv => whnf)); first | (guard_target =~ ∃ (_ : Value), ∃ (_ : HP), ∃ (_ : HP), _; refine ⟨_, _, _, (by refine ⟨?_, ?_, ?_⟩; (first | apply rR_tuple | apply rR_one rfl | exact rfl); all_goals (repeat' (first | (with_reducible (first | exact relH_nil | apply rn_lst | apply rn_own | apply rn_mp | apply rn_row | exact wo_nil)) | apply wo_keep rfl | apply wo_drop rfl | exact relH_nil | exact r1_flat rfl | exact r0_flat rfl | exact rl_nil | exact wo_nil | exact bk_old rfl | exact bk_new rfl | exact bk_nil rfl | apply rl_cons | (fail) | exact relL_flat (flat_map (fun _ => rfl) _) | exact relL_flat flat_nil | apply relL_to | apply rn_lst | apply rn_own | apply rn_mp | apply rn_row | apply relH_view rfl | apply relH_lview rfl | apply wo_keep rfl | apply wo_drop rfl | apply r1_agg | apply rn_ptr | apply rn_slice | apply rn_iface | apply rn_map | apply rn_ifacem | apply r0_map | apply r0_ifacem | apply r0_ptr | apply r0_slice | apply r0_iface)); (first | done | fail)), ?_⟩; (try (dsimp only [Nat.reduceAdd, List.cons_append, List.nil_append]))) | ((guard_target =~ CallOb _ 33 _ _ _ _; refine call_q (vgood_c k n s) [] (by (repeat' (first | exact True.intro | (with_reducible exact rfl) | (guard_target =~ @Eq Nat _ _; first | exact rfl | omega) | (guard_target =~ List.map _ _ = []; exact rfl) | (first | exact congrArg (Value.int _) (by (try dsimp only); omega) | (guard_target =~ @Eq (List Value) _ _; exact rfl)) | (exact congrArg (Value.int _) (by omega)) | (exact covL_flat (flat_map (fun _ => rfl) _)) | (exact covL_flat flat_nil) | (refine covP_all ?_) | (refine covL_each ?_) | (refine ⟨?_, ?_⟩) | ((conv => whnf); (first | exact True.intro | (with_reducible exact rfl) | (guard_target =~ @Eq Nat _ _; first | exact rfl | omega) | (guard_target =~ List.map _ _ = []; exact rfl) | (first | exact congrArg (Value.int _) (by (try dsimp only); omega) | (guard_target =~ @Eq (List Value) _ _; exact rfl)) | (exact congrArg (Value.int _) (by omega)) | (exact covL_flat (flat_map (fun _ => rfl) _)) | (exact covL_flat flat_nil) | (refine covP_all ?_) | (refine covL_each ?_) | (refine ⟨?_, ?_⟩) | done)))); (first | done | fail)) (by rfl) (by rfl) (by rfl) (fun v h1 n1 hp => ?_); obtain ⟨g, hg, rfl, rfl, rfl⟩ := hp); (try (dsimp only [Nat.reduceAdd, List.cons_append, List.nil_append]))) | ((guard_target =~ CallOb _ 33 _ _ _ _; refine call_q (vgood_c k' n' s') [] (by (repeat' (first | exact True.intro | (with_reducible exact rfl) | (guard_target =~ @Eq Nat _ _; first | exact rfl | omega) | (guard_target =~ List.map _ _ = []; exact rfl) | (first | exact congrArg (Value.int _) (by (try dsimp only); omega) | (guard_target =~ @Eq (List Value) _ _; exact rfl)) | (exact congrArg (Value.int _) (by omega)) | (exact covL_flat (flat_map (fun _ => rfl) _)) | (exact covL_flat flat_nil) | (refine covP_all ?_) | (refine covL_each ?_) | (refine ⟨?_, ?_⟩) | ((conv => whnf); (first | exact True.intro | (with_reducible exact rfl) | (guard_target =~ @Eq Nat _ _; first | exact rfl | omega) | (guard_target =~ List.map _ _ = []; exact rfl) | (first | exact congrArg (Value.int _) (by (try dsimp only); omega) | (guard_target =~ @Eq (List Value) _ _; exact rfl)) | (exact congrArg (Value.int _) (by omega)) | (exact covL_flat (flat_map (fun _ => rfl) _)) | (exact covL_flat flat_nil) | (refine covP_all ?_) | (refine covL_each ?_) | (refine ⟨?_, ?_⟩) | done)))); (first | done | fail)) (by rfl) (by rfl) (by rfl) (fun v h1 n1 hp => ?_); obtain ⟨g', hg', rfl, rfl, rfl⟩ := hp); (try (dsimp only [Nat.reduceAdd, List.cons_append, List.nil_append]))) | (guard_target =~ CallOb _ 56 _ _ _ _; (with_reducible refine call_pure Tryz.call56 (c_cmpint k k') ?_ ?_ ?_); exact rfl; exact rfl) | (guard_target =~ CallOb _ 56 _ _ _ _; (with_reducible refine call_pure Tryz.call56 (c_cmpint n n') ?_ ?_ ?_); exact rfl; exact rfl) | (guard_target =~ CallOb _ 57 _ _ _ _; (with_reducible refine call_pure Tryz.call57 (c_cmpstr s s') ?_ ?_ ?_); exact rfl; exact rfl) | ((guard_target =~ CallOb _ 55 _ _ _ _; refine call_q (or3 (cmpI k k') (cmpI n n') (cmpS s s')) [(0, some _)] (by (repeat' (first | exact True.intro | (with_reducible exact rfl) | (guard_target =~ @Eq Nat _ _; first | exact rfl | omega) | (guard_target =~ List.map _ _ = []; exact rfl) | (first | exact congrArg (Value.int _) (by (try dsimp only); omega) | (guard_target =~ @Eq (List Value) _ _; exact rfl)) | (exact congrArg (Value.int _) (by omega)) | (exact covL_flat (flat_map (fun _ => rfl) _)) | (exact covL_flat flat_nil) | (refine covP_all ?_) | (refine covL_each ?_) | (refine ⟨?_, ?_⟩) | ((conv => whnf); (first | exact True.intro | (with_reducible exact rfl) | (guard_target =~ @Eq Nat _ _; first | exact rfl | omega) | (guard_target =~ List.map _ _ = []; exact rfl) | (first | exact congrArg (Value.int _) (by (try dsimp only); omega) | (guard_target =~ @Eq (List Value) _ _; exact rfl)) | (exact congrArg (Value.int _) (by omega)) | (exact covL_flat (flat_map (fun _ => rfl) _)) | (exact covL_flat flat_nil) | (refine covP_all ?_) | (refine covL_each ?_) | (refine ⟨?_, ?_⟩) | done)))); (first | done | fail)) (by rfl) (by rfl) (by rfl) (fun v h1 n1 hp => ?_); obtain ⟨r, hr, rfl, rfl, rfl⟩ := hp); (try (dsimp only [Nat.reduceAdd, List.cons_append, List.nil_append]))) | (with_reducible refine chk_in (Nat.ble_eq_true_of_le (by omega)) ?_) | (with_reducible refine ifB_in ?_ ?_ <;> intro hb <;> (try simp only [decide_eq_true_eq, decide_eq_false_iff_not, Int.not_lt, Int.not_le, ne_eq, Decidable.not_not, Bool.not_eq_true', Bool.not_eq_false', gt_iff_lt, ge_iff_le] at hb) <;> (try (exfalso; omega))) | (with_reducible refine ⟨_, w64b _, ?_⟩) | (with_reducible refine ⟨_, w64 (by omega) (by omega), ?_⟩) | (with_reducible refine ⟨_, wu64 (by omega) (by omega), ?_⟩) | (with_reducible refine ⟨_, wu8 (by omega) (by omega), ?_⟩) | (with_reducible refine ⟨_, w64 (by (simp only [size_sfrom, ByteArray.size_extract, ByteArray.size_append, strOf_size, fixedL_length, lit_size, List.size_toArray, List.length_cons, List.length_nil, List.length_append, List.length_replicate]; omega)) (by (simp only [size_sfrom, ByteArray.size_extract, ByteArray.size_append, strOf_size, fixedL_length, lit_size, List.size_toArray, List.length_cons, List.length_nil, List.length_append, List.length_replicate]; omega)), ?_⟩) | (with_reducible refine ⟨_, rfl, ?_⟩) | (with_reducible refine ⟨rfl, ?_⟩) | (intro cap) | (with_reducible refine ⟨trivial, ?_⟩) | (guard_target =~ (planChk _ _ = true) ∧ _; refine ⟨by kernel_rfl, ?_⟩) | (guard_target =~ (_ ∧ _) ∧ _; refine ⟨by ((repeat (first | exact trivial | refine ⟨rfl, ?_⟩)); (first | done | fail)), ?_⟩) | (refine ⟨by omega, ?_⟩) | (refine ⟨by (simp only [size_sfrom, ByteArray.size_extract, ByteArray.size_append, strOf_size, fixedL_length, lit_size, List.size_toArray, List.length_cons, List.length_nil, List.length_append, List.length_replicate]; omega), ?_⟩) | (refine ⟨0, rfl, ?_⟩) | (refine ⟨1, rfl, ?_⟩) | (refine ⟨2, rfl, ?_⟩) | (refine ⟨3, rfl, ?_⟩) | (refine ⟨4, rfl, ?_⟩) | (refine ⟨5, rfl, ?_⟩) | (refine cell_at1 (by assumption) ?_) | (refine cell_in1 (by omega) (fun x hx => ?_)) | fail)) <;> (try (conv => whnf))
  all_goals first
    | ((refine Ends.go ((0 : Int)) ?_ [] (Fit.q (by (repeat' (first | exact True.intro | (with_reducible exact rfl) | (guard_target =~ @Eq Nat _ _; first | exact rfl | omega) | (guard_target =~ List.map _ _ = []; exact rfl) | (first | exact congrArg (Value.int _) (by (try dsimp only); omega) | (guard_target =~ @Eq (List Value) _ _; exact rfl)) | (exact congrArg (Value.int _) (by omega)) | (exact covL_flat (flat_map (fun _ => rfl) _)) | (exact covL_flat flat_nil) | (refine covP_all ?_) | (refine covL_each ?_) | (refine ⟨?_, ?_⟩) | ((conv => whnf); (first | exact True.intro | (with_reducible exact rfl) | (guard_target =~ @Eq Nat _ _; first | exact rfl | omega) | (guard_target =~ List.map _ _ = []; exact rfl) | (first | exact congrArg (Value.int _) (by (try dsimp only); omega) | (guard_target =~ @Eq (List Value) _ _; exact rfl)) | (exact congrArg (Value.int _) (by omega)) | (exact covL_flat (flat_map (fun _ => rfl) _)) | (exact covL_flat flat_nil) | (refine covP_all ?_) | (refine covL_each ?_) | (refine ⟨?_, ?_⟩) | done)))); (first | done | fail)) (by rfl) (by rfl))); exact ⟨fun h => absurd (hg.2 h) (by rw [hb]; decide), fun _ => rfl⟩)
    | ((refine Ends.go ((0 : Int)) ?_ [] (Fit.q (by (repeat' (first | exact True.intro | (with_reducible exact rfl) | (guard_target =~ @Eq Nat _ _; first | exact rfl | omega) | (guard_target =~ List.map _ _ = []; exact rfl) | (first | exact congrArg (Value.int _) (by (try dsimp only); omega) | (guard_target =~ @Eq (List Value) _ _; exact rfl)) | (exact congrArg (Value.int _) (by omega)) | (exact covL_flat (flat_map (fun _ => rfl) _)) | (exact covL_flat flat_nil) | (refine covP_all ?_) | (refine covL_each ?_) | (refine ⟨?_, ?_⟩) | ((conv => whnf); (first | exact True.intro | (with_reducible exact rfl) | (guard_target =~ @Eq Nat _ _; first | exact rfl | omega) | (guard_target =~ List.map _ _ = []; exact rfl) | (first | exact congrArg (Value.int _) (by (try dsimp only); omega) | (guard_target =~ @Eq (List Value) _ _; exact rfl)) | (exact congrArg (Value.int _) (by omega)) | (exact covL_flat (flat_map (fun _ => rfl) _)) | (exact covL_flat flat_nil) | (refine covP_all ?_) | (refine covL_each ?_) | (refine ⟨?_, ?_⟩) | done)))); (first | done | fail)) (by rfl) (by rfl))); exact ⟨fun _ h => absurd (hg'.2 h) (by rw [hb]; decide), fun _ => rfl⟩)
    | ((refine Ends.go (r) ?_ [] (Fit.q (by (repeat' (first | exact True.intro | (with_reducible exact rfl) | (guard_target =~ @Eq Nat _ _; first | exact rfl | omega) | (guard_target =~ List.map _ _ = []; exact rfl) | (first | exact congrArg (Value.int _) (by (try dsimp only); omega) | (guard_target =~ @Eq (List Value) _ _; exact rfl)) | (exact congrArg (Value.int _) (by omega)) | (exact covL_flat (flat_map (fun _ => rfl) _)) | (exact covL_flat flat_nil) | (refine covP_all ?_) | (refine covL_each ?_) | (refine ⟨?_, ?_⟩) | ((conv => whnf); (first | exact True.intro | (with_reducible exact rfl) | (guard_target =~ @Eq Nat _ _; first | exact rfl | omega) | (guard_target =~ List.map _ _ = []; exact rfl) | (first | exact congrArg (Value.int _) (by (try dsimp only); omega) | (guard_target =~ @Eq (List Value) _ _; exact rfl)) | (exact congrArg (Value.int _) (by omega)) | (exact covL_flat (flat_map (fun _ => rfl) _)) | (exact covL_flat flat_nil) | (refine covP_all ?_) | (refine covL_each ?_) | (refine ⟨?_, ?_⟩) | done)))); (first | done | fail)) (by rfl) (by rfl))); refine ⟨fun _ _ => by rw [hr]; unfold cmpV; rfl, fun h => ?_⟩; rcases h with h | h; exact absurd (hg.1 ‹_›) h; exact absurd (hg'.1 ‹_›) h)
    | trace_state
end Go.Proofs.YtajmmolfnjdanaaGreatDoor
namespace Go.Proofs.YtajmmolfnjdanaaGreatDoor
open Go.RowKit
set_option linter.unusedSimpArgs false
set_option linter.unusedVariables false
theorem sign_back {N : Int} (h : 0 ≤ N ∧ N < 18446744073709551616) : IntKind.i64.wrap (IntKind.u64.wrap (N - 9223372036854775808)) = N - 9223372036854775808 := by
  have e1 : ∃ r : Int, IntKind.u64.wrap (N - 9223372036854775808) = N - 9223372036854775808 + r * 18446744073709551616 ∧ (r = 0 ∨ r = 1) := by
    rw [IntKind.wrap_u64]
    rcases Int.lt_or_le N 9223372036854775808 with h1 | h1
    · exact ⟨1, by omega, .inr rfl⟩
    · exact ⟨0, by omega, .inl rfl⟩
  obtain ⟨r, e, hr⟩ := e1
  rw [e]
  rcases hr with rfl | rfl
  · rw [Int.zero_mul, Int.add_zero]; exact (w64 (by omega) (by omega)).symm
  · rw [IntKind.wrap_i64]; omega
theorem num9 {s : ByteArray} (h : 9 ≤ s.size) : ((numOf (bytesOf (s.extract 1 9)) : Nat) : Int) < 18446744073709551616 := by
  have := numOf_lt (bytesOf (s.extract 1 9))
  rw [bytesOf_length, ByteArray.size_extract, show min 9 s.size - 1 = 8 by omega] at this
  have e : (256 : Nat) ^ 8 = 18446744073709551616 := by decide
  omega
theorem bytes_head {s : ByteArray} (h : 0 < s.size) : bytesOf s = (bytesOf s).getD 0 0 :: bytesOf (sfrom s 1) := by
  rw [bytesOf_sfrom]
  have := drop_getD (l := bytesOf s) (i := 0) (by rw [bytesOf_length]; exact h)
  rwa [List.drop_zero] at this
theorem UR.pre_le {d : List UInt8} {k : Nat} {z : UR} : (z.pre d k).n ≤ k + z.n := by
  unfold UR.pre; split
  · exact Nat.le_refl _
  · exact Nat.le_add_left _ _
theorem unesc_le (k : Nat) (l : List UInt8) : (unesc k l).n ≤ l.length := by
  fun_induction unesc k l
  all_goals first
    | exact Nat.zero_le _
    | (simp only [List.length_cons]; omega)
    | (refine Nat.le_trans UR.pre_le ?_; simp only [List.length_cons]; omega)
structure UnkD (s : ByteArray) (z : Int × Int × ByteArray × Int × Int) : Prop where
  k : z.1 = (unkey (bytesOf s)).k
  n : z.2.1 = (unkey (bytesOf s)).n
  d : z.2.2.1 = strOf (unkey (bytesOf s)).d
  m : z.2.2.2.1 = ((unkey (bytesOf s)).m : Nat)
  e : z.2.2.2.2 = (unkey (bytesOf s)).e
theorem UnkD.of {s : ByteArray} {z : Int × Int × ByteArray × Int × Int} {r : KR} (h : unkey (bytesOf s) = r) (h1 : z.1 = r.k) (h2 : z.2.1 = r.n) (h3 : z.2.2.1 = strOf r.d) (h4 : z.2.2.2.1 = (r.m : Nat)) (h5 : z.2.2.2.2 = r.e) : UnkD s z := by
  subst h; exact ⟨h1, h2, h3, h4, h5⟩
theorem str_none : (⟨#[]⟩ : ByteArray) = strOf [] := rfl
section
variable {s : ByteArray}
theorem k_none (h : strEq s ⟨#[]⟩ = true) : unkey (bytesOf s) = .bad 3 := by
  have := strEq_list (p := []).1 h
  rw [this]; rfl
theorem k_size (h : strEq s ⟨#[]⟩ = false) : 0 < s.size := by
  rcases Nat.eq_zero_or_pos s.size with e | e
  · have : strEq s ⟨#[]⟩ = true := strEq_list (p := []).2 (List.eq_nil_of_length_eq_zero (by rw [bytesOf_length]; exact e))
    rw [h] at this; cases this
  · exact e
theorem k_null (hs : 0 < s.size) (h : (((bytesOf s).getD 0 0).toNat : Int) = 0) : unkey (bytesOf s) = ⟨0, 0, [], 1, 0⟩ := by
  rw [bytes_head hs, byte_no h (by decide)]; rfl
theorem k_short (hs : 0 < s.size) (h : (((bytesOf s).getD 0 0).toNat : Int) = 1) (h9 : (s.size : Int) < 9) : unkey (bytesOf s) = .bad 3 := by
  have hl : (bytesOf s).length < 9 := by rw [bytesOf_length]; omega
  rw [bytes_head hs, byte_no h (by decide)] at hl ⊢
  unfold unkey; dsimp only; rw [if_neg (by decide), if_pos (by decide), if_pos hl]
theorem k_int (h9 : 9 ≤ s.size) (h : (((bytesOf s).getD 0 0).toNat : Int) = 1) : unkey (bytesOf s) = ⟨1, (numOf (bytesOf (s.extract 1 9)) : Nat) - 9223372036854775808, [], 9, 0⟩ := by
  have hl : ¬ (bytesOf s).length < 9 := by rw [bytesOf_length]; omega
  have e : bytesOf (s.extract 1 9) = ((bytesOf s).take 9).drop 1 := bytesOf_extract s 1 9
  rw [e]
  rw [bytes_head (by omega), byte_no h (by decide)] at hl ⊢
  unfold unkey; dsimp only; rw [if_neg (by decide), if_pos (by decide), if_neg hl]
theorem k_text (hs : 0 < s.size) (h : (((bytesOf s).getD 0 0).toNat : Int) = 2 ∨ (((bytesOf s).getD 0 0).toNat : Int) = 3) :
    unkey (bytesOf s) = if (unesc 0 (bytesOf (sfrom s 1))).e = 0 then ⟨(((bytesOf s).getD 0 0).toNat : Nat), 0, (unesc 0 (bytesOf (sfrom s 1))).d, (unesc 0 (bytesOf (sfrom s 1))).n + 1, 0⟩ else .bad (unesc 0 (bytesOf (sfrom s 1))).e := by
  rcases h with h | h
  · have e := byte_no h (by decide)
    have hb := bytes_head hs
    rw [e] at hb ⊢
    rw [hb]; rfl
  · have e := byte_no h (by decide)
    have hb := bytes_head hs
    rw [e] at hb ⊢
    rw [hb]; rfl
theorem k_else (hs : 0 < s.size) (h0 : ¬ (((bytesOf s).getD 0 0).toNat : Int) = 0) (h1 : ¬ (((bytesOf s).getD 0 0).toNat : Int) = 1) (h2 : ¬ (((bytesOf s).getD 0 0).toNat : Int) = 2) (h3 : ¬ (((bytesOf s).getD 0 0).toNat : Int) = 3) : unkey (bytesOf s) = .bad 4 := by
  rw [bytes_head hs]
  generalize (bytesOf s).getD 0 0 = a at *
  unfold unkey; dsimp only
  rw [if_neg (fun e => h0 (by rw [e]; rfl)), if_neg (fun e => h1 (by rw [e]; rfl)), if_neg (fun e => ?_)]
  rcases e with e | e
  · exact h2 (by rw [e]; rfl)
  · exact h3 (by rw [e]; rfl)
end
attribute [local irreducible] bytesOf strOf strEq strLt sfrom unesc unkey UR.pre numOf
end Go.Proofs.YtajmmolfnjdanaaGreatDoor
