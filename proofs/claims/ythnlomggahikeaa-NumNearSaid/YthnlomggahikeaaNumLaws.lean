/- The walks through the laws of the layer num. -/
import Derived.Test.YthnlomggahikeaaNumWalk
import Derived.Test.YthnlomggahikeaaPlan
namespace Go.Proofs.Ythnlomggahikeaa
open Go.RowKit
theorem awakeN_c {B : Nat} {w0 : World} (w : World) (hle : B ≤ w0.heap.size) (hB : Below B w0 w) :
    Calls Try.prog 16 #[] w fun e w' => e = .returned (.bool true) ∧ Below B w0 w' := by
  have e1 : unvar (bytesOf ⟨#[172, 2, 120]⟩) = (300, 2, 0) := by decide
  have e2 : unvar (bytesOf ⟨#[128, 0]⟩) = (0, 0, 4) := by decide
  have e3 : unvar (bytesOf ⟨#[128]⟩) = (0, 0, 3) := by decide
  have e4 : unfixed (bytesOf ⟨#[1, 2]⟩) = (258, 0) := by decide
  have e5 : strOf (fixedL 258 (wd 2)) = ⟨#[1, 2]⟩ := by decide
  have e6 : strOf (fixedL 258 (wd 1)) = ⟨#[2]⟩ := by decide
  have e7 : strOf (varL 128) = ⟨#[128, 1]⟩ := by decide
  have e8 : foldI (-1) = 1 := by decide
  have e9 : unfoldN 2 = 1 := by decide
  go_enter Try.func16, Try.ntmps16
  go_wp2_with (first
    | (go_at_call 25; refine (carry hle (by assumption) (unvar_any _ _ (by decide))).mono ?_; rintro e w' ⟨rfl, hB1⟩)
    | (go_at_call 27; refine (carry hle (by assumption) (unfixed_any _ _ (by decide))).mono ?_; rintro e w' ⟨rfl, hB1⟩)
    | (go_at_call 17; refine (carry hle (by assumption) (fixed_any 258 _ _ (by decide) (by decide))).mono ?_; rintro e w' ⟨rfl, hB1⟩)
    | (go_at_call 19; refine (carry hle (by assumption) (var_any 128 _ (by decide))).mono ?_; rintro e w' ⟨rfl, hB1⟩)
    | (go_at_call 21; refine (carry_same (by assumption) (fold_any _ _ (by decide) (by decide))).mono ?_; rintro e w' ⟨rfl, hB1⟩)
    | (go_at_call 23; refine (carry_same (by assumption) (unfold_any _ _ (by unfold U64; decide))).mono ?_; rintro e w' ⟨rfl, hB1⟩))
  go_ret
  exact ⟨rfl, by assumption⟩
theorem i64_of_wf {x : Int} (h : (Lit.int .i64 x).wf = true) : -9223372036854775808 ≤ x ∧ x ≤ 9223372036854775807 := bounds_i64 h
theorem wrap64_bd (x : Int) : -9223372036854775808 ≤ wrap64 x ∧ wrap64 x ≤ 9223372036854775807 := by unfold wrap64; omega

namespace numWrites
theorem walk (a0 a1 : Int) (w : World) (w0 : (Lit.int .u64 a0).wf = true) (w1 : (Lit.int .i64 a1).wf = true) :
    Calls Try.prog 7 #[.int .u64 a0, .int .i64 a1] w fun e w' => e = .returned (.bool true) ∧ Below w.heap.size w w' := by
  have hu := u64_of_wf w0
  have hi := i64_of_wf w1
  obtain ⟨n, rfl⟩ := Int.eq_ofNat_of_zero_le hu.1
  have hn := hu.nat
  rw [Int.toNat_natCast] at hn
  have hb := wrap64_bd n
  have hB := Below.refl w.heap.size w
  have hi1 := hi.1
  have hi2 := hi.2
  have hb1 := hb.1
  have hb2 := hb.2
  have HN := Lib.hid hn
  clear w0 w1 hi hb hn
  go_enter Try.func7, Try.ntmps7
  go_wp2_with (first
    | (go_at_call 16; refine (awakeN_c _ (Nat.le_refl _) (by assumption)).mono ?_; rintro e w' ⟨rfl, hB1⟩)
    | (go_at_call 17; refine (carry (Nat.le_refl _) (by assumption) (fixed_any _ _ _ hi1 hi2)).mono ?_; rintro e w' ⟨rfl, hB1⟩)
    | (go_at_call 18; refine (carry (Nat.le_refl _) (by assumption) (rfixed_any _ _ _ hi1 hi2)).mono ?_; rintro e w' ⟨rfl, hB1⟩)
    | (go_at_call 19; refine (carry (Nat.le_refl _) (by assumption) (var_any _ _ HN.out)).mono ?_; rintro e w' ⟨rfl, hB1⟩)
    | (go_at_call 20; refine (carry (Nat.le_refl _) (by assumption) (rvar_any _ _ HN.out)).mono ?_; rintro e w' ⟨rfl, hB1⟩)
    | (go_at_call 21; refine (carry_same (by assumption) (fold_any _ _ hb1 hb2)).mono ?_; rintro e w' ⟨rfl, hB1⟩)
    | (go_at_call 22; refine (carry_same (by assumption) (rfold_any _ _ hb1 hb2)).mono ?_; rintro e w' ⟨rfl, hB1⟩)
    | (go_at_call 23; refine (carry_same (by assumption) (unfold_any _ _ hu)).mono ?_; rintro e w' ⟨rfl, hB1⟩)
    | (go_at_call 24; refine (carry_same (by assumption) (runfold_any _ _ hu)).mono ?_; rintro e w' ⟨rfl, hB1⟩))
  go_ret
  exact ⟨rfl, by assumption⟩
end numWrites
namespace numReads
theorem walk (a0 : ByteArray) (w : World) (b0 : a0.size ≤ 140737488351232) :
    Calls Try.prog 8 #[.string a0] w fun e w' => e = .returned (.bool true) ∧ Below w.heap.size w w' := by
  have hB := Below.refl w.heap.size w
  go_enter Try.func8, Try.ntmps8
  go_wp2_with (first
    | (go_at_call 16; refine (awakeN_c _ (Nat.le_refl _) (by assumption)).mono ?_; rintro e w' ⟨rfl, hB1⟩)
    | (go_at_call 25; refine (carry (Nat.le_refl _) (by assumption) (unvar_any _ _ (by omega))).mono ?_; rintro e w' ⟨rfl, hB1⟩)
    | (go_at_call 26; refine (carry_same (by assumption) (runvar_any _ _ (by omega))).mono ?_; rintro e w' ⟨rfl, hB1⟩)
    | (go_at_call 27; refine (carry (Nat.le_refl _) (by assumption) (unfixed_any _ _ (by omega))).mono ?_; rintro e w' ⟨rfl, hB1⟩)
    | (go_at_call 28; refine (carry_same (by assumption) (runfixed_any _ _ (by omega))).mono ?_; rintro e w' ⟨rfl, hB1⟩))
  go_ret
  exact ⟨rfl, by assumption⟩
end numReads
namespace numBack
set_option maxHeartbeats 4000000 in
theorem walk (a0 : Int) (a1 : ByteArray) (w : World) (w0 : (Lit.int .u64 a0).wf = true) (b1 : a1.size ≤ 140737488351232) :
    Calls Try.prog 9 #[.int .u64 a0, .string a1] w fun e w' => e = .returned (.bool true) ∧ Below w.heap.size w w' := by
  have hu := u64_of_wf w0
  obtain ⟨n, rfl⟩ := Int.eq_ofNat_of_zero_le hu.1
  have hn := hu.nat
  rw [Int.toNat_natCast] at hn
  have hb := wrap64_bd n
  have hB := Below.refl w.heap.size w
  have hb1 := hb.1
  have hb2 := hb.2
  have HN := Lib.hid hn
  have q1 : unvar (bytesOf (strOf (varL n) ++ a1)) = (n, (varL n).length, 0) := by rw [bytesOf_append, bytesOf_strOf, unvar_varL hn]
  have q2 : (strOf (varL n)).size = (varL n).length := strOf_size _
  have q3 := varL_length n
  have q4 : unfixed (bytesOf (strOf (fixedL n (wd 8)))) = (n, 0) := by
    rw [bytesOf_strOf, unfixed_pos (by rw [fixedL_length]; decide) (by rw [fixedL_length]; decide)]
    exact congrArg (fun x => (x, 0)) (fixedL_eight hn)
  have q4s : (strOf (fixedL n (wd 8))).size = 8 := by rw [strOf_size, fixedL_length]; rfl
  have q5 : unfoldN (foldI (wrap64 n)) = wrap64 n := unfold_fold _
  have q6 : foldI (unfoldN n) = n := fold_unfold n
  have q7 : U64 ((foldI (wrap64 n) : Nat) : Int) := u64_nat (foldI_lt hb1 hb2)
  have q8 := unfoldN_bd hn
  have q8a := q8.1
  have q8b := q8.2
  have q3a := q3.1
  have q3b := q3.2
  clear w0 hb hn q8 q3
  obtain ⟨x, hx⟩ : ∃ x, wrap64 (n : Int) = x := ⟨_, rfl⟩
  rw [hx] at hb1 hb2 q5 q7
  generalize (varL n).length = len at *
  rcases hr : unvar (bytesOf a1) with ⟨b, m, e⟩
  have hok := @unvar_ok (bytesOf a1) b m
  have herr := @unvar_err (bytesOf a1) b m e
  by_cases he : e = 0
  · subst he
    obtain ⟨m1, m2, m3, m4⟩ := hok hr
    clear hok herr
    rw [bytesOf_length] at m2
    have m5 : strOf (varL b) = a1.extract 0 m := by
      rw [m3, ← bytesOf_inj, bytesOf_strOf, bytesOf_extract]; simp
    have M4 := Lib.hid m4
    clear m3 m4
    go_enter Try.func9, Try.ntmps9
    go_wp2_with (first
    | (go_at_call 16; refine (awakeN_c _ (Nat.le_refl _) (by assumption)).mono ?_; rintro e w' ⟨rfl, hB1⟩)
    | (go_at_call 25; refine (carry (Nat.le_refl _) (by assumption) (unvar_any _ _ (by first | omega | (simp [q2]; omega)))).mono ?_; rintro e w' ⟨rfl, hB1⟩)
    | (go_at_call 27; refine (carry (Nat.le_refl _) (by assumption) (unfixed_any _ _ (by omega))).mono ?_; rintro e w' ⟨rfl, hB1⟩)
    | (go_at_call 17; refine (carry (Nat.le_refl _) (by assumption) (fixed_any _ _ _ (by omega) (by omega))).mono ?_; rintro e w' ⟨rfl, hB1⟩)
    | (go_at_call 19; refine (carry (Nat.le_refl _) (by assumption) (var_any _ _ (by first | exact HN.out | exact M4.out))).mono ?_; rintro e w' ⟨rfl, hB1⟩)
    | (go_at_call 21; refine (carry_same (by assumption) (fold_any _ _ (by assumption) (by assumption))).mono ?_; rintro e w' ⟨rfl, hB1⟩)
    | (go_at_call 23; refine (carry_same (by assumption) (unfold_any _ _ (by assumption))).mono ?_; rintro e w' ⟨rfl, hB1⟩))
    have Q4 := Lib.hid q4
    have Q5 := Lib.hid q5
    have Q6 := Lib.hid q6
    clear q1 q2 q3a q3b q4 q5 q6
    have d1 : decide ((m : Int) < 1) = false := by simp; omega
    have d2 : decide (a1.size < m) = false := by simp; omega
    refine wp_region_plan (fun wz => Below w.heap.size w wz) [(0, true), (1, true), (2, true), (3, true), (4, true), (5, true), (6, true), (7, true), (8, true), (9, true), (10, true), (11, true), (12, true), (14, true), (15, true), (16, true), (13, false), (17, true), (18, true), (19, true), (20, true), (21, true), (22, true), (23, true), (24, true), (25, true), (26, true), (27, true), (28, true), (29, true), (30, true), (31, true)] (by kernel_rfl) (by kernel_rfl) (fun _ _ _ _ _ h => h) (Below.drew (by assumption)) ?_
    simp only [planOps, List.map_cons, List.map_nil, List.getD_cons_zero, List.getD_cons_succ]
    repeat (refine wpPlan_pure (fun K hK => ?_); first | (refine Or.inl ⟨rfl, ?_, fun wy hS => ?_, ?_⟩; rotate_left; (focus (go_simp; exact rfl)); go_simp; refine hK _ ?_; clear hK K) | (refine Or.inr ⟨rfl, ?_⟩; go_simp; refine hK _ ?_; clear hK K))
    refine wpPlan_lone (fun K hK => ?_)
    refine ⟨rfl, ?_⟩
    go_simp
    refine (var_any _ _ M4.out).mono ?_
    rintro e w4 ⟨rfl, hB4⟩
    go_simp
    refine hK _ _ (below_chain (Below.drew (by assumption)) hB4 (Nat.le_refl _)) ?_
    clear hK K
    repeat (refine wpPlan_pure (fun K hK => ?_); first | (refine Or.inl ⟨rfl, ?_, fun wy hS => ?_, ?_⟩; rotate_left; (focus (go_simp; exact rfl)); go_simp; refine hK _ ?_; clear hK K) | (refine Or.inr ⟨rfl, ?_⟩; go_simp; refine hK _ ?_; clear hK K))
    refine wpPlan_nil ?_
    replace q4 := Q4.out
    have hB5 := below_chain (Below.drew (by assumption)) hB4 (Nat.le_refl _)
    go_wp2_with fail
    refine (carry (Nat.le_refl _) hB5 (fixed_any _ _ _ (by decide) (by decide))).mono ?_; rintro e w6 ⟨rfl, hB6⟩
    go_wp2_with fail
    refine (carry (Nat.le_refl _) hB6 (unfixed_any _ _ (by omega))).mono ?_; rintro e w7 ⟨rfl, hB7⟩
    go_wp2_with fail
    refine (carry_same hB7 (fold_any _ _ hb1 hb2)).mono ?_; rintro e w8 ⟨rfl, hB8⟩
    go_wp2_with fail
    replace q5 := Q5.out
    refine (carry_same hB8 (unfold_any _ _ q7)).mono ?_; rintro e w9 ⟨rfl, hB9⟩
    go_wp2_with fail
    refine (carry_same hB9 (unfold_any _ _ hu)).mono ?_; rintro e w10 ⟨rfl, hB10⟩
    go_wp2_with fail
    replace q6 := Q6.out
    refine (carry_same hB10 (fold_any _ _ q8a q8b)).mono ?_; rintro e w11 ⟨rfl, hB11⟩
    go_wp2_with fail
    go_ret
    exact ⟨rfl, hB11⟩
  · obtain ⟨rfl, rfl, h3⟩ := herr hr he
    clear hok herr he
    rcases h3 with rfl | rfl
    all_goals
      go_enter Try.func9, Try.ntmps9
      go_wp2_with (first
      | (go_at_call 16; refine (awakeN_c _ (Nat.le_refl _) (by assumption)).mono ?_; rintro e w' ⟨rfl, hB1⟩)
      | (go_at_call 25; refine (carry (Nat.le_refl _) (by assumption) (unvar_any _ _ (by first | omega | (simp [q2]; omega)))).mono ?_; rintro e w' ⟨rfl, hB1⟩)
      | (go_at_call 27; refine (carry (Nat.le_refl _) (by assumption) (unfixed_any _ _ (by omega))).mono ?_; rintro e w' ⟨rfl, hB1⟩)
      | (go_at_call 17; refine (carry (Nat.le_refl _) (by assumption) (fixed_any _ _ _ (by omega) (by omega))).mono ?_; rintro e w' ⟨rfl, hB1⟩)
      | (go_at_call 19; refine (carry (Nat.le_refl _) (by assumption) (var_any _ _ HN.out)).mono ?_; rintro e w' ⟨rfl, hB1⟩)
      | (go_at_call 21; refine (carry_same (by assumption) (fold_any _ _ (by assumption) (by assumption))).mono ?_; rintro e w' ⟨rfl, hB1⟩)
      | (go_at_call 23; refine (carry_same (by assumption) (unfold_any _ _ (by assumption))).mono ?_; rintro e w' ⟨rfl, hB1⟩))
      have Q4 := Lib.hid q4
      have Q5 := Lib.hid q5
      have Q6 := Lib.hid q6
      clear q1 q2 q3a q3b q4 q5 q6
      refine wp_region_plan (fun wz => Below w.heap.size w wz) [(0, true), (1, true), (2, true), (3, true), (4, true), (5, true), (6, true), (7, true), (8, true), (9, true), (10, true), (11, true), (12, true), (14, true), (15, true), (16, true), (13, false), (17, true), (18, true), (19, true), (20, true), (21, true), (22, true), (23, true), (24, true), (25, true), (26, true), (27, true), (28, true), (29, true), (30, true), (31, true)] (by kernel_rfl) (by kernel_rfl) (fun _ _ _ _ _ h => h) (Below.drew (by assumption)) ?_
      simp only [planOps, List.map_cons, List.map_nil, List.getD_cons_zero, List.getD_cons_succ]
      repeat (refine wpPlan_pure (fun K hK => ?_); first | (refine Or.inl ⟨rfl, ?_, fun wy hS => ?_, ?_⟩; rotate_left; (focus (go_simp; exact rfl)); go_simp; refine hK _ ?_; clear hK K) | (refine Or.inr ⟨rfl, ?_⟩; go_simp; refine hK _ ?_; clear hK K))
      refine wpPlan_nil ?_
      replace q4 := Q4.out
      have hB5 : Below w.heap.size w (World.drew _) := Below.drew (by assumption)
      go_wp2_with fail
      refine (carry (Nat.le_refl _) hB5 (fixed_any _ _ _ (by decide) (by decide))).mono ?_; rintro e w6 ⟨rfl, hB6⟩
      go_wp2_with fail
      refine (carry (Nat.le_refl _) hB6 (unfixed_any _ _ (by omega))).mono ?_; rintro e w7 ⟨rfl, hB7⟩
      go_wp2_with fail
      refine (carry_same hB7 (fold_any _ _ hb1 hb2)).mono ?_; rintro e w8 ⟨rfl, hB8⟩
      go_wp2_with fail
      replace q5 := Q5.out
      refine (carry_same hB8 (unfold_any _ _ q7)).mono ?_; rintro e w9 ⟨rfl, hB9⟩
      go_wp2_with fail
      refine (carry_same hB9 (unfold_any _ _ hu)).mono ?_; rintro e w10 ⟨rfl, hB10⟩
      go_wp2_with fail
      replace q6 := Q6.out
      refine (carry_same hB10 (fold_any _ _ q8a q8b)).mono ?_; rintro e w11 ⟨rfl, hB11⟩
      go_wp2_with fail
      go_ret
      exact ⟨rfl, hB11⟩
end numBack

theorem toList_bytesOf (s : ByteArray) : s.toList = bytesOf s := ByteArray.toList_eq ..
namespace numOrder
theorem walk (a0 a1 : Int) (w : World) (w0 : (Lit.int .u64 a0).wf = true) (w1 : (Lit.int .u64 a1).wf = true) :
    Calls Try.prog 10 #[.int .u64 a0, .int .u64 a1] w fun e w' => e = .returned (.bool true) ∧ Below w.heap.size w w' := by
  have hu := u64_of_wf w0
  have hv := u64_of_wf w1
  obtain ⟨a, rfl⟩ := Int.eq_ofNat_of_zero_le hu.1
  obtain ⟨b, rfl⟩ := Int.eq_ofNat_of_zero_le hv.1
  have ha := hu.nat
  have hb := hv.nat
  rw [Int.toNat_natCast] at ha hb
  have hB := Below.refl w.heap.size w
  have s1 : (strOf (fixedL a (wd 8))).size = 8 := by rw [strOf_size, fixedL_length]; rfl
  have s2 := strOf_size (varL a)
  have s3 := strOf_size (varL b)
  have hl : Op.bytesLess (strOf (fixedL a (wd 8))).toList (strOf (fixedL b (wd 8))).toList = decide (a < b) := by
    rw [toList_bytesOf, toList_bytesOf, bytesOf_strOf, bytesOf_strOf, fixedL_order]
    have e : (256 : Nat) ^ wd 8 = 18446744073709551616 := by decide
    rw [e, Nat.mod_eq_of_lt ha, Nat.mod_eq_of_lt hb]
  have hq : (!decide (a < b) == decide (a < b)) = false := by cases decide (a < b) <;> rfl
  have hm : a < b → (varL a).length ≤ (varL b).length := fun h => varL_mono (Nat.le_of_lt h)
  have HM := Lib.hid hm
  clear hm
  have HA := Lib.hid ha
  have HB := Lib.hid hb
  clear w0 w1 ha hb
  go_enter Try.func10, Try.ntmps10
  go_wp2_with (first
    | (go_at_call 16; refine (awakeN_c _ (Nat.le_refl _) (by assumption)).mono ?_; rintro e w' ⟨rfl, hB1⟩)
    | (go_at_call 17; refine (carry (Nat.le_refl _) (by assumption) (fixed_any _ _ _ (by decide) (by decide))).mono ?_; rintro e w' ⟨rfl, hB1⟩)
    | (go_at_call 19; refine (carry (Nat.le_refl _) (by assumption) (var_any _ _ (by first | exact HA.out | exact HB.out))).mono ?_; rintro e w' ⟨rfl, hB1⟩))
  all_goals go_ret
  · refine ⟨ret_bool ?_, by assumption⟩
    have := HM.out (by assumption)
    simp [this]
  · exact ⟨rfl, by assumption⟩
end numOrder
namespace numCut
theorem walk (a0 a1 : Int) (w : World) (w0 : (Lit.int .u64 a0).wf = true) (w1 : (Lit.int .i64 a1).wf = true) :
    Calls Try.prog 11 #[.int .u64 a0, .int .i64 a1] w fun e w' => e = .returned (.bool true) ∧ Below w.heap.size w w' := by
  have hu := u64_of_wf w0
  obtain ⟨n, rfl⟩ := Int.eq_ofNat_of_zero_le hu.1
  have hn := hu.nat
  rw [Int.toNat_natCast] at hn
  have hB := Below.refl w.heap.size w
  have hi := i64_of_wf w1
  have q3 := varL_length n
  have q3a := q3.1
  have q3b := q3.2
  have q2 : (strOf (varL n)).size = (varL n).length := strOf_size _
  have hx0 : 0 ≤ IntKind.u64.wrap a1 := IntKind.wrap_u64 a1 ▸ Int.emod_nonneg _ (by decide)
  have hk : ∃ k : Nat, k < (varL n).length ∧ wrap64 ((IntKind.u64.wrap a1).tmod ((varL n).length : Int)) = (k : Int) := by
    have h1 := Int.emod_nonneg (IntKind.u64.wrap a1) (show ((varL n).length : Int) ≠ 0 by omega)
    have h2 := Int.emod_lt_of_pos (IntKind.u64.wrap a1) (show (0 : Int) < ((varL n).length : Int) by omega)
    refine ⟨(IntKind.u64.wrap a1 % ((varL n).length : Int)).toNat, by omega, ?_⟩
    rw [Int.tmod_eq_emod_of_nonneg hx0, IntWalk.wrap64_in _ ⟨by omega, by omega⟩]
    omega
  obtain ⟨k, hk, hkw⟩ := hk
  have hr : unvar (bytesOf ((strOf (varL n)).extract 0 k)) = (0, 0, 3) := by
    rw [bytesOf_extract, bytesOf_strOf, List.drop_zero]; exact varL_cut hn hk
  have HN := Lib.hid hn
  clear w0 w1 hn q3 hx0
  generalize (varL n).length = len at *
  go_enter Try.func11, Try.ntmps11
  go_wp2_with (first
    | (go_at_call 16; refine (awakeN_c _ (Nat.le_refl _) (by assumption)).mono ?_; rintro e w' ⟨rfl, hB1⟩)
    | (go_at_call 19; refine (carry (Nat.le_refl _) (by assumption) (var_any _ _ HN.out)).mono ?_; rintro e w' ⟨rfl, hB1⟩))
  refine (carry (Nat.le_refl _) (by assumption) (unvar_any _ _ (by simp; omega))).mono ?_
  rintro e w' ⟨rfl, hB2⟩
  go_wp2_with fail
  go_ret
  exact ⟨rfl, by assumption⟩
end numCut

namespace numNear
theorem walk (a0 a1 : Int) (w : World) (w0 : (Lit.int .i64 a0).wf = true) (w1 : (Lit.int .i64 a1).wf = true) :
    Calls Try.prog 12 #[.int .i64 a0, .int .i64 a1] w fun e w' => e = .returned (.bool true) ∧ Below w.heap.size w w' := by
  have hi := i64_of_wf w0
  have hj := i64_of_wf w1
  have hB := Below.refl w.heap.size w
  have hi1 := hi.1
  have hi2 := hi.2
  have hj1 := hj.1
  have hj2 := hj.2
  have fa := foldI_lt hi1 hi2
  have fb := foldI_lt hj1 hj2
  have s2 : (strOf (varL (foldI a0))).size = (varL (foldI a0)).length := strOf_size _
  have s3 : (strOf (varL (foldI a1))).size = (varL (foldI a1)).length := strOf_size _
  have ho := @varL_one (foldI a0)
  have hf : foldI a0 < 128 ↔ -64 ≤ a0 ∧ a0 ≤ 63 := by unfold foldI; split <;> omega
  have hm : (0 ≤ a0 ∧ a0 ≤ a1 ∨ a0 < 0 ∧ a1 ≤ a0) → (varL (foldI a0)).length ≤ (varL (foldI a1)).length := fun h => varL_mono (by unfold foldI; split <;> split <;> omega)
  have h10 := varL_length (foldI a0)
  have h11 := varL_length (foldI a1)
  rw [hf] at ho
  have HM := Lib.hid hm
  have HO := Lib.hid ho
  have FA := Lib.hid fa
  have FB := Lib.hid fb
  have H0 := h10.2
  have H1 := h11.2
  clear hm ho hf fa fb w0 w1 hi hj h10 h11
  generalize (varL (foldI a0)).length = la at *
  generalize (varL (foldI a1)).length = lb at *
  by_cases c1 : -64 ≤ a0 <;> by_cases c2 : a0 ≤ 63
  all_goals
    have d1 : ((la : Int) == 1) = decide (-64 ≤ a0 ∧ a0 ≤ 63) := by
      rw [Bool.eq_iff_iff, beq_iff_eq, decide_eq_true_iff, ← HO.out]; omega
    simp only [c1, c2, and_true, and_false, decide_true, decide_false] at d1
    by_cases c3 : 0 ≤ a0 <;> by_cases c4 : a0 ≤ a1 <;> by_cases c5 : a1 ≤ a0
  all_goals
    try omega
  all_goals
    go_enter Try.func12, Try.ntmps12
    go_wp2_with (first
      | (go_at_call 16; refine (awakeN_c _ (Nat.le_refl _) (by assumption)).mono ?_; rintro e w' ⟨rfl, hB1⟩)
      | (go_at_call 21; refine (carry_same (by assumption) (fold_any _ _ (by assumption) (by assumption))).mono ?_; rintro e w' ⟨rfl, hB1⟩)
      | (go_at_call 19; refine (carry (Nat.le_refl _) (by assumption) (var_any _ _ (by first | exact FA.out | exact FB.out))).mono ?_; rintro e w' ⟨rfl, hB1⟩))
    go_ret
    refine ⟨ret_bool ?_, by assumption⟩
    first | rfl | (have := HM.out (by omega); simp [this])
end numNear
end Go.Proofs.Ythnlomggahikeaa
