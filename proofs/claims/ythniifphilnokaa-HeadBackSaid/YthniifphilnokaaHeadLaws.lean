/- The walks through the laws of the layer head. -/
import Derived.Test.YthniifphilnokaaHeadWalk
namespace Go.Proofs.Ythniifphilnokaa
open Go.RowKit
set_option linter.unusedSimpArgs false
set_option linter.unusedVariables false
attribute [local irreducible] numOf fixedL bytesOf strOf strEq strLt sfrom headFit padL headL fld isHead encE encS decE
def eqHead (m p t s r c m' p' t' s' r' c' : Int) : Bool := m == m' && (p == p' && (t == t' && (s == s' && (r == r' && c == c'))))
theorem eqHead_true {m p t s r c m' p' t' s' r' c' : Int} : eqHead m p t s r c m' p' t' s' r' c' = true ↔ m = m' ∧ p = p' ∧ t = t' ∧ s = s' ∧ r = r' ∧ c = c' := by simp [eqHead]
theorem eqIn_head (d : Nat) (m p t s r c m' p' t' s' r' c' : Int) (w : World) : (Op.equalIn (d + 2) 41 (headV m p t s r c) (headV m' p' t' s' r' c')).run Try.prog w = .ok (eqHead m p t s r c m' p' t' s' r' c') w := by
  rw [run_equalIn_struct w (d + 1) 41 _ _ (by kernel_rfl) Try.stoodInHeld41]
  simp [Op.eqFields, go_sem, eqHead]
  (repeat' split) <;> simp_all
theorem ob_head (m p t s r c m' p' t' s' r' c' : Int) : EqOb Try.prog 41 (headV m p t s r c) (headV m' p' t' s' r' c') (eqHead m p t s r c m' p' t' s' r' c') where
  fx := rfl
  fy := rfl
  eql w x y := by
    unfold binRun
    rw [Sem.run_bind, run_eqGuard_agg (hm := Try.eqGuardType41), Result.andThen_ok, run_eql_struct, eqIn_head 9998]; rfl
  neq w x y := by
    unfold binRun
    rw [Sem.run_bind, run_eqGuard_agg (hm := Try.eqGuardType41), Result.andThen_ok, run_neq_struct, eqIn_head 9998]; rfl
theorem enc_zero : encE 0 0 0 0 0 = 1 := by decide +kernel
theorem enc_one : encE 1 1 0 0 0 = 0 := by decide +kernel
theorem encS_one : encS 1 1 0 0 0 0 = strOf (headL 1 1 0 0 0 0) := by rw [encS, if_pos (by decide +kernel)]; rfl
theorem one_cut : strEq ((encS 1 1 0 0 0 0).extract 0 16) ⟨#[99, 97, 104, 105, 101, 114, 48, 49, 0, 0, 0, 1, 0, 0, 0, 1]⟩ = true := by decide +kernel
theorem one_size : (encS 1 1 0 0 0 0).size = 232 := by rw [encS_one, strOf_size, headL_length]
theorem dec_one : decV (encS 1 1 0 0 0 0) = headV 1 1 0 0 0 0 ∧ decE (encS 1 1 0 0 0 0) = 0 := by
  obtain ⟨h1, h2, h3, h4, h5, h6, h7⟩ := head_back (m := 1) (p := 1) (t := 0) (s := 0) (r := 0) (c := 0) (by decide +kernel) (by omega)
  have e : bytesOf (encS 1 1 0 0 0 0) = headL (Int.toNat 1) (Int.toNat 1) (Int.toNat 0) (Int.toNat 0) (Int.toNat 0) (Int.toNat 0) := by rw [encS_one, bytesOf_strOf]; rfl
  unfold decV decE
  rw [e, if_pos h1, if_pos h1, h2, h3, h4, h5, h6, h7]
  exact ⟨rfl, rfl⟩
theorem dec_x : decE ⟨#[120]⟩ = 1 := by decide +kernel
theorem decV_form (s : ByteArray) : ∃ m p t x r c : Int, decV s = headV m p t x r c ∧ 0 ≤ c := by
  unfold decV; split
  · exact ⟨_, _, _, _, _, _, rfl, by omega⟩
  · exact ⟨_, _, _, _, _, _, rfl, by omega⟩
set_option maxRecDepth 100000 in
set_option maxHeartbeats 4000000 in
theorem awakeH_c (w : World) : Calls Try.prog 19 #[] w fun e w' => e = .returned (.bool true) ∧ Below w.heap.size w w' := by
  obtain ⟨e0, he0⟩ : ∃ e : Int, e = 0 := ⟨0, rfl⟩
  obtain ⟨e1, he1⟩ : ∃ e : Int, e = 1 := ⟨1, rfl⟩
  obtain ⟨a, ha⟩ : ∃ a, a = encS 1 1 0 0 0 0 := ⟨_, rfl⟩
  obtain ⟨z, hz⟩ : ∃ a, a = encS 0 0 0 0 0 0 := ⟨_, rfl⟩
  obtain ⟨z1, z2, z3, z4, z5, z6, hv, _⟩ := decV_form ⟨#[120]⟩
  obtain ⟨m, p, t, x, r, c, hd, _⟩ := decV_form a
  have hE : ∀ w, Calls Try.prog 20 #[headV 1 1 0 0 0 0] w fun e w' => e = .returned (.tuple #[.string a, .int .i64 e0]) ∧ Below w.heap.size w w' := fun w => by
    have h := enc_c 1 1 0 0 0 0 (by omega) w; rw [enc_one] at h; rw [ha, he0]; exact h
  have hZ : ∀ w, Calls Try.prog 20 #[headV 0 0 0 0 0 0] w fun e w' => e = .returned (.tuple #[.string z, .int .i64 e1]) ∧ Below w.heap.size w w' := fun w => by
    have h := enc_c 0 0 0 0 0 0 (by omega) w; rw [enc_zero] at h; rw [hz, he1]; exact h
  have hD : ∀ w, Calls Try.prog 24 #[.string a] w fun e w' => e = .returned (.tuple #[headV m p t x r c, .int .i64 e0]) ∧ Below w.heap.size w w' := fun w => by
    have h := dec_c a (by rw [ha, one_size]; omega) w
    rw [hd, ha, dec_one.2] at h; rw [ha, he0]; exact h
  have hX : ∀ w, Calls Try.prog 24 #[.string ⟨#[120]⟩] w fun e w' => e = .returned (.tuple #[headV z1 z2 z3 z4 z5 z6, .int .i64 e1]) ∧ Below w.heap.size w w' := fun w => by
    have h := dec_c ⟨#[120]⟩ (by rw [lit_size]; decide) w
    rw [hv, dec_x] at h; rw [he1]; exact h
  have h1 := one_cut
  have h2 := one_size
  have h3 := dec_one.1
  rw [← ha] at h1 h2 h3
  have h4 : eqHead m p t x r c 1 1 0 0 0 0 = true := by
    rw [h3] at hd; unfold headV at hd; rw [eqHead_true]; simp at hd; omega
  clear ha hz hv hd h3
  refine calls_pure tabOk mixed Try.func19 rfl [] [] rfl (Nat.le_of_ble_eq_true rfl) rfl ?_ w
  (repeat' ((try (conv => whnf)); first | (guard_target =~ CallOb _ 22 _ _ _ _; (with_reducible refine call_pure Try.call22 (fresh_c) ?_ ?_ ?_); exact rfl; exact rfl) | (guard_target =~ CallOb _ 20 [.agg #[.int _ 1, _, _, _, _, _]] _ _ _; (with_reducible refine call_pure Try.call20 (hE) ?_ ?_ ?_); exact rfl; exact rfl) | (guard_target =~ CallOb _ 20 _ _ _ _; (with_reducible refine call_pure Try.call20 (hZ) ?_ ?_ ?_); exact rfl; exact rfl) | (guard_target =~ CallOb _ 24 [.string ⟨#[120]⟩] _ _ _; (with_reducible refine call_pure Try.call24 (hX) ?_ ?_ ?_); exact rfl; exact rfl) | (guard_target =~ CallOb _ 24 _ _ _ _; (with_reducible refine call_pure Try.call24 (hD) ?_ ?_ ?_); exact rfl; exact rfl) | (guard_target =~ ∃ b, EqOb _ _ _ _ b ∧ _; refine ⟨_, ob_head _ _ _ _ _ _ _ _ _ _ _ _, ?_⟩) | (with_reducible refine ifB_in ?_ ?_ <;> intro hb <;> (try simp only [decide_eq_true_eq, decide_eq_false_iff_not, Int.not_lt, Int.not_le, ne_eq, Decidable.not_not, Bool.not_eq_true', Bool.not_eq_false', gt_iff_lt, ge_iff_le] at hb) <;> (try (exfalso; omega))) | (with_reducible refine ⟨_, w64 (by omega) (by omega), ?_⟩) | (with_reducible refine ⟨_, wu64 (by omega) (by omega), ?_⟩) | (with_reducible refine ⟨_, wu8 (by omega) (by omega), ?_⟩) | (with_reducible refine ⟨_, w64 (by (simp only [size_sfrom, ByteArray.size_extract, ByteArray.size_append, strOf_size, fixedL_length, lit_size, List.size_toArray, List.length_cons, List.length_nil, List.length_append, List.length_replicate]; omega)) (by (simp only [size_sfrom, ByteArray.size_extract, ByteArray.size_append, strOf_size, fixedL_length, lit_size, List.size_toArray, List.length_cons, List.length_nil, List.length_append, List.length_replicate]; omega)), ?_⟩) | (with_reducible refine ⟨_, rfl, ?_⟩) | (with_reducible refine ⟨rfl, ?_⟩) | (with_reducible refine chk_in (Nat.ble_eq_true_of_le (by omega)) ?_) | (intro cap) | (with_reducible refine ⟨trivial, ?_⟩) | (guard_target =~ (planChk _ _ = true) ∧ _; refine ⟨by kernel_rfl, ?_⟩) | (guard_target =~ (_ ∧ _) ∧ _; refine ⟨by (repeat (first | exact trivial | refine ⟨rfl, ?_⟩)), ?_⟩) | (refine ⟨by omega, ?_⟩) | (refine ⟨by (simp only [size_sfrom, ByteArray.size_extract, ByteArray.size_append, strOf_size, fixedL_length, lit_size, List.size_toArray, List.length_cons, List.length_nil, List.length_append, List.length_replicate]; omega), ?_⟩) | (refine ⟨0, rfl, ?_⟩) | (refine ⟨1, rfl, ?_⟩) | (refine ⟨2, rfl, ?_⟩) | (refine ⟨3, rfl, ?_⟩) | (refine ⟨4, rfl, ?_⟩) | (refine ⟨5, rfl, ?_⟩) | fail)) <;> (try (conv => whnf))
  all_goals first | (rw [he1]; rfl) | (rw [h4] at hb; cases hb) | (rw [h1] at hb; cases hb)
theorem dec_all (s : ByteArray) (hs : s.size ≤ 140737488351232) : ∃ m p t x r c e : Int, (∀ w, Calls Try.prog 24 #[.string s] w fun o w' => o = .returned (.tuple #[headV m p t x r c, .int .i64 e]) ∧ Below w.heap.size w w') ∧
    (∀ w, Calls Try.prog 25 #[.string s] w fun o w' => o = .returned (.tuple #[headV m p t x r c, .int .i64 e]) ∧ Below w.heap.size w w') ∧ 0 ≤ c ∧ c < 18446744073709551616 ∧
    (e = 0 → headFit m p t x r = true ∧ encE m p t x r = 0 ∧ encS m p t x r c = s) ∧ (e ≠ 0 → eqHead m p t x r c 0 0 0 0 0 0 = true) ∧ decV s = headV m p t x r c ∧ decE s = e := by
  have h1 := fun w => dec_c s (by omega) w
  have h2 := fun w => rdec_c s (by omega) w
  by_cases h : isHead (bytesOf s) = true
  · have hv : decV s = headV (fld (bytesOf s) 8 4 : Nat) (fld (bytesOf s) 12 4 : Nat) (fld (bytesOf s) 16 4 : Nat) (fld (bytesOf s) 20 4 : Nat) (fld (bytesOf s) 24 4 : Nat) (fld (bytesOf s) 28 8 : Nat) := by unfold decV; rw [if_pos h]
    have he : decE s = 0 := by unfold decE; rw [if_pos h]
    rw [hv, he] at h1 h2
    refine ⟨_, _, _, _, _, _, _, h1, h2, by omega, by have := fld_lt8 (bytesOf s) 28; omega, fun _ => ?_, fun h => absurd rfl h, hv, he⟩
    have h' := h
    simp only [isHead, Bool.and_eq_true, decide_eq_true_eq] at h'
    obtain ⟨_, hf, h3⟩ := h'
    refine ⟨hf, by unfold encE; rw [if_pos hf], by rw [encS_nat, if_pos hf, h3, strOf_bytesOf]⟩
  · have hv : decV s = headV 0 0 0 0 0 0 := by unfold decV; rw [if_neg h]
    have he : decE s ≠ 0 := by unfold decE; rw [if_neg h]; split <;> decide
    rw [hv] at h1 h2
    exact ⟨_, _, _, _, _, _, _, h1, h2, by omega, by omega, fun e => absurd e he, fun _ => by rw [eqHead_true]; simp, hv, rfl⟩
theorem enc_all (m p t x r c : Int) (h0 : 0 ≤ c) (hc : c < 18446744073709551616) : ∃ (a : ByteArray) (e : Int), (∀ w, Calls Try.prog 20 #[headV m p t x r c] w fun o w' => o = .returned (.tuple #[.string a, .int .i64 e]) ∧ Below w.heap.size w w') ∧
    (∀ w, Calls Try.prog 21 #[headV m p t x r c] w fun o w' => o = .returned (.tuple #[.string a, .int .i64 e]) ∧ Below w.heap.size w w') ∧
    (e = 0 → a.size = 232 ∧ decV a = headV m p t x r c ∧ decE a = 0) ∧ (e ≠ 0 → a = ⟨#[]⟩) ∧ encS m p t x r c = a ∧ encE m p t x r = e := by
  refine ⟨_, _, fun w => enc_c m p t x r c h0 w, fun w => renc_c m p t x r c h0 w, fun h => ?_, fun h => ?_, rfl, rfl⟩
  · have hf : headFit m p t x r = true := by
      unfold encE at h; split at h
      · assumption
      · cases h
    obtain ⟨h1, h2, h3, h4, h5, h6, h7⟩ := head_back hf ⟨h0, hc⟩
    have e : encS m p t x r c = strOf (headL m.toNat p.toNat t.toNat x.toNat r.toNat c.toNat) := by unfold encS; rw [if_pos hf]
    refine ⟨by rw [e, strOf_size, headL_length], ?_, ?_⟩
    · rw [e]; unfold decV; rw [bytesOf_strOf, if_pos h1, h2, h3, h4, h5, h6, h7]
    · rw [e]; unfold decE; rw [bytesOf_strOf, if_pos h1]
  · unfold encE at h; unfold encS; split at h
    · exact absurd rfl h
    · rw [if_neg (by assumption)]
theorem headV_inj {m p t x r c m' p' t' x' r' c' : Int} (h : headV m p t x r c = headV m' p' t' x' r' c') : eqHead m p t x r c m' p' t' x' r' c' = true := by
  unfold headV at h; rw [eqHead_true]; simp at h; omega
theorem eqHead_self (m p t x r c : Int) : eqHead m p t x r c m p t x r c = true := by rw [eqHead_true]; simp
theorem strEq_self (a : ByteArray) : strEq a a = true := by rw [strEq_true]
theorem fresh_all : ∃ m p t x r c : Int, (∀ w, Calls Try.prog 22 #[] w fun o w' => o = .returned (headV m p t x r c) ∧ Below w.heap.size w w') ∧
    (∀ w, Calls Try.prog 23 #[] w fun o w' => o = .returned (headV m p t x r c) ∧ Below w.heap.size w w') := ⟨_, _, _, _, _, _, fresh_c, rfresh_c⟩
namespace headWrites
set_option maxRecDepth 100000 in
set_option maxHeartbeats 4000000 in
theorem walk (m p t x r c : Int) (w : World) (_w0 : (Lit.int .i64 m).wf = true) (_w1 : (Lit.int .i64 p).wf = true) (_w2 : (Lit.int .i64 t).wf = true) (_w3 : (Lit.int .i64 x).wf = true) (_w4 : (Lit.int .i64 r).wf = true) (w5 : (Lit.int .u64 c).wf = true) :
    Calls Try.prog 7 #[.agg #[.int .i64 m, .int .i64 p, .int .i64 t, .int .i64 x, .int .i64 r, .int .u64 c]] w fun e w' => e = .returned (.bool true) ∧ Below w.heap.size w w' := by
  have hc := u64_of_wf w5
  obtain ⟨a, e, hE, hR, _⟩ := enc_all m p t x r c hc.1 hc.2
  obtain ⟨m0, p0, t0, x0, r0, c0, hF, hG⟩ := fresh_all
  have h1 := eqHead_self m0 p0 t0 x0 r0 c0
  have h2 := strEq_self a
  refine calls_pure tabOk mixed Try.func7 rfl [] [headV m p t x r c] rfl (Nat.le_of_ble_eq_true rfl) rfl ?_ w
  (repeat' ((try (conv => whnf)); first | (guard_target =~ CallOb _ 19 _ _ _ _; (with_reducible refine call_pure Try.call19 (awakeH_c) ?_ ?_ ?_); exact rfl; exact rfl) | (guard_target =~ CallOb _ 20 _ _ _ _; (with_reducible refine call_pure Try.call20 (hE) ?_ ?_ ?_); exact rfl; exact rfl) | (guard_target =~ CallOb _ 21 _ _ _ _; (with_reducible refine call_pure Try.call21 (hR) ?_ ?_ ?_); exact rfl; exact rfl) | (guard_target =~ CallOb _ 22 _ _ _ _; (with_reducible refine call_pure Try.call22 (hF) ?_ ?_ ?_); exact rfl; exact rfl) | (guard_target =~ CallOb _ 23 _ _ _ _; (with_reducible refine call_pure Try.call23 (hG) ?_ ?_ ?_); exact rfl; exact rfl) | (guard_target =~ ∃ b, EqOb _ _ _ _ b ∧ _; refine ⟨_, ob_head _ _ _ _ _ _ _ _ _ _ _ _, ?_⟩) | (with_reducible refine ifB_in ?_ ?_ <;> intro hb <;> (try simp only [decide_eq_true_eq, decide_eq_false_iff_not, Int.not_lt, Int.not_le, ne_eq, Decidable.not_not, Bool.not_eq_true', Bool.not_eq_false', gt_iff_lt, ge_iff_le] at hb) <;> (try (exfalso; omega))) | (with_reducible refine ⟨_, w64 (by omega) (by omega), ?_⟩) | (with_reducible refine ⟨_, wu64 (by omega) (by omega), ?_⟩) | (with_reducible refine ⟨_, wu8 (by omega) (by omega), ?_⟩) | (with_reducible refine ⟨_, w64 (by (simp only [size_sfrom, ByteArray.size_extract, ByteArray.size_append, strOf_size, fixedL_length, lit_size, List.size_toArray, List.length_cons, List.length_nil, List.length_append, List.length_replicate]; omega)) (by (simp only [size_sfrom, ByteArray.size_extract, ByteArray.size_append, strOf_size, fixedL_length, lit_size, List.size_toArray, List.length_cons, List.length_nil, List.length_append, List.length_replicate]; omega)), ?_⟩) | (with_reducible refine ⟨_, rfl, ?_⟩) | (with_reducible refine ⟨rfl, ?_⟩) | (with_reducible refine chk_in (Nat.ble_eq_true_of_le (by omega)) ?_) | (intro cap) | (with_reducible refine ⟨trivial, ?_⟩) | (guard_target =~ (planChk _ _ = true) ∧ _; refine ⟨by kernel_rfl, ?_⟩) | (guard_target =~ (_ ∧ _) ∧ _; refine ⟨by (repeat (first | exact trivial | refine ⟨rfl, ?_⟩)), ?_⟩) | (refine ⟨by omega, ?_⟩) | (refine ⟨by (simp only [size_sfrom, ByteArray.size_extract, ByteArray.size_append, strOf_size, fixedL_length, lit_size, List.size_toArray, List.length_cons, List.length_nil, List.length_append, List.length_replicate]; omega), ?_⟩) | (refine ⟨0, rfl, ?_⟩) | (refine ⟨1, rfl, ?_⟩) | (refine ⟨2, rfl, ?_⟩) | (refine ⟨3, rfl, ?_⟩) | (refine ⟨4, rfl, ?_⟩) | (refine ⟨5, rfl, ?_⟩) | fail)) <;> (try (conv => whnf))
  all_goals first | (rw [h1]; rfl) | exact absurd trivial hb | (rw [h2] at hb; exact Bool.noConfusion hb)
end headWrites
namespace headReads
set_option maxRecDepth 100000 in
set_option maxHeartbeats 4000000 in
theorem walk (s : ByteArray) (w : World) (b0 : s.size ≤ 140737488351232) :
    Calls Try.prog 8 #[.string s] w fun e w' => e = .returned (.bool true) ∧ Below w.heap.size w w' := by
  obtain ⟨m, p, t, x, r, c, e, hD, hR, _⟩ := dec_all s b0
  have h1 := eqHead_self m p t x r c
  refine calls_pure tabOk mixed Try.func8 rfl [] [.string s] rfl (Nat.le_of_ble_eq_true rfl) rfl ?_ w
  (repeat' ((try (conv => whnf)); first | (guard_target =~ CallOb _ 19 _ _ _ _; (with_reducible refine call_pure Try.call19 (awakeH_c) ?_ ?_ ?_); exact rfl; exact rfl) | (guard_target =~ CallOb _ 24 _ _ _ _; (with_reducible refine call_pure Try.call24 (hD) ?_ ?_ ?_); exact rfl; exact rfl) | (guard_target =~ CallOb _ 25 _ _ _ _; (with_reducible refine call_pure Try.call25 (hR) ?_ ?_ ?_); exact rfl; exact rfl) | (guard_target =~ ∃ b, EqOb _ _ _ _ b ∧ _; refine ⟨_, ob_head _ _ _ _ _ _ _ _ _ _ _ _, ?_⟩) | (with_reducible refine ifB_in ?_ ?_ <;> intro hb <;> (try simp only [decide_eq_true_eq, decide_eq_false_iff_not, Int.not_lt, Int.not_le, ne_eq, Decidable.not_not, Bool.not_eq_true', Bool.not_eq_false', gt_iff_lt, ge_iff_le] at hb) <;> (try (exfalso; omega))) | (with_reducible refine ⟨_, w64 (by omega) (by omega), ?_⟩) | (with_reducible refine ⟨_, wu64 (by omega) (by omega), ?_⟩) | (with_reducible refine ⟨_, wu8 (by omega) (by omega), ?_⟩) | (with_reducible refine ⟨_, w64 (by (simp only [size_sfrom, ByteArray.size_extract, ByteArray.size_append, strOf_size, fixedL_length, lit_size, List.size_toArray, List.length_cons, List.length_nil, List.length_append, List.length_replicate]; omega)) (by (simp only [size_sfrom, ByteArray.size_extract, ByteArray.size_append, strOf_size, fixedL_length, lit_size, List.size_toArray, List.length_cons, List.length_nil, List.length_append, List.length_replicate]; omega)), ?_⟩) | (with_reducible refine ⟨_, rfl, ?_⟩) | (with_reducible refine ⟨rfl, ?_⟩) | (with_reducible refine chk_in (Nat.ble_eq_true_of_le (by omega)) ?_) | (intro cap) | (with_reducible refine ⟨trivial, ?_⟩) | (guard_target =~ (planChk _ _ = true) ∧ _; refine ⟨by kernel_rfl, ?_⟩) | (guard_target =~ (_ ∧ _) ∧ _; refine ⟨by (repeat (first | exact trivial | refine ⟨rfl, ?_⟩)), ?_⟩) | (refine ⟨by omega, ?_⟩) | (refine ⟨by (simp only [size_sfrom, ByteArray.size_extract, ByteArray.size_append, strOf_size, fixedL_length, lit_size, List.size_toArray, List.length_cons, List.length_nil, List.length_append, List.length_replicate]; omega), ?_⟩) | (refine ⟨0, rfl, ?_⟩) | (refine ⟨1, rfl, ?_⟩) | (refine ⟨2, rfl, ?_⟩) | (refine ⟨3, rfl, ?_⟩) | (refine ⟨4, rfl, ?_⟩) | (refine ⟨5, rfl, ?_⟩) | fail)) <;> (try (conv => whnf))
  all_goals first | (rw [h1] at hb; exact Bool.noConfusion hb) | (show Value.bool (decide (e = e)) = _; rw [decide_eq_true rfl])
end headReads
namespace headBounds
set_option maxRecDepth 100000 in
set_option maxHeartbeats 4000000 in
theorem walk (s : ByteArray) (w : World) (b0 : s.size ≤ 140737488351232) :
    Calls Try.prog 10 #[.string s] w fun e w' => e = .returned (.bool true) ∧ Below w.heap.size w w' := by
  obtain ⟨m, p, t, x, r, c, e, hD, _, _, _, hf, _⟩ := dec_all s b0
  have h1 : e = 0 → (m = 1 ∨ m = 2) ∧ p ≤ 4096 ∧ (0 ≤ t ∧ t < p) ∧ (0 ≤ r ∧ r < p) ∧ (0 ≤ x ∧ x < p) ∧ (x = 0 ↔ t = 0) := fun h => headFit_iff.1 (hf h).1
  refine calls_pure tabOk mixed Try.func10 rfl [] [.string s] rfl (Nat.le_of_ble_eq_true rfl) rfl ?_ w
  (repeat' ((try (conv => whnf)); first | (guard_target =~ CallOb _ 19 _ _ _ _; (with_reducible refine call_pure Try.call19 (awakeH_c) ?_ ?_ ?_); exact rfl; exact rfl) | (guard_target =~ CallOb _ 24 _ _ _ _; (with_reducible refine call_pure Try.call24 (hD) ?_ ?_ ?_); exact rfl; exact rfl) | (guard_target =~ ∃ b, EqOb _ _ _ _ b ∧ _; refine ⟨_, ob_head _ _ _ _ _ _ _ _ _ _ _ _, ?_⟩) | (with_reducible refine ifB_in ?_ ?_ <;> intro hb <;> (try simp only [decide_eq_true_eq, decide_eq_false_iff_not, Int.not_lt, Int.not_le, ne_eq, Decidable.not_not, Bool.not_eq_true', Bool.not_eq_false', gt_iff_lt, ge_iff_le] at hb) <;> (try (exfalso; omega))) | (with_reducible refine ⟨_, w64 (by omega) (by omega), ?_⟩) | (with_reducible refine ⟨_, wu64 (by omega) (by omega), ?_⟩) | (with_reducible refine ⟨_, wu8 (by omega) (by omega), ?_⟩) | (with_reducible refine ⟨_, w64 (by (simp only [size_sfrom, ByteArray.size_extract, ByteArray.size_append, strOf_size, fixedL_length, lit_size, List.size_toArray, List.length_cons, List.length_nil, List.length_append, List.length_replicate]; omega)) (by (simp only [size_sfrom, ByteArray.size_extract, ByteArray.size_append, strOf_size, fixedL_length, lit_size, List.size_toArray, List.length_cons, List.length_nil, List.length_append, List.length_replicate]; omega)), ?_⟩) | (with_reducible refine ⟨_, rfl, ?_⟩) | (with_reducible refine ⟨rfl, ?_⟩) | (with_reducible refine chk_in (Nat.ble_eq_true_of_le (by omega)) ?_) | (intro cap) | (with_reducible refine ⟨trivial, ?_⟩) | (guard_target =~ (planChk _ _ = true) ∧ _; refine ⟨by kernel_rfl, ?_⟩) | (guard_target =~ (_ ∧ _) ∧ _; refine ⟨by (repeat (first | exact trivial | refine ⟨rfl, ?_⟩)), ?_⟩) | (refine ⟨by omega, ?_⟩) | (refine ⟨by (simp only [size_sfrom, ByteArray.size_extract, ByteArray.size_append, strOf_size, fixedL_length, lit_size, List.size_toArray, List.length_cons, List.length_nil, List.length_append, List.length_replicate]; omega), ?_⟩) | (refine ⟨0, rfl, ?_⟩) | (refine ⟨1, rfl, ?_⟩) | (refine ⟨2, rfl, ?_⟩) | (refine ⟨3, rfl, ?_⟩) | (refine ⟨4, rfl, ?_⟩) | (refine ⟨5, rfl, ?_⟩) | fail)) <;> (try (conv => whnf))
  all_goals first | rfl | (show Value.bool (decide _) = Value.bool true; rw [decide_eq_true (by omega)])
end headBounds
end Go.Proofs.Ythniifphilnokaa
