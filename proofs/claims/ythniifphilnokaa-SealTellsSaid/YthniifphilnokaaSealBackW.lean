/- The walk through the law SealBack. -/
import Derived.Test.YthniifphilnokaaSealLaws
import Derived.Test.YthniifphilnokaaCall
namespace Go.Proofs.Ythniifphilnokaa
open Go.RowKit
set_option linter.unusedSimpArgs false
set_option linter.unusedVariables false
def eqSealed (m p t : Int) (d : ByteArray) (m' p' t' : Int) (d' : ByteArray) : Bool := m == m' && (p == p' && (t == t' && strEq d d'))
theorem eqSealed_true {m p t m' p' t' : Int} {d d' : ByteArray} : eqSealed m p t d m' p' t' d' = true ↔ m = m' ∧ p = p' ∧ t = t' ∧ d = d' := by simp [eqSealed, strEq_true, bytesOf_inj]
abbrev sealedV (m p t : Int) (d : ByteArray) : Value := .agg #[.int .i64 m, .int .i64 p, .int .u64 t, .string d]
theorem eqIn_sealed (k : Nat) (m p t m' p' t' : Int) (d d' : ByteArray) (w : World) : (Op.equalIn (k + 2) 24 (sealedV m p t d) (sealedV m' p' t' d')).run Try.prog w = .ok (eqSealed m p t d m' p' t' d') w := by
  rw [run_equalIn_struct w (k + 1) 24 _ _ (by kernel_rfl) Try.stoodInHeld24]
  simp [Op.eqFields, go_sem, eqSealed, strEq, bytesOf, ByteArray.toList_eq]
  (repeat' split) <;> simp_all
theorem ob_sealed (m p t : Int) (d : ByteArray) (m' p' t' : Int) (d' : ByteArray) : EqOb Try.prog 24 (sealedV m p t d) (sealedV m' p' t' d') (eqSealed m p t d m' p' t' d') where
  fx := rfl
  fy := rfl
  eql w x y := by
    unfold binRun
    rw [Sem.run_bind, run_eqGuard_agg (hm := Try.eqGuardType24), Result.andThen_ok, run_eql_struct, eqIn_sealed 9998]; rfl
  neq w x y := by
    unfold binRun
    rw [Sem.run_bind, run_eqGuard_agg (hm := Try.eqGuardType24), Result.andThen_ok, run_neq_struct, eqIn_sealed 9998]; rfl
theorem and32i (a : Int) : 0 ≤ bits .and .i64 a 4294967295 ∧ bits .and .i64 a 4294967295 < 4294967296 := by
  have h : bits .and .i64 a 4294967295 = IntKind.i64.wrap (((BitVec.ofInt 64 a &&& BitVec.ofInt 64 4294967295).toNat : Nat) : Int) := rfl
  have h2 : (BitVec.ofInt 64 4294967295).toNat = 4294967295 := by decide
  rw [h, BitVec.toNat_and, h2]
  have := Nat.and_le_right (n := (BitVec.ofInt 64 a).toNat) (m := 4294967295)
  generalize (BitVec.ofInt 64 a).toNat &&& 4294967295 = x at *
  rw [IntKind.wrap_i64]; omega
theorem open_all (s : ByteArray) : ∃ (x y z : Int) (d : ByteArray) (e : Int), openV s = sealedV x y z d ∧ openE s = e ∧ 0 ≤ z ∧ z < 18446744073709551616 ∧
    (e = 0 → closeE x y d = 0 ∧ closeS x y z.toNat d = s) ∧ (e ≠ 0 → eqSealed x y z d 0 0 0 ⟨#[]⟩ = true) := by
  by_cases h : isSeal (bytesOf s) = true
  · have hv : openV s = sealedV (kindAt (bytesOf s) : Nat) (numberAt (bytesOf s) : Nat) (saltAt (bytesOf s) : Nat) (s.extract 0 232) := by unfold openV; rw [if_pos h]
    have he : openE s = 0 := by unfold openE; rw [if_pos h]
    obtain ⟨h1, h2⟩ := open_seal h
    have hd : bytesOf (s.extract 0 232) = (bytesOf s).take 232 := by rw [bytesOf_extract]; rfl
    refine ⟨_, _, _, _, _, hv, he, by omega, by have : saltAt (bytesOf s) < 18446744073709551616 := numOf_lt64 (List.length_take_le _ _); omega, fun _ => ⟨?_, ?_⟩, fun h => absurd rfl h⟩
    · unfold closeE; rw [hd, if_pos h1]
    · unfold closeS; rw [hd, if_pos h1, Int.toNat_natCast, h2, strOf_bytesOf]
  · have he : openE s ≠ 0 := by unfold openE; rw [if_neg h]; split <;> decide
    have hv : openV s = sealedV 0 0 0 ⟨#[]⟩ := by unfold openV; rw [if_neg h]
    exact ⟨_, _, _, _, _, hv, rfl, by omega, by omega, fun e => absurd e he, fun _ => by rw [eqSealed_true]; simp⟩
attribute [local irreducible] numOf fixedL bytesOf strOf strEq strLt sfrom closeS closeE openE fullS eqSealed bits
namespace sealBack
set_option maxRecDepth 100000 in
set_option maxHeartbeats 4000000 in
theorem walk (a0 a1 a2 : Int) (a3 s : ByteArray) (w : World) (_w0 : (Lit.int .i64 a0).wf = true) (_w1 : (Lit.int .i64 a1).wf = true) (w2 : (Lit.int .u64 a2).wf = true) (b3 : a3.size ≤ 140737488351232) (b4 : s.size ≤ 140737488351232) :
    Calls Try.prog 5 #[.agg #[.int .i64 a0, .int .i64 a1, .int .u64 a2, .string a3], .string s] w fun e w' => e = .returned (.bool true) ∧ Below w.heap.size w w' := by
  have hu := u64_of_wf w2
  have hW : ∀ w, Calls Try.prog 11 #[] w fun e w' => e = .returned (.bool true) ∧ Below w.heap.size w w' := fun w => awakeS_c w (Nat.le_refl _) (Below.refl _ _)
  have hF := fun w => full_any a3 w (by omega)
  have hf := fullS_size a3
  generalize fullS a3 = f at hF hf
  obtain ⟨k, hk⟩ : ∃ k, k = bits .and .i64 a0 4294967295 := ⟨_, rfl⟩
  obtain ⟨n, hn⟩ : ∃ n, n = bits .and .i64 a1 4294967295 := ⟨_, rfl⟩
  have k1 := and32i a0
  have n1 := and32i a1
  rw [← hk] at k1
  rw [← hn] at n1
  have hok : sealOk k n (bytesOf f) = true := sealOk_iff.2 ⟨k1, n1, by rw [bytesOf_length, hf]⟩
  have hC := fun w => close_any k n a2 f w hu
  obtain ⟨o1, o2, o3⟩ := openV_close hok hu
  have o4 : closeE k n f = 0 := by unfold closeE; rw [if_pos hok]
  have o5 : strEq ((closeS k n a2.toNat f).extract 0 232) f = true := by
    obtain ⟨h1, h2, _⟩ := seal_open hok hu.nat
    have e : bytesOf (closeS k n a2.toNat f) = sealL k n a2.toNat (bytesOf f) := by unfold closeS; rw [if_pos hok, bytesOf_strOf]
    rw [strEq_true, bytesOf_extract, e, h2, List.drop_zero]
  have hO := fun w => open_any (closeS k n a2.toNat f) w
  generalize closeS k n a2.toNat f = a at hC hO o1 o2 o3 o5
  generalize closeE k n f = e at hC o4
  obtain ⟨m1, m2, m3, m4, m5, hv, he, _⟩ := open_all a
  rw [hv, he] at hO
  have o6 : m5 = 0 := by rw [← he, o2]
  have o7 : eqSealed m1 m2 m3 m4 k n a2 f = true := by rw [hv] at o1; simp at o1; rw [eqSealed_true]; exact o1
  have hT := fun w => open_any s w
  obtain ⟨x, y, z, d, g, hv', he', z0, z1, hg, hg'⟩ := open_all s
  rw [hv', he'] at hT
  have hD := fun w => close_any x y z d w ⟨z0, by omega⟩
  obtain ⟨c, hc⟩ : ∃ c, c = closeS x y z.toNat d := ⟨_, rfl⟩
  obtain ⟨h, hh⟩ : ∃ h, h = closeE x y d := ⟨_, rfl⟩
  rw [← hc, ← hh] at hD hg
  have q1 : g = 0 → h = 0 ∧ strEq c s = true := fun q => ⟨(hg q).1, by rw [strEq_true, (hg q).2]⟩
  clear hg hv hv' he he' o1 o2
  refine calls_pure tabOk mixed Try.func5 rfl [(8, [(0, true), (1, true), (2, true), (3, true), (4, true), (5, true), (6, true), (7, true), (8, true), (9, true), (10, true), (11, true), (12, true), (13, true), (14, true), (15, true), (16, true), (17, true), (18, true), (19, true), (20, true), (21, true), (22, true)])] [sealedV a0 a1 a2 a3, .string s] rfl (Nat.le_of_ble_eq_true rfl) rfl ?_ w
  (repeat' ((try (conv => whnf)); first | (guard_target =~ CallOb _ 11 _ _ _ _; (with_reducible refine call_pure Try.call11 (hW) ?_ ?_ ?_); exact rfl; exact rfl) | (guard_target =~ CallOb _ 12 _ _ _ _; (with_reducible refine call_pure Try.call12 (hF) ?_ ?_ ?_); exact rfl; exact rfl) | (with_reducible refine ⟨_, hk, ?_⟩) | (with_reducible refine ⟨_, hn, ?_⟩) | (guard_target =~ CallOb _ 13 [.agg #[.int _ k, .int _ n, _, _]] _ _ _; (with_reducible refine call_pure Try.call13 (hC) ?_ ?_ ?_); exact rfl; exact rfl) | (guard_target =~ CallOb _ 13 [.agg #[.int _ x, .int _ y, _, _]] _ _ _; (with_reducible refine call_pure Try.call13 (hD) ?_ ?_ ?_); exact rfl; exact rfl) | (guard_target =~ CallOb _ 17 [.string a] _ _ _; (with_reducible refine call_pure Try.call17 (hO) ?_ ?_ ?_); exact rfl; exact rfl) | (guard_target =~ CallOb _ 17 [.string s] _ _ _; (with_reducible refine call_pure Try.call17 (hT) ?_ ?_ ?_); exact rfl; exact rfl) | (guard_target =~ ∃ b, EqOb _ _ _ _ b ∧ _; refine ⟨_, ob_sealed _ _ _ _ _ _ _ _, ?_⟩) | (with_reducible refine ifB_in ?_ ?_ <;> intro hb <;> (try simp only [decide_eq_true_eq, decide_eq_false_iff_not, Int.not_lt, Int.not_le, ne_eq, Decidable.not_not, Bool.not_eq_true', Bool.not_eq_false', gt_iff_lt, ge_iff_le] at hb) <;> (try (exfalso; omega))) | (with_reducible refine ⟨_, w64 (by omega) (by omega), ?_⟩) | (with_reducible refine ⟨_, wu64 (by omega) (by omega), ?_⟩) | (with_reducible refine ⟨_, wu8 (by omega) (by omega), ?_⟩) | (with_reducible refine ⟨_, w64 (by (simp only [size_sfrom, ByteArray.size_extract, ByteArray.size_append, strOf_size, fixedL_length, lit_size, List.size_toArray, List.length_cons, List.length_nil, List.length_append, List.length_replicate]; omega)) (by (simp only [size_sfrom, ByteArray.size_extract, ByteArray.size_append, strOf_size, fixedL_length, lit_size, List.size_toArray, List.length_cons, List.length_nil, List.length_append, List.length_replicate]; omega)), ?_⟩) | (with_reducible refine ⟨_, rfl, ?_⟩) | (with_reducible refine ⟨rfl, ?_⟩) | (with_reducible refine chk_in (Nat.ble_eq_true_of_le (by omega)) ?_) | (intro cap) | (with_reducible refine ⟨trivial, ?_⟩) | (guard_target =~ (planChk _ _ = true) ∧ _; refine ⟨by kernel_rfl, ?_⟩) | (guard_target =~ (_ ∧ _) ∧ _; refine ⟨by (repeat (first | exact trivial | refine ⟨rfl, ?_⟩)), ?_⟩) | (refine ⟨by omega, ?_⟩) | (refine ⟨by (simp only [size_sfrom, ByteArray.size_extract, ByteArray.size_append, strOf_size, fixedL_length, lit_size, List.size_toArray, List.length_cons, List.length_nil, List.length_append, List.length_replicate]; omega), ?_⟩) | (refine ⟨0, rfl, ?_⟩) | (refine ⟨1, rfl, ?_⟩) | (refine ⟨2, rfl, ?_⟩) | (refine ⟨3, rfl, ?_⟩) | (refine ⟨4, rfl, ?_⟩) | (refine ⟨5, rfl, ?_⟩) | fail)) <;> (try (conv => whnf))
  all_goals first | (rw [o7] at hb; cases hb) | (rw [o5] at hb; cases hb) | (rw [hg' hb]; rfl) | (rw [(q1 ‹g = 0›).2]; rfl)
end sealBack
namespace sealTells
set_option maxRecDepth 100000 in
set_option maxHeartbeats 4000000 in
theorem walk (a0 a1 a2 : Int) (a3 : ByteArray) (at' g0 g1 g2 g3 : Int) (w : World) (_w0 : (Lit.int .i64 a0).wf = true) (_w1 : (Lit.int .i64 a1).wf = true) (w2 : (Lit.int .u64 a2).wf = true) (b3' : a3.size ≤ 140737488351232) (_w3 : (Lit.int .i64 at').wf = true)
    (v0 : (Lit.int .u8 g0).wf = true) (v1 : (Lit.int .u8 g1).wf = true) (v2 : (Lit.int .u8 g2).wf = true) (v3 : (Lit.int .u8 g3).wf = true) :
    Calls Try.prog 6 #[.agg #[.int .i64 a0, .int .i64 a1, .int .u64 a2, .string a3], .int .i64 at', .agg #[.int .u8 g0, .int .u8 g1, .int .u8 g2, .int .u8 g3]] w fun e w' => e = .returned (.bool true) ∧ Below w.heap.size w w' := by
  have hu := u64_of_wf w2
  obtain ⟨b0, rfl⟩ := byte_of v0
  obtain ⟨b1, rfl⟩ := byte_of v1
  obtain ⟨b2, rfl⟩ := byte_of v2
  obtain ⟨b3, rfl⟩ := byte_of v3
  have hW : ∀ w, Calls Try.prog 11 #[] w fun e w' => e = .returned (.bool true) ∧ Below w.heap.size w w' := fun w => awakeS_c w (Nat.le_refl _) (Below.refl _ _)
  have hF := fun w => full_any a3 w (by omega)
  have hf := fullS_size a3
  generalize fullS a3 = f at hF hf
  obtain ⟨k, hk⟩ : ∃ k, k = bits .and .i64 a0 4294967295 := ⟨_, rfl⟩
  obtain ⟨n, hn⟩ : ∃ n, n = bits .and .i64 a1 4294967295 := ⟨_, rfl⟩
  have k1 := and32i a0
  have n1 := and32i a1
  rw [← hk] at k1
  rw [← hn] at n1
  have hok : sealOk k n (bytesOf f) = true := sealOk_iff.2 ⟨k1, n1, by rw [bytesOf_length, hf]⟩
  have hC := fun w => close_any k n a2 f w hu
  have o3 := (openV_close hok hu).2.2
  have o4 : closeE k n f = 0 := by unfold closeE; rw [if_pos hok]
  have o5 : isSeal (bytesOf (closeS k n a2.toNat f)) = true := by
    have e : bytesOf (closeS k n a2.toNat f) = sealL k n a2.toNat (bytesOf f) := by unfold closeS; rw [if_pos hok, bytesOf_strOf]
    rw [e]; exact (seal_open hok hu.nat).1
  generalize closeS k n a2.toNat f = a at hC o3 o5
  generalize closeE k n f = e at hC o4
  obtain ⟨u, hu'⟩ : ∃ u, u = IntKind.u64.wrap at' := ⟨_, rfl⟩
  have u0 : 0 ≤ u := by rw [hu', IntKind.wrap_u64]; omega
  obtain ⟨j, hj, hj'⟩ : ∃ j : Nat, (j : Int) = u.tmod 64 ∧ j < 64 := ⟨(u.tmod 64).toNat, by rw [Int.tmod_eq_emod_of_nonneg u0]; omega, by rw [Int.tmod_eq_emod_of_nonneg u0]; omega⟩
  obtain ⟨t, ht⟩ : ∃ t, t = a.extract 0 (4 * j) ++ strOf [b0, b1, b2, b3] ++ sfrom a (4 * j + 4) := ⟨_, rfl⟩
  have tb : bytesOf t = (bytesOf a).take (4 * j) ++ [b0, b1, b2, b3] ++ (bytesOf a).drop (4 * j + 4) := by
    rw [ht, bytesOf_append, bytesOf_append, bytesOf_strOf, bytesOf_sfrom, bytesOf_extract, List.drop_zero]
  have tl : t.size = 256 := by rw [← bytesOf_length, tb]; simp [bytesOf_length, o3]; omega
  have hT := fun w => open_any t w
  obtain ⟨x, y, z, d, g, hv, he, _⟩ := open_all t
  have q1 : g = 0 ∨ g = 20 := by
    rw [← he]; unfold openE; rw [if_pos tl]; split <;> simp
  have q2 : (g = 0) ↔ strEq a t = true := by
    rw [strEq_true, ← he, tb]
    have h := seal_tells (j := j) (g := [b0, b1, b2, b3]) o5 hj' rfl
    rw [← tb] at h ⊢
    constructor
    · intro hg
      refine (h.1 ?_).symm
      unfold openE at hg
      split at hg
      · assumption
      · cases hg
    · intro hg
      unfold openE; rw [if_pos (h.2 hg.symm)]
  have q3 : (decide (g = 0) == strEq a t) = true := by
    by_cases h : g = 0
    · rw [q2.1 h, decide_eq_true h]; rfl
    · rw [decide_eq_false h]
      cases hs : strEq a t with
      | true => exact absurd (q2.2 hs) h
      | false => rfl
  rw [hv, he] at hT
  clear hv he tb q2
  subst ht
  refine calls_pure tabOk mixed Try.func6 rfl [(10, [(0, true), (1, true), (2, true), (3, true), (4, true), (5, true), (6, true), (7, true), (8, true), (9, true), (10, true), (11, true)])] [sealedV a0 a1 a2 a3, .int .i64 at', .agg #[.int .u8 b0.toNat, .int .u8 b1.toNat, .int .u8 b2.toNat, .int .u8 b3.toNat]] rfl (Nat.le_of_ble_eq_true rfl) rfl ?_ w
  (repeat' ((try (conv => whnf)); first | (guard_target =~ CallOb _ 11 _ _ _ _; (with_reducible refine call_pure Try.call11 (hW) ?_ ?_ ?_); exact rfl; exact rfl) | (guard_target =~ CallOb _ 12 _ _ _ _; (with_reducible refine call_pure Try.call12 (hF) ?_ ?_ ?_); exact rfl; exact rfl) | (with_reducible refine ⟨_, hk, ?_⟩) | (with_reducible refine ⟨_, hn, ?_⟩) | (with_reducible refine ⟨_, hu', ?_⟩) | (with_reducible refine ⟨_, hj, ?_⟩) | (with_reducible refine ⟨4 * j, by omega, ?_⟩) | (with_reducible refine ⟨4 * j + 4, by omega, ?_⟩) | (refine ⟨[b0, b1, b2, b3], rfl, rfl, ?_⟩) | (guard_target =~ CallOb _ 13 _ _ _ _; (with_reducible refine call_pure Try.call13 (hC) ?_ ?_ ?_); exact rfl; exact rfl) | (guard_target =~ CallOb _ 17 _ _ _ _; (with_reducible refine call_pure Try.call17 (hT) ?_ ?_ ?_); exact rfl; exact rfl) | (with_reducible refine ifB_in ?_ ?_ <;> intro hb <;> (try simp only [decide_eq_true_eq, decide_eq_false_iff_not, Int.not_lt, Int.not_le, ne_eq, Decidable.not_not, Bool.not_eq_true', Bool.not_eq_false', gt_iff_lt, ge_iff_le] at hb) <;> (try (exfalso; omega))) | (with_reducible refine ⟨_, w64 (by omega) (by omega), ?_⟩) | (with_reducible refine ⟨_, wu64 (by omega) (by omega), ?_⟩) | (with_reducible refine ⟨_, wu8 (by omega) (by omega), ?_⟩) | (with_reducible refine ⟨_, w64 (by (simp only [size_sfrom, ByteArray.size_extract, ByteArray.size_append, strOf_size, fixedL_length, lit_size, List.size_toArray, List.length_cons, List.length_nil, List.length_append, List.length_replicate]; omega)) (by (simp only [size_sfrom, ByteArray.size_extract, ByteArray.size_append, strOf_size, fixedL_length, lit_size, List.size_toArray, List.length_cons, List.length_nil, List.length_append, List.length_replicate]; omega)), ?_⟩) | (with_reducible refine ⟨_, rfl, ?_⟩) | (with_reducible refine ⟨rfl, ?_⟩) | (with_reducible refine chk_in (Nat.ble_eq_true_of_le (by omega)) ?_) | (intro cap) | (with_reducible refine ⟨trivial, ?_⟩) | (guard_target =~ (planChk _ _ = true) ∧ _; refine ⟨by kernel_rfl, ?_⟩) | (guard_target =~ (_ ∧ _) ∧ _; refine ⟨by (repeat (first | exact trivial | refine ⟨rfl, ?_⟩)), ?_⟩) | (refine ⟨by omega, ?_⟩) | (refine ⟨by (simp only [size_sfrom, ByteArray.size_extract, ByteArray.size_append, strOf_size, fixedL_length, lit_size, List.size_toArray, List.length_cons, List.length_nil, List.length_append, List.length_replicate]; omega), ?_⟩) | (refine ⟨0, rfl, ?_⟩) | (refine ⟨1, rfl, ?_⟩) | (refine ⟨2, rfl, ?_⟩) | (refine ⟨3, rfl, ?_⟩) | (refine ⟨4, rfl, ?_⟩) | (refine ⟨5, rfl, ?_⟩) | fail)) <;> (try (conv => whnf))
  all_goals first | rfl | (rw [q3] at hb; cases hb) | (rw [show g = 20 by omega]; rfl)
end sealTells
end Go.Proofs.Ythniifphilnokaa
