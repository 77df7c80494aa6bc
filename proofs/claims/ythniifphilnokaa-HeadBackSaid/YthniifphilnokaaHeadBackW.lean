/- The walk through the law HeadBack. -/
import Derived.Test.YthniifphilnokaaHeadLaws
namespace Go.Proofs.Ythniifphilnokaa
open Go.RowKit
set_option linter.unusedSimpArgs false
set_option linter.unusedVariables false
attribute [local irreducible] numOf fixedL bytesOf strOf strEq strLt sfrom headFit padL headL fld isHead encE encS decE eqHead
namespace headBack
set_option maxRecDepth 100000 in
set_option maxHeartbeats 4000000 in
theorem walk (m p t x r c m' p' t' x' r' c' : Int) (s : ByteArray) (w : World) (_w0 : (Lit.int .i64 m).wf = true) (_w1 : (Lit.int .i64 p).wf = true) (_w2 : (Lit.int .i64 t).wf = true) (_w3 : (Lit.int .i64 x).wf = true) (_w4 : (Lit.int .i64 r).wf = true) (w5 : (Lit.int .u64 c).wf = true)
    (_w6 : (Lit.int .i64 m').wf = true) (_w7 : (Lit.int .i64 p').wf = true) (_w8 : (Lit.int .i64 t').wf = true) (_w9 : (Lit.int .i64 x').wf = true) (_w10 : (Lit.int .i64 r').wf = true) (w11 : (Lit.int .u64 c').wf = true) (b2 : s.size ≤ 140737488351232) :
    Calls Try.prog 9 #[.agg #[.int .i64 m, .int .i64 p, .int .i64 t, .int .i64 x, .int .i64 r, .int .u64 c], .agg #[.int .i64 m', .int .i64 p', .int .i64 t', .int .i64 x', .int .i64 r', .int .u64 c'], .string s] w fun e w' => e = .returned (.bool true) ∧ Below w.heap.size w w' := by
  have hc := u64_of_wf w5
  have hc' := u64_of_wf w11
  obtain ⟨a, e, hE, _, hp, hn, ea, _⟩ := enc_all m p t x r c hc.1 hc.2
  obtain ⟨b, g, hG, _, hp', hn', eb, _⟩ := enc_all m' p' t' x' r' c' hc'.1 hc'.2
  obtain ⟨n, q, u, y, z, d, f, hS, _, d0, d1, hf, hg, _, _⟩ := dec_all s b2
  obtain ⟨v, k, hT, _, _, _, hv, hk⟩ := enc_all n q u y z d d0 d1
  have q1 : f = 0 → k = 0 ∧ strEq v s = true := fun h => by
    obtain ⟨_, h2, h3⟩ := hf h; exact ⟨by rw [← hk, h2], by rw [← hv, h3]; exact strEq_self s⟩
  have q2 : a.size ≤ 140737488351232 := by
    by_cases h : e = 0
    · rw [(hp h).1]; omega
    · rw [hn h]; decide
  obtain ⟨n1, n2, n3, n4, n5, n6, n7, hA, _, _, _, _, _, hav, hae⟩ := dec_all a q2
  have q3 : e = 0 → a.size = 232 ∧ n7 = 0 ∧ eqHead n1 n2 n3 n4 n5 n6 m p t x r c = true := fun h => by
    obtain ⟨h1, h2, h3⟩ := hp h
    exact ⟨h1, by rw [← hae, h3], headV_inj (by rw [← hav, h2])⟩
  have q4 : e = 0 → g = 0 → strEq a b = eqHead m p t x r c m' p' t' x' r' c' := fun h h' => by
    rw [Bool.eq_iff_iff, strEq_true, bytesOf_inj]
    constructor
    · intro he; exact headV_inj (by rw [← (hp h).2.1, he, (hp' h').2.1])
    · intro he
      rw [eqHead_true] at he
      obtain ⟨h1, h2, h3, h4, h5, h6⟩ := he
      rw [← ea, ← eb, h1, h2, h3, h4, h5, h6]
  have q5 : ¬ e = 0 → strEq a ⟨#[]⟩ = true := fun h => by rw [hn h]; exact strEq_self _
  clear ea eb hp hn hp' hn' hf hv hk hav hae _w0 _w1 _w2 _w3 _w4 _w6 _w7 _w8 _w9 _w10 w5 w11
  refine calls_pure tabOk mixed Try.func9 rfl [] [headV m p t x r c, headV m' p' t' x' r' c', .string s] rfl (Nat.le_of_ble_eq_true rfl) rfl ?_ w
  (repeat' ((try (conv => whnf)); first | (guard_target =~ CallOb _ 19 _ _ _ _; (with_reducible refine call_pure Try.call19 (awakeH_c) ?_ ?_ ?_); exact rfl; exact rfl) | (guard_target =~ CallOb _ 20 [.agg #[.int _ m, .int _ p, _, _, _, _]] _ _ _; (with_reducible refine call_pure Try.call20 (hE) ?_ ?_ ?_); exact rfl; exact rfl) | (guard_target =~ CallOb _ 20 [.agg #[.int _ m', .int _ p', _, _, _, _]] _ _ _; (with_reducible refine call_pure Try.call20 (hG) ?_ ?_ ?_); exact rfl; exact rfl) | (guard_target =~ CallOb _ 20 [.agg #[.int _ n, .int _ q, _, _, _, _]] _ _ _; (with_reducible refine call_pure Try.call20 (hT) ?_ ?_ ?_); exact rfl; exact rfl) | (guard_target =~ CallOb _ 24 [.string a] _ _ _; (with_reducible refine call_pure Try.call24 (hA) ?_ ?_ ?_); exact rfl; exact rfl) | (guard_target =~ CallOb _ 24 [.string s] _ _ _; (with_reducible refine call_pure Try.call24 (hS) ?_ ?_ ?_); exact rfl; exact rfl) | (guard_target =~ ∃ b, EqOb _ _ _ _ b ∧ _; refine ⟨_, ob_head _ _ _ _ _ _ _ _ _ _ _ _, ?_⟩) | (with_reducible refine ifB_in ?_ ?_ <;> intro hb <;> (try simp only [decide_eq_true_eq, decide_eq_false_iff_not, Int.not_lt, Int.not_le, ne_eq, Decidable.not_not, Bool.not_eq_true', Bool.not_eq_false', gt_iff_lt, ge_iff_le] at hb) <;> (try (exfalso; omega))) | (with_reducible refine ⟨_, w64 (by omega) (by omega), ?_⟩) | (with_reducible refine ⟨_, wu64 (by omega) (by omega), ?_⟩) | (with_reducible refine ⟨_, wu8 (by omega) (by omega), ?_⟩) | (with_reducible refine ⟨_, w64 (by (simp only [size_sfrom, ByteArray.size_extract, ByteArray.size_append, strOf_size, fixedL_length, lit_size, List.size_toArray, List.length_cons, List.length_nil, List.length_append, List.length_replicate]; omega)) (by (simp only [size_sfrom, ByteArray.size_extract, ByteArray.size_append, strOf_size, fixedL_length, lit_size, List.size_toArray, List.length_cons, List.length_nil, List.length_append, List.length_replicate]; omega)), ?_⟩) | (with_reducible refine ⟨_, rfl, ?_⟩) | (with_reducible refine ⟨rfl, ?_⟩) | (with_reducible refine chk_in (Nat.ble_eq_true_of_le (by omega)) ?_) | (intro cap) | (with_reducible refine ⟨trivial, ?_⟩) | (guard_target =~ (planChk _ _ = true) ∧ _; refine ⟨by kernel_rfl, ?_⟩) | (guard_target =~ (_ ∧ _) ∧ _; refine ⟨by (repeat (first | exact trivial | refine ⟨rfl, ?_⟩)), ?_⟩) | (refine ⟨by omega, ?_⟩) | (refine ⟨by (simp only [size_sfrom, ByteArray.size_extract, ByteArray.size_append, strOf_size, fixedL_length, lit_size, List.size_toArray, List.length_cons, List.length_nil, List.length_append, List.length_replicate]; omega), ?_⟩) | (refine ⟨0, rfl, ?_⟩) | (refine ⟨1, rfl, ?_⟩) | (refine ⟨2, rfl, ?_⟩) | (refine ⟨3, rfl, ?_⟩) | (refine ⟨4, rfl, ?_⟩) | (refine ⟨5, rfl, ?_⟩) | fail)) <;> (try (conv => whnf))
  all_goals first | (rw [(q3 ‹e = 0›).2.2] at hb; cases hb) | (rw [q4 ‹e = 0› ‹g = 0›] at hb; simp at hb) | (rw [hg hb]; rfl) | (rw [(q1 ‹f = 0›).2]; rfl) | (rw [q5 ‹¬ e = 0›] at hb; cases hb) | rfl
end headBack
end Go.Proofs.Ythniifphilnokaa
