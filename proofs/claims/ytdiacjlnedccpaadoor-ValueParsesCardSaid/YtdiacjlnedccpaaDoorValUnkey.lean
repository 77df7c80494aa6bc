/- The walk through Unkey. -/
import Derived.Test.YtdiacjlnedccpaaDoorValKeyR
import Derived.Test.YtdiacjlnedccpaaDoorValGood
namespace Go.Proofs.YtdiacjlnedccpaaDoor
open Go.RowKit
set_option linter.unusedSimpArgs false
set_option linter.unusedVariables false
theorem sign_back {N : Int} (h : 0 ≤ N ∧ N < 18446744073709551616) : IntKind.i64.wrap (IntKind.u64.wrap (N - 9223372036854775808)) = N - 9223372036854775808 := by
  have e1 : ∃ r : Int, IntKind.u64.wrap (N - 9223372036854775808) = N - 9223372036854775808 + r * 18446744073709551616 ∧ (r = 0 ∨ r = 1) := by
    rw [IntKind.wrap_u64]
    rcases Int.lt_or_le N 9223372036854775808 with h1 | h1
    · exact ⟨1, by omega, .inr rfl⟩
    · exact ⟨0, by omega, .inl rfl⟩
  obtain ⟨r, e, hr⟩ := e1
  rw [e]
  rcases hr with rfl | rfl
  · rw [Int.zero_mul, Int.add_zero]; exact (w64 (by omega) (by omega)).symm
  · rw [IntKind.wrap_i64]; omega
theorem num9 {s : ByteArray} (h : 9 ≤ s.size) : ((numOf (bytesOf (s.extract 1 9)) : Nat) : Int) < 18446744073709551616 := by
  have := numOf_lt (bytesOf (s.extract 1 9))
  rw [bytesOf_length, ByteArray.size_extract, show min 9 s.size - 1 = 8 by omega] at this
  have e : (256 : Nat) ^ 8 = 18446744073709551616 := by decide
  omega
theorem bytes_head {s : ByteArray} (h : 0 < s.size) : bytesOf s = (bytesOf s).getD 0 0 :: bytesOf (sfrom s 1) := by
  rw [bytesOf_sfrom]
  have := drop_getD (l := bytesOf s) (i := 0) (by rw [bytesOf_length]; exact h)
  rwa [List.drop_zero] at this
theorem UR.pre_le {d : List UInt8} {k : Nat} {z : UR} : (z.pre d k).n ≤ k + z.n := by
  unfold UR.pre; split
  · exact Nat.le_refl _
  · exact Nat.le_add_left _ _
theorem unesc_le (k : Nat) (l : List UInt8) : (unesc k l).n ≤ l.length := by
  fun_induction unesc k l
  all_goals first
    | exact Nat.zero_le _
    | (simp only [List.length_cons]; omega)
    | (refine Nat.le_trans UR.pre_le ?_; simp only [List.length_cons]; omega)
structure UnkD (s : ByteArray) (z : Int × Int × ByteArray × Int × Int) : Prop where
  k : z.1 = (unkey (bytesOf s)).k
  n : z.2.1 = (unkey (bytesOf s)).n
  d : z.2.2.1 = strOf (unkey (bytesOf s)).d
  m : z.2.2.2.1 = ((unkey (bytesOf s)).m : Nat)
  e : z.2.2.2.2 = (unkey (bytesOf s)).e
theorem UnkD.of {s : ByteArray} {z : Int × Int × ByteArray × Int × Int} {r : KR} (h : unkey (bytesOf s) = r) (h1 : z.1 = r.k) (h2 : z.2.1 = r.n) (h3 : z.2.2.1 = strOf r.d) (h4 : z.2.2.2.1 = (r.m : Nat)) (h5 : z.2.2.2.2 = r.e) : UnkD s z := by
  subst h; exact ⟨h1, h2, h3, h4, h5⟩
theorem str_none : (⟨#[]⟩ : ByteArray) = strOf [] := rfl
section
variable {s : ByteArray}
theorem k_none (h : strEq s ⟨#[]⟩ = true) : unkey (bytesOf s) = .bad 3 := by
  have := strEq_list (p := []).1 h
  rw [this]; rfl
theorem k_size (h : strEq s ⟨#[]⟩ = false) : 0 < s.size := by
  rcases Nat.eq_zero_or_pos s.size with e | e
  · have : strEq s ⟨#[]⟩ = true := strEq_list (p := []).2 (List.eq_nil_of_length_eq_zero (by rw [bytesOf_length]; exact e))
    rw [h] at this; cases this
  · exact e
theorem k_null (hs : 0 < s.size) (h : (((bytesOf s).getD 0 0).toNat : Int) = 0) : unkey (bytesOf s) = ⟨0, 0, [], 1, 0⟩ := by
  rw [bytes_head hs, byte_no h (by decide)]; rfl
theorem k_short (hs : 0 < s.size) (h : (((bytesOf s).getD 0 0).toNat : Int) = 1) (h9 : (s.size : Int) < 9) : unkey (bytesOf s) = .bad 3 := by
  have hl : (bytesOf s).length < 9 := by rw [bytesOf_length]; omega
  rw [bytes_head hs, byte_no h (by decide)] at hl ⊢
  unfold unkey; dsimp only; rw [if_neg (by decide), if_pos (by decide), if_pos hl]
theorem k_int (h9 : 9 ≤ s.size) (h : (((bytesOf s).getD 0 0).toNat : Int) = 1) : unkey (bytesOf s) = ⟨1, (numOf (bytesOf (s.extract 1 9)) : Nat) - 9223372036854775808, [], 9, 0⟩ := by
  have hl : ¬ (bytesOf s).length < 9 := by rw [bytesOf_length]; omega
  have e : bytesOf (s.extract 1 9) = ((bytesOf s).take 9).drop 1 := bytesOf_extract s 1 9
  rw [e]
  rw [bytes_head (by omega), byte_no h (by decide)] at hl ⊢
  unfold unkey; dsimp only; rw [if_neg (by decide), if_pos (by decide), if_neg hl]
theorem k_text (hs : 0 < s.size) (h : (((bytesOf s).getD 0 0).toNat : Int) = 2 ∨ (((bytesOf s).getD 0 0).toNat : Int) = 3) :
    unkey (bytesOf s) = if (unesc 0 (bytesOf (sfrom s 1))).e = 0 then ⟨(((bytesOf s).getD 0 0).toNat : Nat), 0, (unesc 0 (bytesOf (sfrom s 1))).d, (unesc 0 (bytesOf (sfrom s 1))).n + 1, 0⟩ else .bad (unesc 0 (bytesOf (sfrom s 1))).e := by
  rcases h with h | h
  · have e := byte_no h (by decide)
    have hb := bytes_head hs
    rw [e] at hb ⊢
    rw [hb]; rfl
  · have e := byte_no h (by decide)
    have hb := bytes_head hs
    rw [e] at hb ⊢
    rw [hb]; rfl
theorem k_else (hs : 0 < s.size) (h0 : ¬ (((bytesOf s).getD 0 0).toNat : Int) = 0) (h1 : ¬ (((bytesOf s).getD 0 0).toNat : Int) = 1) (h2 : ¬ (((bytesOf s).getD 0 0).toNat : Int) = 2) (h3 : ¬ (((bytesOf s).getD 0 0).toNat : Int) = 3) : unkey (bytesOf s) = .bad 4 := by
  rw [bytes_head hs]
  generalize (bytesOf s).getD 0 0 = a at *
  unfold unkey; dsimp only
  rw [if_neg (fun e => h0 (by rw [e]; rfl)), if_neg (fun e => h1 (by rw [e]; rfl)), if_neg (fun e => ?_)]
  rcases e with e | e
  · exact h2 (by rw [e]; rfl)
  · exact h3 (by rw [e]; rfl)
end
attribute [local irreducible] bytesOf strOf strEq strLt sfrom unesc unkey UR.pre numOf
set_option maxRecDepth 100000 in
set_option maxHeartbeats 4000000 in
theorem unkey_c (s : ByteArray) (hs : s.size ≤ 281474976710656) :
    CallOb Tryd.prog 18 [.string s] [] 0 (fun v hh m => ∃ z : Int × Int × ByteArray × Int × Int, UnkD s z ∧ v = .tuple #[.agg (valv z.1 z.2.1 z.2.2.1).toArray, iv z.2.2.2.1, iv z.2.2.2.2] ∧ hh = [] ∧ m = 0) := by
  refine call_spec tabOk mixed Tryd.call18 Tryd.func18 rfl [] (fun z : Int × Int × ByteArray × Int × Int => UnkD s z) (fun z => .tuple #[.agg (valv z.1 z.2.1 z.2.2.1).toArray, iv z.2.2.2.1, iv z.2.2.2.2]) (fun _ => []) (fun _ => 0) ?_ ?_
  · exact (Nat.le_of_ble_eq_true rfl)
  (repeat' ((try (conv => whnf)); first | (have hp := k_size ‹_›; with_reducible refine ⟨0, rfl, by omega, ?_⟩) | (guard_target =~ CallOb _ 38 _ _ _ _; (with_reducible refine call_pure Tryd.call38 (c_unfixed (s.extract 1 9) (by simp only [ByteArray.size_extract]; omega)) ?_ ?_ ?_); exact rfl; exact rfl) | ((guard_target =~ CallOb _ 39 _ _ _ _; refine call_q (unescape_c (sfrom s 1) (by rw [size_sfrom]; omega)) [] (by (repeat' (first | exact True.intro | (with_reducible exact rfl) | (guard_target =~ @Eq Nat _ _; first | exact rfl | omega) | (guard_target =~ List.map _ _ = []; exact rfl) | (first | exact congrArg (Value.int _) (sign_back ⟨by omega, num9 (by omega)⟩).symm | exact congrArg (Value.int _) (sign_back ⟨by omega, num9 (by omega)⟩) | exact congrArg (Value.int _) (by (try dsimp only); omega) | (guard_target =~ @Eq (List Value) _ _; exact rfl)) | (exact congrArg (Value.int _) (by omega)) | (exact covL_flat (flat_map (fun _ => rfl) _)) | (exact covL_flat flat_nil) | (refine covP_all ?_) | (refine covL_each ?_) | (refine ⟨?_, ?_⟩) | ((conv => whnf); (first | exact True.intro | (with_reducible exact rfl) | (guard_target =~ @Eq Nat _ _; first | exact rfl | omega) | (guard_target =~ List.map _ _ = []; exact rfl) | (first | exact congrArg (Value.int _) (sign_back ⟨by omega, num9 (by omega)⟩).symm | exact congrArg (Value.int _) (sign_back ⟨by omega, num9 (by omega)⟩) | exact congrArg (Value.int _) (by (try dsimp only); omega) | (guard_target =~ @Eq (List Value) _ _; exact rfl)) | (exact congrArg (Value.int _) (by omega)) | (exact covL_flat (flat_map (fun _ => rfl) _)) | (exact covL_flat flat_nil) | (refine covP_all ?_) | (refine covL_each ?_) | (refine ⟨?_, ?_⟩) | done)))); (first | done | fail)) (by rfl) (by rfl) (by rfl) (fun v h1 n1 hp => ?_); obtain ⟨⟨ud, un, ue⟩, ⟨hd, hn, he⟩, rfl, rfl, rfl⟩ := hp; refine ⟨_, _, _, (by refine ⟨?_, ?_, ?_⟩; (first | apply rR_tuple | apply rR_one rfl | exact rfl); all_goals (repeat' (first | (with_reducible (first | exact relH_nil | apply rn_lst | apply rn_own | apply rn_mp | apply rn_row | exact wo_nil)) | apply wo_keep rfl | apply wo_drop rfl | exact relH_nil | exact r1_flat rfl | exact r0_flat rfl | exact rl_nil | exact wo_nil | exact bk_old rfl | exact bk_new rfl | exact bk_nil rfl | apply rl_cons | (fail) | exact relL_flat (flat_map (fun _ => rfl) _) | exact relL_flat flat_nil | apply relL_to | apply rn_lst | apply rn_own | apply rn_mp | apply rn_row | apply relH_view rfl | apply relH_lview rfl | apply wo_keep rfl | apply wo_drop rfl | apply r1_agg | apply rn_ptr | apply rn_slice | apply rn_iface | apply rn_map | apply rn_ifacem | apply r0_map | apply r0_ifacem | apply r0_ptr | apply r0_slice | apply r0_iface)); (first | done | fail)), ?_⟩); dsimp only at hd hn he; have hul := unesc_le 0 (bytesOf (sfrom s 1)); rw [bytesOf_length, size_sfrom] at hul; dsimp only [Nat.reduceAdd, List.cons_append, List.nil_append]) | (with_reducible refine chk_in (Nat.ble_eq_true_of_le (by omega)) ?_) | (with_reducible refine ifB_in ?_ ?_ <;> intro hb <;> (try simp only [decide_eq_true_eq, decide_eq_false_iff_not, Int.not_lt, Int.not_le, ne_eq, Decidable.not_not, Bool.not_eq_true', Bool.not_eq_false', gt_iff_lt, ge_iff_le] at hb) <;> (try (exfalso; omega))) | (with_reducible refine ⟨_, w64b _, ?_⟩) | (with_reducible refine ⟨_, w64 (by omega) (by omega), ?_⟩) | (with_reducible refine ⟨_, wu64 (by omega) (by omega), ?_⟩) | (with_reducible refine ⟨_, wu8 (by omega) (by omega), ?_⟩) | (with_reducible refine ⟨_, w64 (by (simp only [size_sfrom, ByteArray.size_extract, ByteArray.size_append, strOf_size, fixedL_length, lit_size, List.size_toArray, List.length_cons, List.length_nil, List.length_append, List.length_replicate]; omega)) (by (simp only [size_sfrom, ByteArray.size_extract, ByteArray.size_append, strOf_size, fixedL_length, lit_size, List.size_toArray, List.length_cons, List.length_nil, List.length_append, List.length_replicate]; omega)), ?_⟩) | (with_reducible refine ⟨_, rfl, ?_⟩) | (with_reducible refine ⟨rfl, ?_⟩) | (intro cap) | (with_reducible refine ⟨trivial, ?_⟩) | (guard_target =~ (planChk _ _ = true) ∧ _; refine ⟨by kernel_rfl, ?_⟩) | (guard_target =~ (_ ∧ _) ∧ _; refine ⟨by ((repeat (first | exact trivial | refine ⟨rfl, ?_⟩)); (first | done | fail)), ?_⟩) | (refine ⟨by omega, ?_⟩) | (refine ⟨by (simp only [size_sfrom, ByteArray.size_extract, ByteArray.size_append, strOf_size, fixedL_length, lit_size, List.size_toArray, List.length_cons, List.length_nil, List.length_append, List.length_replicate]; omega), ?_⟩) | (refine ⟨0, rfl, ?_⟩) | (refine ⟨1, rfl, ?_⟩) | (refine ⟨2, rfl, ?_⟩) | (refine ⟨3, rfl, ?_⟩) | (refine ⟨4, rfl, ?_⟩) | (refine ⟨5, rfl, ?_⟩) | (refine cell_at1 (by assumption) ?_) | (refine cell_in1 (by omega) (fun x hx => ?_)) | fail)) <;> (try (conv => whnf))
  all_goals first
    | (exfalso; omega)
    | ((refine Ends.go (((0 : Int), (0 : Int), (⟨#[]⟩ : ByteArray), (0 : Int), (3 : Int))) ?_ [] (Fit.q (by (repeat' (first | exact True.intro | (with_reducible exact rfl) | (guard_target =~ @Eq Nat _ _; first | exact rfl | omega) | (guard_target =~ List.map _ _ = []; exact rfl) | (first | exact congrArg (Value.int _) (sign_back ⟨by omega, num9 (by omega)⟩).symm | exact congrArg (Value.int _) (sign_back ⟨by omega, num9 (by omega)⟩) | exact congrArg (Value.int _) (by (try dsimp only); omega) | (guard_target =~ @Eq (List Value) _ _; exact rfl)) | (exact congrArg (Value.int _) (by omega)) | (exact covL_flat (flat_map (fun _ => rfl) _)) | (exact covL_flat flat_nil) | (refine covP_all ?_) | (refine covL_each ?_) | (refine ⟨?_, ?_⟩) | ((conv => whnf); (first | exact True.intro | (with_reducible exact rfl) | (guard_target =~ @Eq Nat _ _; first | exact rfl | omega) | (guard_target =~ List.map _ _ = []; exact rfl) | (first | exact congrArg (Value.int _) (sign_back ⟨by omega, num9 (by omega)⟩).symm | exact congrArg (Value.int _) (sign_back ⟨by omega, num9 (by omega)⟩) | exact congrArg (Value.int _) (by (try dsimp only); omega) | (guard_target =~ @Eq (List Value) _ _; exact rfl)) | (exact congrArg (Value.int _) (by omega)) | (exact covL_flat (flat_map (fun _ => rfl) _)) | (exact covL_flat flat_nil) | (refine covP_all ?_) | (refine covL_each ?_) | (refine ⟨?_, ?_⟩) | done)))); (first | done | fail)) (by rfl) (by rfl))); exact .of (k_none hb) rfl rfl str_none rfl rfl)
    | ((refine Ends.go (((0 : Int), (0 : Int), (⟨#[]⟩ : ByteArray), (1 : Int), (0 : Int))) ?_ [] (Fit.q (by (repeat' (first | exact True.intro | (with_reducible exact rfl) | (guard_target =~ @Eq Nat _ _; first | exact rfl | omega) | (guard_target =~ List.map _ _ = []; exact rfl) | (first | exact congrArg (Value.int _) (sign_back ⟨by omega, num9 (by omega)⟩).symm | exact congrArg (Value.int _) (sign_back ⟨by omega, num9 (by omega)⟩) | exact congrArg (Value.int _) (by (try dsimp only); omega) | (guard_target =~ @Eq (List Value) _ _; exact rfl)) | (exact congrArg (Value.int _) (by omega)) | (exact covL_flat (flat_map (fun _ => rfl) _)) | (exact covL_flat flat_nil) | (refine covP_all ?_) | (refine covL_each ?_) | (refine ⟨?_, ?_⟩) | ((conv => whnf); (first | exact True.intro | (with_reducible exact rfl) | (guard_target =~ @Eq Nat _ _; first | exact rfl | omega) | (guard_target =~ List.map _ _ = []; exact rfl) | (first | exact congrArg (Value.int _) (sign_back ⟨by omega, num9 (by omega)⟩).symm | exact congrArg (Value.int _) (sign_back ⟨by omega, num9 (by omega)⟩) | exact congrArg (Value.int _) (by (try dsimp only); omega) | (guard_target =~ @Eq (List Value) _ _; exact rfl)) | (exact congrArg (Value.int _) (by omega)) | (exact covL_flat (flat_map (fun _ => rfl) _)) | (exact covL_flat flat_nil) | (refine covP_all ?_) | (refine covL_each ?_) | (refine ⟨?_, ?_⟩) | done)))); (first | done | fail)) (by rfl) (by rfl))); exact .of (k_null hp hb) rfl rfl str_none rfl rfl)
    | ((refine Ends.go (((0 : Int), (0 : Int), (⟨#[]⟩ : ByteArray), (0 : Int), (3 : Int))) ?_ [] (Fit.q (by (repeat' (first | exact True.intro | (with_reducible exact rfl) | (guard_target =~ @Eq Nat _ _; first | exact rfl | omega) | (guard_target =~ List.map _ _ = []; exact rfl) | (first | exact congrArg (Value.int _) (sign_back ⟨by omega, num9 (by omega)⟩).symm | exact congrArg (Value.int _) (sign_back ⟨by omega, num9 (by omega)⟩) | exact congrArg (Value.int _) (by (try dsimp only); omega) | (guard_target =~ @Eq (List Value) _ _; exact rfl)) | (exact congrArg (Value.int _) (by omega)) | (exact covL_flat (flat_map (fun _ => rfl) _)) | (exact covL_flat flat_nil) | (refine covP_all ?_) | (refine covL_each ?_) | (refine ⟨?_, ?_⟩) | ((conv => whnf); (first | exact True.intro | (with_reducible exact rfl) | (guard_target =~ @Eq Nat _ _; first | exact rfl | omega) | (guard_target =~ List.map _ _ = []; exact rfl) | (first | exact congrArg (Value.int _) (sign_back ⟨by omega, num9 (by omega)⟩).symm | exact congrArg (Value.int _) (sign_back ⟨by omega, num9 (by omega)⟩) | exact congrArg (Value.int _) (by (try dsimp only); omega) | (guard_target =~ @Eq (List Value) _ _; exact rfl)) | (exact congrArg (Value.int _) (by omega)) | (exact covL_flat (flat_map (fun _ => rfl) _)) | (exact covL_flat flat_nil) | (refine covP_all ?_) | (refine covL_each ?_) | (refine ⟨?_, ?_⟩) | done)))); (first | done | fail)) (by rfl) (by rfl))); exact .of (k_short hp ‹_› hb) rfl rfl str_none rfl rfl)
    | ((refine Ends.go (((1 : Int), ((numOf (bytesOf (s.extract 1 9)) : Nat) : Int) - 9223372036854775808, (⟨#[]⟩ : ByteArray), (9 : Int), (0 : Int))) ?_ [] (Fit.q (by (repeat' (first | exact True.intro | (with_reducible exact rfl) | (guard_target =~ @Eq Nat _ _; first | exact rfl | omega) | (guard_target =~ List.map _ _ = []; exact rfl) | (first | exact congrArg (Value.int _) (sign_back ⟨by omega, num9 (by omega)⟩).symm | exact congrArg (Value.int _) (sign_back ⟨by omega, num9 (by omega)⟩) | exact congrArg (Value.int _) (by (try dsimp only); omega) | (guard_target =~ @Eq (List Value) _ _; exact rfl)) | (exact congrArg (Value.int _) (by omega)) | (exact covL_flat (flat_map (fun _ => rfl) _)) | (exact covL_flat flat_nil) | (refine covP_all ?_) | (refine covL_each ?_) | (refine ⟨?_, ?_⟩) | ((conv => whnf); (first | exact True.intro | (with_reducible exact rfl) | (guard_target =~ @Eq Nat _ _; first | exact rfl | omega) | (guard_target =~ List.map _ _ = []; exact rfl) | (first | exact congrArg (Value.int _) (sign_back ⟨by omega, num9 (by omega)⟩).symm | exact congrArg (Value.int _) (sign_back ⟨by omega, num9 (by omega)⟩) | exact congrArg (Value.int _) (by (try dsimp only); omega) | (guard_target =~ @Eq (List Value) _ _; exact rfl)) | (exact congrArg (Value.int _) (by omega)) | (exact covL_flat (flat_map (fun _ => rfl) _)) | (exact covL_flat flat_nil) | (refine covP_all ?_) | (refine covL_each ?_) | (refine ⟨?_, ?_⟩) | done)))); (first | done | fail)) (by rfl) (by rfl))); exact .of (k_int (by omega) ‹_›) rfl rfl str_none rfl rfl)
    | (have hk := k_text hp (by first | exact .inl ‹_› | exact .inr ‹_›); rw [if_neg (by rw [← he]; exact hb)] at hk; (refine Ends.go (((0 : Int), (0 : Int), (⟨#[]⟩ : ByteArray), (0 : Int), ue)) ?_ [] (Fit.q (by (repeat' (first | exact True.intro | (with_reducible exact rfl) | (guard_target =~ @Eq Nat _ _; first | exact rfl | omega) | (guard_target =~ List.map _ _ = []; exact rfl) | (first | exact congrArg (Value.int _) (sign_back ⟨by omega, num9 (by omega)⟩).symm | exact congrArg (Value.int _) (sign_back ⟨by omega, num9 (by omega)⟩) | exact congrArg (Value.int _) (by (try dsimp only); omega) | (guard_target =~ @Eq (List Value) _ _; exact rfl)) | (exact congrArg (Value.int _) (by omega)) | (exact covL_flat (flat_map (fun _ => rfl) _)) | (exact covL_flat flat_nil) | (refine covP_all ?_) | (refine covL_each ?_) | (refine ⟨?_, ?_⟩) | ((conv => whnf); (first | exact True.intro | (with_reducible exact rfl) | (guard_target =~ @Eq Nat _ _; first | exact rfl | omega) | (guard_target =~ List.map _ _ = []; exact rfl) | (first | exact congrArg (Value.int _) (sign_back ⟨by omega, num9 (by omega)⟩).symm | exact congrArg (Value.int _) (sign_back ⟨by omega, num9 (by omega)⟩) | exact congrArg (Value.int _) (by (try dsimp only); omega) | (guard_target =~ @Eq (List Value) _ _; exact rfl)) | (exact congrArg (Value.int _) (by omega)) | (exact covL_flat (flat_map (fun _ => rfl) _)) | (exact covL_flat flat_nil) | (refine covP_all ?_) | (refine covL_each ?_) | (refine ⟨?_, ?_⟩) | done)))); (first | done | fail)) (by rfl) (by rfl))); exact .of hk rfl rfl str_none rfl he)
    | (have hk := k_text hp (by first | exact .inl ‹_› | exact .inr ‹_›); rw [if_pos (by rw [← he]; exact hb)] at hk; (refine Ends.go (((((bytesOf s).getD 0 0).toNat : Int), (0 : Int), ud, un + 1, (0 : Int))) ?_ [] (Fit.q (by (repeat' (first | exact True.intro | (with_reducible exact rfl) | (guard_target =~ @Eq Nat _ _; first | exact rfl | omega) | (guard_target =~ List.map _ _ = []; exact rfl) | (first | exact congrArg (Value.int _) (sign_back ⟨by omega, num9 (by omega)⟩).symm | exact congrArg (Value.int _) (sign_back ⟨by omega, num9 (by omega)⟩) | exact congrArg (Value.int _) (by (try dsimp only); omega) | (guard_target =~ @Eq (List Value) _ _; exact rfl)) | (exact congrArg (Value.int _) (by omega)) | (exact covL_flat (flat_map (fun _ => rfl) _)) | (exact covL_flat flat_nil) | (refine covP_all ?_) | (refine covL_each ?_) | (refine ⟨?_, ?_⟩) | ((conv => whnf); (first | exact True.intro | (with_reducible exact rfl) | (guard_target =~ @Eq Nat _ _; first | exact rfl | omega) | (guard_target =~ List.map _ _ = []; exact rfl) | (first | exact congrArg (Value.int _) (sign_back ⟨by omega, num9 (by omega)⟩).symm | exact congrArg (Value.int _) (sign_back ⟨by omega, num9 (by omega)⟩) | exact congrArg (Value.int _) (by (try dsimp only); omega) | (guard_target =~ @Eq (List Value) _ _; exact rfl)) | (exact congrArg (Value.int _) (by omega)) | (exact covL_flat (flat_map (fun _ => rfl) _)) | (exact covL_flat flat_nil) | (refine covP_all ?_) | (refine covL_each ?_) | (refine ⟨?_, ?_⟩) | done)))); (first | done | fail)) (by rfl) (by rfl))); exact .of hk rfl rfl hd (by dsimp only; omega) rfl)
    | ((refine Ends.go (((0 : Int), (0 : Int), (⟨#[]⟩ : ByteArray), (0 : Int), (4 : Int))) ?_ [] (Fit.q (by (repeat' (first | exact True.intro | (with_reducible exact rfl) | (guard_target =~ @Eq Nat _ _; first | exact rfl | omega) | (guard_target =~ List.map _ _ = []; exact rfl) | (first | exact congrArg (Value.int _) (sign_back ⟨by omega, num9 (by omega)⟩).symm | exact congrArg (Value.int _) (sign_back ⟨by omega, num9 (by omega)⟩) | exact congrArg (Value.int _) (by (try dsimp only); omega) | (guard_target =~ @Eq (List Value) _ _; exact rfl)) | (exact congrArg (Value.int _) (by omega)) | (exact covL_flat (flat_map (fun _ => rfl) _)) | (exact covL_flat flat_nil) | (refine covP_all ?_) | (refine covL_each ?_) | (refine ⟨?_, ?_⟩) | ((conv => whnf); (first | exact True.intro | (with_reducible exact rfl) | (guard_target =~ @Eq Nat _ _; first | exact rfl | omega) | (guard_target =~ List.map _ _ = []; exact rfl) | (first | exact congrArg (Value.int _) (sign_back ⟨by omega, num9 (by omega)⟩).symm | exact congrArg (Value.int _) (sign_back ⟨by omega, num9 (by omega)⟩) | exact congrArg (Value.int _) (by (try dsimp only); omega) | (guard_target =~ @Eq (List Value) _ _; exact rfl)) | (exact congrArg (Value.int _) (by omega)) | (exact covL_flat (flat_map (fun _ => rfl) _)) | (exact covL_flat flat_nil) | (refine covP_all ?_) | (refine covL_each ?_) | (refine ⟨?_, ?_⟩) | done)))); (first | done | fail)) (by rfl) (by rfl))); exact .of (k_else hp ‹_› ‹_› ‹_› ‹_›) rfl rfl str_none rfl rfl)
    | trace_state
end Go.Proofs.YtdiacjlnedccpaaDoor
