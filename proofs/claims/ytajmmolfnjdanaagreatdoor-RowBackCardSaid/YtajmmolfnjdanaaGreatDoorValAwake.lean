/- The walk through awake. -/
import Derived.Test.YtajmmolfnjdanaaGreatDoorValParse
namespace Go.Proofs.YtajmmolfnjdanaaGreatDoor
open Go.RowKit
set_option linter.unusedSimpArgs false
set_option linter.unusedVariables false
theorem sign_up {n : Int} (h : -9223372036854775808 ≤ n ∧ n ≤ 9223372036854775807) : n + 9223372036854775808 = IntKind.u64.wrap (IntKind.u64.wrap n + 9223372036854775808) := by
  rw [IntKind.wrap_u64, IntKind.wrap_u64]; omega
theorem numd_lit {b : Int} {a : Nat} (h : NumD [45, 53, 41] 1 0 0 b a) : b = -5 ∧ a = 2 := by
  have e1 : Lib.atoiAll [45, 53] = .ok (-5) := by decide +kernel
  have e2 : Lib.itoa (-5) = [45, 53] := by decide +kernel
  have d1 : Dig [45, 53, 41] 1 := by decide
  have d2 : ¬ Dig [45, 53, 41] 2 := by decide
  cases h with
  | stop hd => exact absurd d1 hd
  | cut _ hc => exact absurd ⟨e1, e2⟩ (hc (-5))
  | step _ hn _ hr =>
    have e : Lib.atoiAll [45, 53] = .ok _ := hn
    rw [e1] at e
    injection e with e
    subst e
    cases hr with
    | stop _ => exact ⟨rfl, rfl⟩
    | cut hd _ => exact absurd hd d2
    | step hd _ _ _ => exact absurd hd d2
theorem lit1 {z : Res} (h : ParD ⟨#[45, 53, 41]⟩ z) : eqVal z.1 z.2.1 z.2.2.1 1 (-5) ⟨#[]⟩ = true ∧ z.2.2.2.1 = 2 ∧ z.2.2.2.2 = 0 := by
  obtain ⟨y, ⟨b, a, hN, hy⟩, rfl⟩ := h.num (by decide) (by decide) (by decide)
  have hN' : NumD [45, 53, 41] 1 0 0 b a := hN
  obtain ⟨rfl, rfl⟩ := numd_lit hN'
  rcases hy with ⟨h0, _⟩ | ⟨_, rfl⟩
  · exact absurd h0 (by decide)
  · exact ⟨eqVal_iff.2 ⟨rfl, rfl, rfl⟩, rfl, rfl⟩
theorem lit2 {z : Res} (h : ParD ⟨#[39, 97]⟩ z) : z.2.2.2.2 = 4 := by
  obtain ⟨q, hq, hz⟩ := h.text (by decide) (by decide)
  have e : q.2.2.2 = 4 := by rw [hq.e]; decide +kernel
  rcases hz with ⟨h0, _⟩ | ⟨_, rfl⟩
  · rw [e] at h0; exact absurd h0 (by decide)
  · exact e
theorem lit3 {z : Res} (h : UnkD ⟨#[2, 97, 0, 255, 0, 1, 120]⟩ z) : eqVal z.1 z.2.1 z.2.2.1 2 0 ⟨#[97, 0]⟩ = true ∧ z.2.2.2.1 = 6 ∧ z.2.2.2.2 = 0 := by
  have e1 : (unkey (bytesOf ⟨#[2, 97, 0, 255, 0, 1, 120]⟩)).k = 2 := by decide +kernel
  have e2 : (unkey (bytesOf ⟨#[2, 97, 0, 255, 0, 1, 120]⟩)).n = 0 := by decide +kernel
  have e3 : (unkey (bytesOf ⟨#[2, 97, 0, 255, 0, 1, 120]⟩)).d = [97, 0] := by decide +kernel
  have e4 : (unkey (bytesOf ⟨#[2, 97, 0, 255, 0, 1, 120]⟩)).m = 6 := by decide +kernel
  have e5 : (unkey (bytesOf ⟨#[2, 97, 0, 255, 0, 1, 120]⟩)).e = 0 := by decide +kernel
  refine ⟨eqVal_iff.2 ⟨h.k.trans e1, h.n.trans e2, ?_⟩, ?_, h.e.trans e5⟩
  · rw [h.d, e3]; rfl
  · rw [h.m, e4]; rfl
theorem ok_lit : OkV (2, 0, ⟨#[105, 116, 39, 115, 10]⟩) := .inr (.inr ⟨.inl rfl, rfl, by decide⟩)
theorem lit4 {z : ByteArray} (h : ShowD 2 0 ⟨#[105, 116, 39, 115, 10]⟩ z) : strEq z ⟨#[39, 105, 116, 39, 39, 115, 92, 48, 97, 39]⟩ = true := by
  have := h.text ok_lit rfl
  have e : quoteL (bytesOf ⟨#[105, 116, 39, 115, 10]⟩) = [39, 105, 116, 39, 39, 115, 92, 48, 97, 39] := by decide +kernel
  rw [this, e, strEq_eq]; rfl
theorem lit5 {z : ByteArray} (h : z = strOf (1 :: fixedL ((1 : Int) + 9223372036854775808).toNat 8)) : strEq z ⟨#[1, 128, 0, 0, 0, 0, 0, 0, 1]⟩ = true := by
  have e : (1 : UInt8) :: fixedL ((1 : Int) + 9223372036854775808).toNat 8 = [1, 128, 0, 0, 0, 0, 0, 0, 1] := by decide +kernel
  rw [h, e, strEq_eq]; rfl
theorem ok_zero : OkV (0, 0, ⟨#[]⟩) := .inl ⟨rfl, rfl, rfl⟩
theorem lit6 : cmpV (0, 0, ⟨#[]⟩) (2, 0, ⟨#[105, 116, 39, 115, 10]⟩) = -1 := by decide +kernel
theorem bad9 : ¬ OkV (9, 0, ⟨#[]⟩) := by
  rintro (⟨h, _⟩ | ⟨h, _⟩ | ⟨h | h, _⟩) <;> cases h
theorem one_byte {x : Int} (hx : x = 1) : [Value.int .u8 x] = [(1 : UInt8)].map byteV' := by subst hx; rfl
attribute [local irreducible] bytesOf strOf strEq strLt sfrom eqVal fixedL cmpV numOf
set_option maxRecDepth 100000 in
set_option maxHeartbeats 4000000 in
theorem key1_c (k n : Int) (s : ByteArray) (hk : k = 1) (h0 : s.size = 0) (hn : -9223372036854775808 ≤ n ∧ n ≤ 9223372036854775807) :
    CallOb Tryz.prog 39 [.agg (valv k n s).toArray] [] 0 (fun v hh m => ∃ z : ByteArray, z = strOf (1 :: fixedL (n + 9223372036854775808).toNat 8) ∧ v = .string z ∧ hh = [] ∧ m = 0) := by
  refine call_spec tabOk mixed Tryz.call39 Tryz.func39 rfl [] (fun z : ByteArray => z = strOf (1 :: fixedL (n + 9223372036854775808).toNat 8)) (fun z => .string z) (fun _ => []) (fun _ => 0) ?_ ?_
  · exact (Nat.le_of_ble_eq_true rfl)
  have okk : OkV (k, n, s) := .inr (.inl ⟨hk, h0⟩)
  (repeat' ((try (conv => whnf)); first | (guard_target =~ ∃ (_ : Value), ∃ (_ : HP), ∃ (_ : HP), _; refine ⟨_, _, _, (by refine ⟨?_, ?_, ?_⟩; (first | apply rR_tuple | apply rR_one rfl | exact rfl); all_goals (repeat' (first | (with_reducible (first | exact relH_nil | apply rn_lst | apply rn_own | apply rn_mp | apply rn_row | exact wo_nil)) | apply wo_keep rfl | apply wo_drop rfl | exact relH_nil | exact r1_flat rfl | exact r0_flat rfl | exact rl_nil | exact wo_nil | exact bk_old rfl | exact bk_new rfl | exact bk_nil rfl | apply rl_cons | (fail) | exact relL_flat (flat_map (fun _ => rfl) _) | exact relL_flat flat_nil | apply relL_to | apply rn_lst | apply rn_own | apply rn_mp | apply rn_row | apply relH_view rfl | apply relH_lview rfl | apply wo_keep rfl | apply wo_drop rfl | apply r1_agg | apply rn_ptr | apply rn_slice | apply rn_iface | apply rn_map | apply rn_ifacem | apply r0_map | apply r0_ifacem | apply r0_ptr | apply r0_slice | apply r0_iface)); (first | done | fail)), ?_⟩; (try (dsimp only [Nat.reduceAdd, List.cons_append, List.nil_append]))) | ((guard_target =~ CallOb _ 33 _ _ _ _; refine call_q (vgood_c k n s) [] (by (repeat' (first | exact True.intro | (with_reducible exact rfl) | (guard_target =~ @Eq Nat _ _; first | exact rfl | omega) | (guard_target =~ List.map _ _ = []; exact rfl) | (first | exact congrArg (Value.int _) (by (try dsimp only); omega) | (guard_target =~ @Eq (List Value) _ _; exact rfl)) | (exact congrArg (Value.int _) (by omega)) | (exact covL_flat (flat_map (fun _ => rfl) _)) | (exact covL_flat flat_nil) | (refine covP_all ?_) | (refine covL_each ?_) | (refine ⟨?_, ?_⟩) | ((conv => whnf); (first | exact True.intro | (with_reducible exact rfl) | (guard_target =~ @Eq Nat _ _; first | exact rfl | omega) | (guard_target =~ List.map _ _ = []; exact rfl) | (first | exact congrArg (Value.int _) (by (try dsimp only); omega) | (guard_target =~ @Eq (List Value) _ _; exact rfl)) | (exact congrArg (Value.int _) (by omega)) | (exact covL_flat (flat_map (fun _ => rfl) _)) | (exact covL_flat flat_nil) | (refine covP_all ?_) | (refine covL_each ?_) | (refine ⟨?_, ?_⟩) | done)))); (first | done | fail)) (by rfl) (by rfl) (by rfl) (fun v h1 n1 hp => ?_); obtain ⟨g, hg, rfl, rfl, rfl⟩ := hp); replace hg := hg.2 okk; (try (dsimp only [Nat.reduceAdd, List.cons_append, List.nil_append]))) | (exfalso; with_reducible exact tf hg hb) | (refine ⟨n + 9223372036854775808, sign_up hn, ?_⟩) | (guard_target =~ CallOb _ 59 _ _ _ _; (with_reducible refine call_pure Tryz.call59 (c_fixed8 (n + 9223372036854775808) (by omega)) ?_ ?_ ?_); exact rfl; exact rfl) | (refine ⟨[1], one_byte hk, rfl, ?_⟩) | (with_reducible refine chk_in (Nat.ble_eq_true_of_le (by omega)) ?_) | (with_reducible refine ifB_in ?_ ?_ <;> intro hb <;> (try simp only [decide_eq_true_eq, decide_eq_false_iff_not, Int.not_lt, Int.not_le, ne_eq, Decidable.not_not, Bool.not_eq_true', Bool.not_eq_false', gt_iff_lt, ge_iff_le] at hb) <;> (try (exfalso; omega))) | (with_reducible refine ⟨_, w64b _, ?_⟩) | (with_reducible refine ⟨_, w64 (by omega) (by omega), ?_⟩) | (with_reducible refine ⟨_, wu64 (by omega) (by omega), ?_⟩) | (with_reducible refine ⟨_, wu8 (by omega) (by omega), ?_⟩) | (with_reducible refine ⟨_, w64 (by (simp only [size_sfrom, ByteArray.size_extract, ByteArray.size_append, strOf_size, fixedL_length, lit_size, List.size_toArray, List.length_cons, List.length_nil, List.length_append, List.length_replicate]; omega)) (by (simp only [size_sfrom, ByteArray.size_extract, ByteArray.size_append, strOf_size, fixedL_length, lit_size, List.size_toArray, List.length_cons, List.length_nil, List.length_append, List.length_replicate]; omega)), ?_⟩) | (with_reducible refine ⟨_, rfl, ?_⟩) | (with_reducible refine ⟨rfl, ?_⟩) | (intro cap) | (with_reducible refine ⟨trivial, ?_⟩) | (guard_target =~ (planChk _ _ = true) ∧ _; refine ⟨by kernel_rfl, ?_⟩) | (guard_target =~ (_ ∧ _) ∧ _; refine ⟨by ((repeat (first | exact trivial | refine ⟨rfl, ?_⟩)); (first | done | fail)), ?_⟩) | (refine ⟨by omega, ?_⟩) | (refine ⟨by (simp only [size_sfrom, ByteArray.size_extract, ByteArray.size_append, strOf_size, fixedL_length, lit_size, List.size_toArray, List.length_cons, List.length_nil, List.length_append, List.length_replicate]; omega), ?_⟩) | (refine ⟨0, rfl, ?_⟩) | (refine ⟨1, rfl, ?_⟩) | (refine ⟨2, rfl, ?_⟩) | (refine ⟨3, rfl, ?_⟩) | (refine ⟨4, rfl, ?_⟩) | (refine ⟨5, rfl, ?_⟩) | (refine cell_at1 (by assumption) ?_) | (refine cell_in1 (by omega) (fun x hx => ?_)) | fail)) <;> (try (conv => whnf))
  all_goals first
    | (exfalso; omega)
    | ((refine Ends.go (strOf [1] ++ strOf (fixedL (n + 9223372036854775808).toNat 8)) ?_ [] (Fit.q (by (repeat' (first | exact True.intro | (with_reducible exact rfl) | (guard_target =~ @Eq Nat _ _; first | exact rfl | omega) | (guard_target =~ List.map _ _ = []; exact rfl) | (first | exact congrArg (Value.int _) (by (try dsimp only); omega) | (guard_target =~ @Eq (List Value) _ _; exact rfl)) | (exact congrArg (Value.int _) (by omega)) | (exact covL_flat (flat_map (fun _ => rfl) _)) | (exact covL_flat flat_nil) | (refine covP_all ?_) | (refine covL_each ?_) | (refine ⟨?_, ?_⟩) | ((conv => whnf); (first | exact True.intro | (with_reducible exact rfl) | (guard_target =~ @Eq Nat _ _; first | exact rfl | omega) | (guard_target =~ List.map _ _ = []; exact rfl) | (first | exact congrArg (Value.int _) (by (try dsimp only); omega) | (guard_target =~ @Eq (List Value) _ _; exact rfl)) | (exact congrArg (Value.int _) (by omega)) | (exact covL_flat (flat_map (fun _ => rfl) _)) | (exact covL_flat flat_nil) | (refine covP_all ?_) | (refine covL_each ?_) | (refine ⟨?_, ?_⟩) | done)))); (first | done | fail)) (by rfl) (by rfl))); rw [← strOf_append]; rfl)
    | trace_state
end Go.Proofs.YtajmmolfnjdanaaGreatDoor
