/- The walks through Key: the program's and the reference's; the reference's Digits and Show. -/
import Derived.Test.YtajmmolfnjdanaaGreatDoorValAwake
import Derived.Test.YtajmmolfnjdanaaGreatDoorValBackT
import Derived.Test.YtajmmolfnjdanaaGreatDoorValRUnkey
namespace Go.Proofs.YtajmmolfnjdanaaGreatDoor
open Go.RowKit
set_option linter.unusedSimpArgs false
set_option linter.unusedVariables false
/-- A variable that holds a number stands at block g. -/
def MaxAt (g : Nat) (o : Obj) : Prop := ∀ w : World, w.heap[g]? = some o → ∃ m, w.cell? ⟨0, 0, none⟩ = some (.int .i64 m)
theorem c_replace {g : Nat} {o : Obj} (hM : MaxAt g o) (s : ByteArray) (hs : s.size ≤ 2000) (w : World) (hw : w.heap[g]? = some o) :
    Calls Tryz.prog 60 #[.string s, .string ⟨#[0]⟩, .string ⟨#[0, 255]⟩] w fun e w' => e = .returned (.string (strOf ((bytesOf s).flatMap keyB))) ∧ Below w.heap.size w w' := by
  obtain ⟨m, hm⟩ := hM w hw
  have hc : Lib.countB s ⟨#[0]⟩ ≤ s.size := by have := count_one (bytesOf s) 0; rw [bytesOf_length] at this; exact this
  refine (Tryz.strings_ReplaceAll s ⟨#[0]⟩ ⟨#[0, 255]⟩ m w (by omega) hm (by decide) (by show s.size + Lib.countB s ⟨#[0]⟩ * 2 ≤ _; omega)).mono ?_
  rintro e w' ⟨rfl, hb⟩
  exact ⟨by rw [← rep_key]; unfold bytesOf; rfl, hb⟩
structure KeyD (k n : Int) (s : ByteArray) (z : ByteArray) : Prop where
  bad : ¬ OkV (k, n, s) → z = strOf []
  ok : OkV (k, n, s) → z = strOf (keyL (k, n, s))
theorem KeyD.uniq {k n : Int} {s y z : ByteArray} (h : KeyD k n s y) (h' : KeyD k n s z) : y = z := by
  by_cases ok : OkV (k, n, s)
  · rw [h.ok ok, h'.ok ok]
  · rw [h.bad ok, h'.bad ok]
theorem kb_byte {k : Int} {s : ByteArray} {n x : Int} (h : OkV (k, n, s)) (hx : x = k) : [Value.int .u8 x] = [UInt8.ofNat k.toNat].map byteV' := by
  have := ok_kind h
  dsimp only at this
  subst hx
  have e : (((UInt8.ofNat x.toNat).toNat : Nat) : Int) = x := by rw [UInt8.toNat_ofNat']; omega
  show _ = [Value.int .u8 (((UInt8.ofNat x.toNat).toNat : Nat) : Int)]
  rw [e]
theorem k_ok0 {k n : Int} {s : ByteArray} (ok : OkV (k, n, s)) (h : k = 0) : KeyD k n s (strOf [UInt8.ofNat k.toNat]) :=
  ⟨fun x => absurd ok x, fun _ => by unfold keyL; rw [if_pos h, h]; rfl⟩
theorem k_ok1 {k n : Int} {s : ByteArray} (ok : OkV (k, n, s)) (h : k = 1) : KeyD k n s (strOf [UInt8.ofNat k.toNat] ++ strOf (fixedL (n + 9223372036854775808).toNat 8)) :=
  ⟨fun x => absurd ok x, fun _ => by unfold keyL; rw [if_neg (by dsimp only; omega), if_pos h, h, ← strOf_append]; rfl⟩
theorem k_ok2 {k n : Int} {s : ByteArray} (ok : OkV (k, n, s)) (h0 : ¬ k = 0) (h1 : ¬ k = 1) {z : ByteArray} (hz : z = strOf (UInt8.ofNat k.toNat :: ((bytesOf s).flatMap keyB ++ [0, 1]))) : KeyD k n s z :=
  ⟨fun x => absurd ok x, fun _ => by unfold keyL; rw [if_neg h0, if_neg h1]; exact hz⟩
theorem k_bad {k n : Int} {s : ByteArray} (ok : ¬ OkV (k, n, s)) : KeyD k n s ⟨#[]⟩ := ⟨fun _ => rfl, fun x => absurd x ok⟩
theorem join3 (k : UInt8) (l : List UInt8) : strOf [k] ++ strOf l ++ ⟨#[0, 1]⟩ = strOf (k :: (l ++ [0, 1])) := by
  have : (⟨#[0, 1]⟩ : ByteArray) = strOf [0, 1] := rfl
  rw [this, ← strOf_append, ← strOf_append]; rfl
theorem g_not {k n : Int} {s : ByteArray} {g : Bool} (hg : g = true ↔ OkV (k, n, s)) (hb : g = false) : ¬ OkV (k, n, s) := fun h => by rw [hg.2 h] at hb; cases hb
theorem take_key {l : List UInt8} {i : Nat} (h : i < l.length) : (l.take (i + 1)).flatMap keyB = (l.take i).flatMap keyB ++ keyB (l.getD i 0) := by
  rw [List.take_add_one, List.getD_eq_getElem?_getD, List.getElem?_eq_getElem h]; simp only [Option.toList_some, Option.getD_some, List.flatMap_append, List.flatMap_cons, List.flatMap_nil, List.append_nil]
theorem take_escD {l : List UInt8} {i : Nat} (h : i < l.length) : (l.take (i + 1)).flatMap escB = (l.take i).flatMap escB ++ escB (l.getD i 0) := by
  rw [List.take_add_one, List.getD_eq_getElem?_getD, List.getElem?_eq_getElem h]; simp only [Option.toList_some, Option.getD_some, List.flatMap_append, List.flatMap_cons, List.flatMap_nil, List.append_nil]
theorem key_len (l : List UInt8) : (l.flatMap keyB).length ≤ 2 * l.length := by
  induction l with
  | nil => exact Nat.le_refl _
  | cons b l ih =>
    rw [List.flatMap_cons, List.length_append, List.length_cons]
    have : (keyB b).length ≤ 2 := by unfold keyB; split <;> simp
    omega
theorem key_size (s : ByteArray) : (strOf ((bytesOf s).flatMap keyB)).size ≤ 2 * s.size := by
  have := key_len (bytesOf s)
  rw [strOf_size]; rwa [bytesOf_length] at this
theorem wu8k {k n : Int} {s : ByteArray} {q : Bool} (hq : q = true ↔ OkV (k, n, s)) (h : q = true) : k = IntKind.u8.wrap k := by
  have := ok_kind (hq.1 h)
  dsimp only at this
  exact wu8 (by omega) (by omega)
attribute [local irreducible] bytesOf strOf strEq strLt sfrom fixedL
set_option maxRecDepth 100000 in
set_option maxHeartbeats 4000000 in
theorem key_c (g : Nat) (o : Obj) (hM : MaxAt g o) (k n : Int) (s : ByteArray) (hn : -9223372036854775808 ≤ n ∧ n ≤ 9223372036854775807) :
    CallOb Tryz.prog 39 [.agg (valv k n s).toArray] [(0, .gv g o)] 1 (fun v hh m => ∃ z : ByteArray, KeyD k n s z ∧ v = .string z ∧ hh = [] ∧ m = 1) := by
  refine call_spec tabOk mixed Tryz.call39 Tryz.func39 rfl [] (fun z : ByteArray => KeyD k n s z) (fun z => .string z) (fun _ => []) (fun _ => 1) ?_ ?_
  · exact (Nat.le_of_ble_eq_true rfl)
  (repeat' ((try (conv => whnf)); first | (guard_target =~ ∃ (_ : Value), ∃ (_ : HP), ∃ (_ : HP), _; refine ⟨_, _, _, (by refine ⟨?_, ?_, ?_⟩; (first | apply rR_tuple | apply rR_one rfl | exact rfl); all_goals (repeat' (first | (with_reducible (first | exact relH_nil | apply rn_lst | apply rn_own | apply rn_mp | apply rn_row | exact wo_nil)) | apply wo_keep rfl | apply wo_drop rfl | exact relH_nil | exact r1_flat rfl | exact r0_flat rfl | exact rl_nil | exact wo_nil | exact bk_old rfl | exact bk_new rfl | exact bk_nil rfl | apply rl_cons | (fail) | exact relL_flat (flat_map (fun _ => rfl) _) | exact relL_flat flat_nil | apply relL_to | apply rn_lst | apply rn_own | apply rn_mp | apply rn_row | apply relH_view rfl | apply relH_lview rfl | apply wo_keep rfl | apply wo_drop rfl | apply r1_agg | apply rn_ptr | apply rn_slice | apply rn_iface | apply rn_map | apply rn_ifacem | apply r0_map | apply r0_ifacem | apply r0_ptr | apply r0_slice | apply r0_iface)); (first | done | fail)), ?_⟩; (try (dsimp only [Nat.reduceAdd, List.cons_append, List.nil_append]))) | ((guard_target =~ CallOb _ 33 _ _ _ _; refine call_q (vgood_c k n s) [] (by (repeat' (first | exact True.intro | (with_reducible exact rfl) | (guard_target =~ @Eq Nat _ _; first | exact rfl | omega) | (guard_target =~ List.map _ _ = []; exact rfl) | (first | exact congrArg (Value.int _) (by (try dsimp only); omega) | (guard_target =~ @Eq (List Value) _ _; exact rfl)) | (exact congrArg (Value.int _) (by omega)) | (exact covL_flat (flat_map (fun _ => rfl) _)) | (exact covL_flat flat_nil) | (refine covP_all ?_) | (refine covL_each ?_) | (refine ⟨?_, ?_⟩) | ((conv => whnf); (first | exact True.intro | (with_reducible exact rfl) | (guard_target =~ @Eq Nat _ _; first | exact rfl | omega) | (guard_target =~ List.map _ _ = []; exact rfl) | (first | exact congrArg (Value.int _) (by (try dsimp only); omega) | (guard_target =~ @Eq (List Value) _ _; exact rfl)) | (exact congrArg (Value.int _) (by omega)) | (exact covL_flat (flat_map (fun _ => rfl) _)) | (exact covL_flat flat_nil) | (refine covP_all ?_) | (refine covL_each ?_) | (refine ⟨?_, ?_⟩) | done)))); (first | done | fail)) (by rfl) (by rfl) (by rfl) (fun v h1 n1 hp => ?_); obtain ⟨q, hq, rfl, rfl, rfl⟩ := hp); (try (dsimp only [Nat.reduceAdd, List.cons_append, List.nil_append]))) | (refine ⟨[UInt8.ofNat k.toNat], kb_byte (hq.1 ‹_›) rfl, rfl, ?_⟩) | (with_reducible refine ⟨k, wu8k hq ‹_›, ?_⟩) | (refine ⟨by rw [ByteArray.size_append]; omega, ?_⟩) | (refine ⟨n + 9223372036854775808, sign_up hn, ?_⟩) | (guard_target =~ CallOb _ 59 _ _ _ _; (with_reducible refine call_pure Tryz.call59 (c_fixed8 (n + 9223372036854775808) (by omega)) ?_ ?_ ?_); exact rfl; exact rfl) | (guard_target =~ CallOb _ 60 _ _ _ _; have hs2 := ok_text (hq.1 ‹_›) ‹_› ‹_›; have hs4 := key_size s; have hs1 : (strOf [UInt8.ofNat k.toNat]).size = 1 := strOf_size _; have hse : (⟨#[0, 1]⟩ : ByteArray).size = 2 := rfl; (with_reducible refine call_var Tryz.call60 (fun w H => c_replace hM s (ok_text (hq.1 ‹_›) ‹_› ‹_›) w (H 0 g o rfl)) ?_ ?_ ?_); exact rfl; exact rfl) | (with_reducible refine chk_in (Nat.ble_eq_true_of_le (by omega)) ?_) | (with_reducible refine ifB_in ?_ ?_ <;> intro hb <;> (try simp only [decide_eq_true_eq, decide_eq_false_iff_not, Int.not_lt, Int.not_le, ne_eq, Decidable.not_not, Bool.not_eq_true', Bool.not_eq_false', gt_iff_lt, ge_iff_le] at hb) <;> (try (exfalso; omega))) | (with_reducible refine ⟨_, w64b _, ?_⟩) | (with_reducible refine ⟨_, w64 (by omega) (by omega), ?_⟩) | (with_reducible refine ⟨_, wu64 (by omega) (by omega), ?_⟩) | (with_reducible refine ⟨_, wu8 (by omega) (by omega), ?_⟩) | (with_reducible refine ⟨_, w64 (by (simp only [size_sfrom, ByteArray.size_extract, ByteArray.size_append, strOf_size, fixedL_length, lit_size, List.size_toArray, List.length_cons, List.length_nil, List.length_append, List.length_replicate]; omega)) (by (simp only [size_sfrom, ByteArray.size_extract, ByteArray.size_append, strOf_size, fixedL_length, lit_size, List.size_toArray, List.length_cons, List.length_nil, List.length_append, List.length_replicate]; omega)), ?_⟩) | (with_reducible refine ⟨_, rfl, ?_⟩) | (with_reducible refine ⟨rfl, ?_⟩) | (intro cap) | (with_reducible refine ⟨trivial, ?_⟩) | (guard_target =~ (planChk _ _ = true) ∧ _; refine ⟨by kernel_rfl, ?_⟩) | (guard_target =~ (_ ∧ _) ∧ _; refine ⟨by ((repeat (first | exact trivial | refine ⟨rfl, ?_⟩)); (first | done | fail)), ?_⟩) | (refine ⟨by omega, ?_⟩) | (refine ⟨by (simp only [size_sfrom, ByteArray.size_extract, ByteArray.size_append, strOf_size, fixedL_length, lit_size, List.size_toArray, List.length_cons, List.length_nil, List.length_append, List.length_replicate]; omega), ?_⟩) | (refine ⟨0, rfl, ?_⟩) | (refine ⟨1, rfl, ?_⟩) | (refine ⟨2, rfl, ?_⟩) | (refine ⟨3, rfl, ?_⟩) | (refine ⟨4, rfl, ?_⟩) | (refine ⟨5, rfl, ?_⟩) | (refine cell_at1 (by assumption) ?_) | (refine cell_in1 (by omega) (fun x hx => ?_)) | fail)) <;> (try (conv => whnf))
  all_goals first
    | (exfalso; omega)
    | ((refine Ends.go ((⟨#[]⟩ : ByteArray)) ?_ [] (Fit.q (by (repeat' (first | exact True.intro | (with_reducible exact rfl) | (guard_target =~ @Eq Nat _ _; first | exact rfl | omega) | (guard_target =~ List.map _ _ = []; exact rfl) | (first | exact congrArg (Value.int _) (by (try dsimp only); omega) | (guard_target =~ @Eq (List Value) _ _; exact rfl)) | (exact congrArg (Value.int _) (by omega)) | (exact covL_flat (flat_map (fun _ => rfl) _)) | (exact covL_flat flat_nil) | (refine covP_all ?_) | (refine covL_each ?_) | (refine ⟨?_, ?_⟩) | ((conv => whnf); (first | exact True.intro | (with_reducible exact rfl) | (guard_target =~ @Eq Nat _ _; first | exact rfl | omega) | (guard_target =~ List.map _ _ = []; exact rfl) | (first | exact congrArg (Value.int _) (by (try dsimp only); omega) | (guard_target =~ @Eq (List Value) _ _; exact rfl)) | (exact congrArg (Value.int _) (by omega)) | (exact covL_flat (flat_map (fun _ => rfl) _)) | (exact covL_flat flat_nil) | (refine covP_all ?_) | (refine covL_each ?_) | (refine ⟨?_, ?_⟩) | done)))); (first | done | fail)) (by rfl) (by rfl))); exact k_bad (g_not hq hb))
    | ((refine Ends.go (strOf [UInt8.ofNat k.toNat]) ?_ [] (Fit.q (by (repeat' (first | exact True.intro | (with_reducible exact rfl) | (guard_target =~ @Eq Nat _ _; first | exact rfl | omega) | (guard_target =~ List.map _ _ = []; exact rfl) | (first | exact congrArg (Value.int _) (by (try dsimp only); omega) | (guard_target =~ @Eq (List Value) _ _; exact rfl)) | (exact congrArg (Value.int _) (by omega)) | (exact covL_flat (flat_map (fun _ => rfl) _)) | (exact covL_flat flat_nil) | (refine covP_all ?_) | (refine covL_each ?_) | (refine ⟨?_, ?_⟩) | ((conv => whnf); (first | exact True.intro | (with_reducible exact rfl) | (guard_target =~ @Eq Nat _ _; first | exact rfl | omega) | (guard_target =~ List.map _ _ = []; exact rfl) | (first | exact congrArg (Value.int _) (by (try dsimp only); omega) | (guard_target =~ @Eq (List Value) _ _; exact rfl)) | (exact congrArg (Value.int _) (by omega)) | (exact covL_flat (flat_map (fun _ => rfl) _)) | (exact covL_flat flat_nil) | (refine covP_all ?_) | (refine covL_each ?_) | (refine ⟨?_, ?_⟩) | done)))); (first | done | fail)) (by rfl) (by rfl))); exact k_ok0 (hq.1 ‹_›) hb)
    | ((refine Ends.go (strOf [UInt8.ofNat k.toNat] ++ strOf (fixedL (n + 9223372036854775808).toNat 8)) ?_ [] (Fit.q (by (repeat' (first | exact True.intro | (with_reducible exact rfl) | (guard_target =~ @Eq Nat _ _; first | exact rfl | omega) | (guard_target =~ List.map _ _ = []; exact rfl) | (first | exact congrArg (Value.int _) (by (try dsimp only); omega) | (guard_target =~ @Eq (List Value) _ _; exact rfl)) | (exact congrArg (Value.int _) (by omega)) | (exact covL_flat (flat_map (fun _ => rfl) _)) | (exact covL_flat flat_nil) | (refine covP_all ?_) | (refine covL_each ?_) | (refine ⟨?_, ?_⟩) | ((conv => whnf); (first | exact True.intro | (with_reducible exact rfl) | (guard_target =~ @Eq Nat _ _; first | exact rfl | omega) | (guard_target =~ List.map _ _ = []; exact rfl) | (first | exact congrArg (Value.int _) (by (try dsimp only); omega) | (guard_target =~ @Eq (List Value) _ _; exact rfl)) | (exact congrArg (Value.int _) (by omega)) | (exact covL_flat (flat_map (fun _ => rfl) _)) | (exact covL_flat flat_nil) | (refine covP_all ?_) | (refine covL_each ?_) | (refine ⟨?_, ?_⟩) | done)))); (first | done | fail)) (by rfl) (by rfl))); exact k_ok1 (hq.1 ‹_›) hb)
    | ((refine Ends.go (strOf [UInt8.ofNat k.toNat] ++ strOf ((bytesOf s).flatMap keyB) ++ ⟨#[0, 1]⟩) ?_ [] (Fit.q (by (repeat' (first | exact True.intro | (with_reducible exact rfl) | (guard_target =~ @Eq Nat _ _; first | exact rfl | omega) | (guard_target =~ List.map _ _ = []; exact rfl) | (first | exact congrArg (Value.int _) (by (try dsimp only); omega) | (guard_target =~ @Eq (List Value) _ _; exact rfl)) | (exact congrArg (Value.int _) (by omega)) | (exact covL_flat (flat_map (fun _ => rfl) _)) | (exact covL_flat flat_nil) | (refine covP_all ?_) | (refine covL_each ?_) | (refine ⟨?_, ?_⟩) | ((conv => whnf); (first | exact True.intro | (with_reducible exact rfl) | (guard_target =~ @Eq Nat _ _; first | exact rfl | omega) | (guard_target =~ List.map _ _ = []; exact rfl) | (first | exact congrArg (Value.int _) (by (try dsimp only); omega) | (guard_target =~ @Eq (List Value) _ _; exact rfl)) | (exact congrArg (Value.int _) (by omega)) | (exact covL_flat (flat_map (fun _ => rfl) _)) | (exact covL_flat flat_nil) | (refine covP_all ?_) | (refine covL_each ?_) | (refine ⟨?_, ?_⟩) | done)))); (first | done | fail)) (by rfl) (by rfl))); exact k_ok2 (hq.1 ‹_›) ‹_› ‹_› (join3 _ _))
    | trace_state
end Go.Proofs.YtajmmolfnjdanaaGreatDoor
