/- The shelf's calls in whatever state: how far its numbers go; armed calls; calls of no shelf. -/
import Derived.Test.YtcfnokifghpnpaaShelfOnceP
namespace Go.Proofs.Ytcfnokifghpnpaa
open Go.RowKit
set_option linter.unusedSimpArgs false
set_option linter.unusedVariables false
structure BND (h : Hd) : Prop where
  p : 1 ≤ h.p ∧ h.p ≤ 4096
  x : 0 ≤ h.x ∧ h.x ≤ 4096
theorem BND.start : BND ⟨1, 1, 0, 0, 0, 0⟩ := ⟨by decide, by decide⟩
theorem bnd_take {h : Hd} {B : Bk} {z : Took} (H : TakeD h (-1) B z) (hb : BND h) (he : z.e = 0) : BND z.h := by
  obtain ⟨h1, h2⟩ := hb
  rcases H with ⟨_, _, rfl⟩ | ⟨_, _, rfl⟩ | ⟨_, tr, _, ⟨e, rfl⟩ | ⟨_, _, rfl⟩ | ⟨_, _, k, l, y, _, _, _, hY, ⟨e, rfl⟩ | ⟨_, rfl⟩⟩ | ⟨_, _, _, ⟨_, rfl⟩ | ⟨_, rfl⟩⟩⟩
  · cases he
  · exact ⟨by dsimp only; omega, by dsimp only; omega⟩
  · exact absurd he e
  · cases he
  · exact absurd he e
  · exact ⟨by dsimp only; omega, by dsimp only; omega⟩
  · cases he
  · exact ⟨by dsimp only; omega, by dsimp only; omega⟩
theorem bnd_give {h : Hd} {B : Bk} {n : Int} {z : Gave} (H : GiveD h (-1) B n z) (hb : BND h) (he : z.e = 0) : BND z.h := by
  obtain ⟨h1, h2⟩ := hb
  rcases H with ⟨_, rfl⟩ | ⟨_, _, _, rfl⟩ | ⟨_, _, _, _, y, hY, ⟨e, rfl⟩ | ⟨_, rfl⟩⟩ | ⟨_, _, _, _, tr, _, ⟨e, rfl⟩ | ⟨_, _, y, hY, ⟨e, rfl⟩ | ⟨_, rfl⟩⟩ | ⟨_, _, y, hY, ⟨e, rfl⟩ | ⟨_, rfl⟩⟩⟩
  · cases he
  · cases he
  · exact absurd he e
  · exact ⟨by dsimp only; omega, by dsimp only; omega⟩
  · exact absurd he e
  · exact absurd he e
  · exact ⟨by dsimp only; omega, by dsimp only; omega⟩
  · exact absurd he e
  · exact ⟨by dsimp only; omega, by dsimp only; omega⟩
theorem beg_left {p left n : Int} {b : Int × Int} (H : BegD p left n b) (hl : left = -1) : b.2 = -1 := by rcases beg_any H hl with rfl | rfl <;> rfl
theorem rnew_c (lim : Int) (h : Hd) (B : Bk) (hb : BND h) :
    CallOb Try.prog 27 [ptr 0] (shG lim h B (-1)) 2 (fun v hh m => ∃ z : SN, BND z.h ∧ v = .tuple #[iv z.n, iv z.e] ∧ hh = shG lim z.h z.B (-1) ∧ m = 2) := by
  have h1 := hb.p
  have h2 := hb.x
  refine (snew_c lim h B (-1) (by omega) (by omega) (by omega)).mono ?_
  rintro v hh k ⟨z, ⟨b, hB, hz⟩, rfl, rfl, rfl⟩
  have e := beg_left hB rfl
  rcases hz with ⟨_, _, rfl⟩ | ⟨_, ⟨_, _, rfl⟩ | ⟨_, t, hT, ⟨_, rfl⟩ | ⟨e2, rfl⟩⟩⟩
  · exact ⟨_, hb, rfl, by rw [e], rfl⟩
  · exact ⟨_, hb, rfl, by rw [e], rfl⟩
  · exact ⟨_, hb, rfl, by rw [e], rfl⟩
  · exact ⟨_, bnd_take hT hb e2, rfl, by rw [e], rfl⟩
theorem rfree_c (lim : Int) (h : Hd) (B : Bk) (n : Int) (hb : BND h) :
    CallOb Try.prog 29 [ptr 0, iv n] (shG lim h B (-1)) 2 (fun v hh m => ∃ z : SN, BND z.h ∧ v = iv z.e ∧ hh = shG lim z.h z.B (-1) ∧ m = 2) := by
  have h1 := hb.p
  have h2 := hb.x
  refine (sfree_c lim h B (-1) n (by omega) (by omega) (by omega)).mono ?_
  rintro v hh k ⟨z, ⟨b, hB, hz⟩, rfl, rfl, rfl⟩
  have e := beg_left hB rfl
  rcases hz with ⟨_, rfl⟩ | ⟨_, g, hG, ⟨_, rfl⟩ | ⟨e2, rfl⟩⟩
  · exact ⟨_, hb, rfl, by rw [e], rfl⟩
  · exact ⟨_, hb, rfl, by rw [e], rfl⟩
  · exact ⟨_, bnd_give hG hb e2, rfl, by rw [e], rfl⟩
theorem rput_c (lim : Int) (h : Hd) (B : Bk) (n : Int) (d : ByteArray) (hb : BND h) :
    CallOb Try.prog 30 [ptr 0, iv n, .string d] (shG lim h B (-1)) 2 (fun v hh m => ∃ z : SN, BND z.h ∧ v = iv z.e ∧ hh = shG lim z.h z.B (-1) ∧ m = 2) := by
  refine (sput_c lim h B (-1) n d (by omega)).mono ?_
  rintro v hh k ⟨z, ⟨b, hB, hz⟩, rfl, rfl, rfl⟩
  have e := beg_left hB rfl
  rcases hz with ⟨_, rfl⟩ | ⟨_, _, rfl⟩ | ⟨_, _, rfl⟩
  · exact ⟨_, hb, rfl, by rw [e], rfl⟩
  · exact ⟨_, hb, rfl, by rw [e], rfl⟩
  · exact ⟨_, hb, rfl, by rw [e], rfl⟩
/-- Armed. -/
theorem anew_c (lim : Int) (h : Hd) (B : Bk) (left : Int) (hl : left = 0) (hb : BND h) :
    CallOb Try.prog 27 [ptr 0] (shG lim h B left) 2 (fun v hh m => ∃ z : Int × Int × Int, (z.2.1 = 11 ∧ z.2.2 = 0) ∧ v = .tuple #[iv z.1, iv z.2.1] ∧ hh = shG lim h B z.2.2 ∧ m = 2) := by
  have h1 := hb.p
  have h2 := hb.x
  refine (snew_c lim h B left (by omega) (by omega) (by omega)).mono ?_
  rintro v hh k ⟨z, ⟨b, hB, hz⟩, rfl, rfl, rfl⟩
  obtain rfl := beg_armed hB hl
  rcases hz with ⟨_, _, rfl⟩ | ⟨e | e, _⟩
  · exact ⟨(_, 11, 0), ⟨rfl, rfl⟩, rfl, rfl, rfl⟩
  · cases e
  · cases e
theorem afree_c (lim : Int) (h : Hd) (B : Bk) (left n : Int) (hl : left = 0) (hb : BND h) :
    CallOb Try.prog 29 [ptr 0, iv n] (shG lim h B left) 2 (fun v hh m => ∃ z : Int × Int, (z.1 = 11 ∧ z.2 = 0) ∧ v = iv z.1 ∧ hh = shG lim h B z.2 ∧ m = 2) := by
  have h1 := hb.p
  have h2 := hb.x
  refine (sfree_c lim h B left n (by omega) (by omega) (by omega)).mono ?_
  rintro v hh k ⟨z, ⟨b, hB, hz⟩, rfl, rfl, rfl⟩
  obtain rfl := beg_armed hB hl
  rcases hz with ⟨_, rfl⟩ | ⟨e, _⟩
  · exact ⟨(11, 0), ⟨rfl, rfl⟩, rfl, rfl, rfl⟩
  · cases e
theorem aput_c (lim : Int) (h : Hd) (B : Bk) (left n : Int) (d : ByteArray) (hl : left = 0) :
    CallOb Try.prog 30 [ptr 0, iv n, .string d] (shG lim h B left) 2 (fun v hh m => ∃ z : Int × Int, (z.1 = 11 ∧ z.2 = 0) ∧ v = iv z.1 ∧ hh = shG lim h B z.2 ∧ m = 2) := by
  refine (sput_c lim h B left n d (by omega)).mono ?_
  rintro v hh k ⟨z, ⟨b, hB, hz⟩, rfl, rfl, rfl⟩
  obtain rfl := beg_armed hB hl
  rcases hz with ⟨_, rfl⟩ | ⟨e, _⟩ | ⟨e, _⟩
  · exact ⟨(11, 0), ⟨rfl, rfl⟩, rfl, rfl, rfl⟩
  · cases e
  · cases e
theorem c_full' (s : ByteArray) (hs : s.size ≤ maxLen) (w : World) :
    Calls Try.prog 28 #[.string s] w fun e w' => e = .returned (.string (strOf (padL (bytesOf s)))) ∧ Below w.heap.size w w' := by
  have hl := bytesOf_length s
  unfold maxLen at hs
  refine calls_pure tabOk mixed Try.func28 rfl [] [.string s] rfl (Nat.le_of_ble_eq_true rfl) rfl ?_ w
  (repeat' ((try (conv => whnf)); first | (with_reducible refine ⟨232 - s.size, 232 - s.size, by omega, by omega, Nat.le_refl _, by omega, by omega, ?_⟩) | (with_reducible refine ⟨List.replicate (232 - s.size) 0, noughts_take _ _ _ _, List.length_replicate, ?_⟩) | (with_reducible refine chk_in (Nat.ble_eq_true_of_le (by omega)) ?_) | (with_reducible refine ifB_in ?_ ?_ <;> intro hb <;> (try simp only [decide_eq_true_eq, decide_eq_false_iff_not, Int.not_lt, Int.not_le, ne_eq, Decidable.not_not, Bool.not_eq_true', Bool.not_eq_false', gt_iff_lt, ge_iff_le] at hb) <;> (try (exfalso; omega))) | (with_reducible refine ⟨_, w64b _, ?_⟩) | (with_reducible refine ⟨_, w64 (by omega) (by omega), ?_⟩) | (with_reducible refine ⟨_, wu64 (by omega) (by omega), ?_⟩) | (with_reducible refine ⟨_, wu8 (by omega) (by omega), ?_⟩) | (with_reducible refine ⟨_, w64 (by (simp only [size_sfrom, ByteArray.size_extract, ByteArray.size_append, strOf_size, fixedL_length, lit_size, List.size_toArray, List.length_cons, List.length_nil, List.length_append, List.length_replicate]; omega)) (by (simp only [size_sfrom, ByteArray.size_extract, ByteArray.size_append, strOf_size, fixedL_length, lit_size, List.size_toArray, List.length_cons, List.length_nil, List.length_append, List.length_replicate]; omega)), ?_⟩) | (with_reducible refine ⟨_, rfl, ?_⟩) | (with_reducible refine ⟨rfl, ?_⟩) | (intro cap) | (with_reducible refine ⟨trivial, ?_⟩) | (guard_target =~ (planChk _ _ = true) ∧ _; refine ⟨by kernel_rfl, ?_⟩) | (guard_target =~ (_ ∧ _) ∧ _; refine ⟨by ((repeat (first | exact trivial | refine ⟨rfl, ?_⟩)); (first | done | fail)), ?_⟩) | (refine ⟨by omega, ?_⟩) | (refine ⟨by (simp only [size_sfrom, ByteArray.size_extract, ByteArray.size_append, strOf_size, fixedL_length, lit_size, List.size_toArray, List.length_cons, List.length_nil, List.length_append, List.length_replicate]; omega), ?_⟩) | (refine ⟨0, rfl, ?_⟩) | (refine ⟨1, rfl, ?_⟩) | (refine ⟨2, rfl, ?_⟩) | (refine ⟨3, rfl, ?_⟩) | (refine ⟨4, rfl, ?_⟩) | (refine ⟨5, rfl, ?_⟩) | (refine cell_at1 (by assumption) ?_) | (refine cell_in1 (by omega) (fun x hx => ?_)) | fail)) <;> (try (conv => whnf))
  · refine congrArg Value.string ?_
    rw [← bytesOf_inj, bytesOf_strOf, bytesOf_extract, padL, show 232 - (bytesOf s).length = 0 by omega]
    simp
  · refine congrArg Value.string ?_
    rw [← bytesOf_inj, bytesOf_strOf, bytesOf_append, bytesOf_strOf, padL, hl, List.take_of_length_le (by omega)]
attribute [local irreducible] numOf fixedL bytesOf strOf strEq strLt sfrom padL headS trS trE fitT getB putB decTE decTN decTL fr top blankS
/-- No shelf. -/
theorem nnew_c : CallOb Try.prog 27 [.pointer none] [] 0 (fun v hh m => ∃ z : Int × Int, z.2 = 2 ∧ v = .tuple #[iv z.1, iv z.2] ∧ hh = [] ∧ m = 0) := by
  refine call_spec tabOk mixed Try.call27 Try.func27 rfl [] (fun z : Int × Int => z.2 = 2) (fun z => .tuple #[iv z.1, iv z.2]) (fun _ => []) (fun _ => 0) ?_ ?_
  · exact (Nat.le_of_ble_eq_true rfl)
  (repeat' ((try (conv => whnf)); first | (guard_target =~ CallOb _ 47 _ _ _ _; (with_reducible refine call_inline tabOk mixed Try.call47 Try.func47 ?_ [] ?_ ?_); exact rfl; exact Nat.le_of_ble_eq_true rfl) | (with_reducible refine chk_in (Nat.ble_eq_true_of_le (by omega)) ?_) | (with_reducible refine ifB_in ?_ ?_ <;> intro hb <;> (try simp only [decide_eq_true_eq, decide_eq_false_iff_not, Int.not_lt, Int.not_le, ne_eq, Decidable.not_not, Bool.not_eq_true', Bool.not_eq_false', gt_iff_lt, ge_iff_le] at hb) <;> (try (exfalso; omega))) | (with_reducible refine ⟨_, w64b _, ?_⟩) | (with_reducible refine ⟨_, w64 (by omega) (by omega), ?_⟩) | (with_reducible refine ⟨_, wu64 (by omega) (by omega), ?_⟩) | (with_reducible refine ⟨_, wu8 (by omega) (by omega), ?_⟩) | (with_reducible refine ⟨_, w64 (by (simp only [size_sfrom, ByteArray.size_extract, ByteArray.size_append, strOf_size, fixedL_length, lit_size, List.size_toArray, List.length_cons, List.length_nil, List.length_append, List.length_replicate]; omega)) (by (simp only [size_sfrom, ByteArray.size_extract, ByteArray.size_append, strOf_size, fixedL_length, lit_size, List.size_toArray, List.length_cons, List.length_nil, List.length_append, List.length_replicate]; omega)), ?_⟩) | (with_reducible refine ⟨_, rfl, ?_⟩) | (with_reducible refine ⟨rfl, ?_⟩) | (intro cap) | (with_reducible refine ⟨trivial, ?_⟩) | (guard_target =~ (planChk _ _ = true) ∧ _; refine ⟨by kernel_rfl, ?_⟩) | (guard_target =~ (_ ∧ _) ∧ _; refine ⟨by ((repeat (first | exact trivial | refine ⟨rfl, ?_⟩)); (first | done | fail)), ?_⟩) | (refine ⟨by omega, ?_⟩) | (refine ⟨by (simp only [size_sfrom, ByteArray.size_extract, ByteArray.size_append, strOf_size, fixedL_length, lit_size, List.size_toArray, List.length_cons, List.length_nil, List.length_append, List.length_replicate]; omega), ?_⟩) | (refine ⟨0, rfl, ?_⟩) | (refine ⟨1, rfl, ?_⟩) | (refine ⟨2, rfl, ?_⟩) | (refine ⟨3, rfl, ?_⟩) | (refine ⟨4, rfl, ?_⟩) | (refine ⟨5, rfl, ?_⟩) | (refine cell_at1 (by assumption) ?_) | (refine cell_in1 (by omega) (fun x hx => ?_)) | fail)) <;> (try (conv => whnf))
  (refine Ends.go ((0, 2)) ?_ [] (Fit.of (by (repeat' (first | exact True.intro | (with_reducible exact rfl) | (guard_target =~ @Eq Nat _ _; first | exact rfl | omega) | (guard_target =~ List.map _ _ = []; exact rfl) | (fail) | (exact congrArg (Value.int _) (by omega)) | (exact covL_flat (flat_map (fun _ => rfl) _)) | (exact covL_flat flat_nil) | (refine covP_all ?_) | (refine covL_each ?_) | (refine ⟨?_, ?_⟩) | ((conv => whnf); (first | exact True.intro | (with_reducible exact rfl) | (guard_target =~ @Eq Nat _ _; first | exact rfl | omega) | (guard_target =~ List.map _ _ = []; exact rfl) | (fail) | (exact congrArg (Value.int _) (by omega)) | (exact covL_flat (flat_map (fun _ => rfl) _)) | (exact covL_flat flat_nil) | (refine covP_all ?_) | (refine covL_each ?_) | (refine ⟨?_, ?_⟩) | done)))); (first | done | fail)) (by (repeat' (first | exact True.intro | (with_reducible exact rfl) | (guard_target =~ @Eq Nat _ _; first | exact rfl | omega) | (guard_target =~ List.map _ _ = []; exact rfl) | (fail) | (exact congrArg (Value.int _) (by omega)) | (exact covL_flat (flat_map (fun _ => rfl) _)) | (exact covL_flat flat_nil) | (refine covP_all ?_) | (refine covL_each ?_) | (refine ⟨?_, ?_⟩) | ((conv => whnf); (first | exact True.intro | (with_reducible exact rfl) | (guard_target =~ @Eq Nat _ _; first | exact rfl | omega) | (guard_target =~ List.map _ _ = []; exact rfl) | (fail) | (exact congrArg (Value.int _) (by omega)) | (exact covL_flat (flat_map (fun _ => rfl) _)) | (exact covL_flat flat_nil) | (refine covP_all ?_) | (refine covL_each ?_) | (refine ⟨?_, ?_⟩) | done)))); (first | done | fail)) (by rfl) (by rfl)))
  rfl
theorem nput_c (n : Int) (d : ByteArray) : CallOb Try.prog 30 [.pointer none, iv n, .string d] [] 0 (fun v hh m => ∃ z : Int, z = 2 ∧ v = iv z ∧ hh = [] ∧ m = 0) := by
  refine call_spec tabOk mixed Try.call30 Try.func30 rfl [] (fun z : Int => z = 2) (fun z => iv z) (fun _ => []) (fun _ => 0) ?_ ?_
  · exact (Nat.le_of_ble_eq_true rfl)
  (repeat' ((try (conv => whnf)); first | (guard_target =~ CallOb _ 47 _ _ _ _; (with_reducible refine call_inline tabOk mixed Try.call47 Try.func47 ?_ [] ?_ ?_); exact rfl; exact Nat.le_of_ble_eq_true rfl) | (with_reducible refine chk_in (Nat.ble_eq_true_of_le (by omega)) ?_) | (with_reducible refine ifB_in ?_ ?_ <;> intro hb <;> (try simp only [decide_eq_true_eq, decide_eq_false_iff_not, Int.not_lt, Int.not_le, ne_eq, Decidable.not_not, Bool.not_eq_true', Bool.not_eq_false', gt_iff_lt, ge_iff_le] at hb) <;> (try (exfalso; omega))) | (with_reducible refine ⟨_, w64b _, ?_⟩) | (with_reducible refine ⟨_, w64 (by omega) (by omega), ?_⟩) | (with_reducible refine ⟨_, wu64 (by omega) (by omega), ?_⟩) | (with_reducible refine ⟨_, wu8 (by omega) (by omega), ?_⟩) | (with_reducible refine ⟨_, w64 (by (simp only [size_sfrom, ByteArray.size_extract, ByteArray.size_append, strOf_size, fixedL_length, lit_size, List.size_toArray, List.length_cons, List.length_nil, List.length_append, List.length_replicate]; omega)) (by (simp only [size_sfrom, ByteArray.size_extract, ByteArray.size_append, strOf_size, fixedL_length, lit_size, List.size_toArray, List.length_cons, List.length_nil, List.length_append, List.length_replicate]; omega)), ?_⟩) | (with_reducible refine ⟨_, rfl, ?_⟩) | (with_reducible refine ⟨rfl, ?_⟩) | (intro cap) | (with_reducible refine ⟨trivial, ?_⟩) | (guard_target =~ (planChk _ _ = true) ∧ _; refine ⟨by kernel_rfl, ?_⟩) | (guard_target =~ (_ ∧ _) ∧ _; refine ⟨by ((repeat (first | exact trivial | refine ⟨rfl, ?_⟩)); (first | done | fail)), ?_⟩) | (refine ⟨by omega, ?_⟩) | (refine ⟨by (simp only [size_sfrom, ByteArray.size_extract, ByteArray.size_append, strOf_size, fixedL_length, lit_size, List.size_toArray, List.length_cons, List.length_nil, List.length_append, List.length_replicate]; omega), ?_⟩) | (refine ⟨0, rfl, ?_⟩) | (refine ⟨1, rfl, ?_⟩) | (refine ⟨2, rfl, ?_⟩) | (refine ⟨3, rfl, ?_⟩) | (refine ⟨4, rfl, ?_⟩) | (refine ⟨5, rfl, ?_⟩) | (refine cell_at1 (by assumption) ?_) | (refine cell_in1 (by omega) (fun x hx => ?_)) | fail)) <;> (try (conv => whnf))
  (refine Ends.go ((2 : Int)) ?_ [] (Fit.of (by (repeat' (first | exact True.intro | (with_reducible exact rfl) | (guard_target =~ @Eq Nat _ _; first | exact rfl | omega) | (guard_target =~ List.map _ _ = []; exact rfl) | (fail) | (exact congrArg (Value.int _) (by omega)) | (exact covL_flat (flat_map (fun _ => rfl) _)) | (exact covL_flat flat_nil) | (refine covP_all ?_) | (refine covL_each ?_) | (refine ⟨?_, ?_⟩) | ((conv => whnf); (first | exact True.intro | (with_reducible exact rfl) | (guard_target =~ @Eq Nat _ _; first | exact rfl | omega) | (guard_target =~ List.map _ _ = []; exact rfl) | (fail) | (exact congrArg (Value.int _) (by omega)) | (exact covL_flat (flat_map (fun _ => rfl) _)) | (exact covL_flat flat_nil) | (refine covP_all ?_) | (refine covL_each ?_) | (refine ⟨?_, ?_⟩) | done)))); (first | done | fail)) (by (repeat' (first | exact True.intro | (with_reducible exact rfl) | (guard_target =~ @Eq Nat _ _; first | exact rfl | omega) | (guard_target =~ List.map _ _ = []; exact rfl) | (fail) | (exact congrArg (Value.int _) (by omega)) | (exact covL_flat (flat_map (fun _ => rfl) _)) | (exact covL_flat flat_nil) | (refine covP_all ?_) | (refine covL_each ?_) | (refine ⟨?_, ?_⟩) | ((conv => whnf); (first | exact True.intro | (with_reducible exact rfl) | (guard_target =~ @Eq Nat _ _; first | exact rfl | omega) | (guard_target =~ List.map _ _ = []; exact rfl) | (fail) | (exact congrArg (Value.int _) (by omega)) | (exact covL_flat (flat_map (fun _ => rfl) _)) | (exact covL_flat flat_nil) | (refine covP_all ?_) | (refine covL_each ?_) | (refine ⟨?_, ?_⟩) | done)))); (first | done | fail)) (by rfl) (by rfl)))
  rfl
theorem nhead_c : CallOb Try.prog 32 [.pointer none] [] 0 (fun v hh m => ∃ z : Hd, z = ⟨0, 0, 0, 0, 0, 0⟩ ∧ v = z.v ∧ hh = [] ∧ m = 0) := by
  refine call_spec tabOk mixed Try.call32 Try.func32 rfl [] (fun z : Hd => z = ⟨0, 0, 0, 0, 0, 0⟩) (fun z => z.v) (fun _ => []) (fun _ => 0) ?_ ?_
  · exact (Nat.le_of_ble_eq_true rfl)
  (repeat' ((try (conv => whnf)); first | (with_reducible refine chk_in (Nat.ble_eq_true_of_le (by omega)) ?_) | (with_reducible refine ifB_in ?_ ?_ <;> intro hb <;> (try simp only [decide_eq_true_eq, decide_eq_false_iff_not, Int.not_lt, Int.not_le, ne_eq, Decidable.not_not, Bool.not_eq_true', Bool.not_eq_false', gt_iff_lt, ge_iff_le] at hb) <;> (try (exfalso; omega))) | (with_reducible refine ⟨_, w64b _, ?_⟩) | (with_reducible refine ⟨_, w64 (by omega) (by omega), ?_⟩) | (with_reducible refine ⟨_, wu64 (by omega) (by omega), ?_⟩) | (with_reducible refine ⟨_, wu8 (by omega) (by omega), ?_⟩) | (with_reducible refine ⟨_, w64 (by (simp only [size_sfrom, ByteArray.size_extract, ByteArray.size_append, strOf_size, fixedL_length, lit_size, List.size_toArray, List.length_cons, List.length_nil, List.length_append, List.length_replicate]; omega)) (by (simp only [size_sfrom, ByteArray.size_extract, ByteArray.size_append, strOf_size, fixedL_length, lit_size, List.size_toArray, List.length_cons, List.length_nil, List.length_append, List.length_replicate]; omega)), ?_⟩) | (with_reducible refine ⟨_, rfl, ?_⟩) | (with_reducible refine ⟨rfl, ?_⟩) | (intro cap) | (with_reducible refine ⟨trivial, ?_⟩) | (guard_target =~ (planChk _ _ = true) ∧ _; refine ⟨by kernel_rfl, ?_⟩) | (guard_target =~ (_ ∧ _) ∧ _; refine ⟨by ((repeat (first | exact trivial | refine ⟨rfl, ?_⟩)); (first | done | fail)), ?_⟩) | (refine ⟨by omega, ?_⟩) | (refine ⟨by (simp only [size_sfrom, ByteArray.size_extract, ByteArray.size_append, strOf_size, fixedL_length, lit_size, List.size_toArray, List.length_cons, List.length_nil, List.length_append, List.length_replicate]; omega), ?_⟩) | (refine ⟨0, rfl, ?_⟩) | (refine ⟨1, rfl, ?_⟩) | (refine ⟨2, rfl, ?_⟩) | (refine ⟨3, rfl, ?_⟩) | (refine ⟨4, rfl, ?_⟩) | (refine ⟨5, rfl, ?_⟩) | fail)) <;> (try (conv => whnf))
  (refine Ends.go ((⟨0, 0, 0, 0, 0, 0⟩ : Hd)) ?_ [] (Fit.of (by (repeat' (first | exact True.intro | (with_reducible exact rfl) | (guard_target =~ @Eq Nat _ _; first | exact rfl | omega) | (guard_target =~ List.map _ _ = []; exact rfl) | (fail) | (exact congrArg (Value.int _) (by omega)) | (exact covL_flat (flat_map (fun _ => rfl) _)) | (exact covL_flat flat_nil) | (refine covP_all ?_) | (refine covL_each ?_) | (refine ⟨?_, ?_⟩) | ((conv => whnf); (first | exact True.intro | (with_reducible exact rfl) | (guard_target =~ @Eq Nat _ _; first | exact rfl | omega) | (guard_target =~ List.map _ _ = []; exact rfl) | (fail) | (exact congrArg (Value.int _) (by omega)) | (exact covL_flat (flat_map (fun _ => rfl) _)) | (exact covL_flat flat_nil) | (refine covP_all ?_) | (refine covL_each ?_) | (refine ⟨?_, ?_⟩) | done)))); (first | done | fail)) (by (repeat' (first | exact True.intro | (with_reducible exact rfl) | (guard_target =~ @Eq Nat _ _; first | exact rfl | omega) | (guard_target =~ List.map _ _ = []; exact rfl) | (fail) | (exact congrArg (Value.int _) (by omega)) | (exact covL_flat (flat_map (fun _ => rfl) _)) | (exact covL_flat flat_nil) | (refine covP_all ?_) | (refine covL_each ?_) | (refine ⟨?_, ?_⟩) | ((conv => whnf); (first | exact True.intro | (with_reducible exact rfl) | (guard_target =~ @Eq Nat _ _; first | exact rfl | omega) | (guard_target =~ List.map _ _ = []; exact rfl) | (fail) | (exact congrArg (Value.int _) (by omega)) | (exact covL_flat (flat_map (fun _ => rfl) _)) | (exact covL_flat flat_nil) | (refine covP_all ?_) | (refine covL_each ?_) | (refine ⟨?_, ?_⟩) | done)))); (first | done | fail)) (by rfl) (by rfl)))
  rfl
/-- An act; its data. -/
abbrev ActT := Int × Int × ByteArray × Bool
abbrev actv (y : ActT) : List Value := [.int .i64 y.1, .int .i64 y.2.1, .string y.2.2.1, .bool y.2.2.2]
theorem data_c (k n : Int) (s : ByteArray) (f : Bool) (hs : s.size ≤ maxLen) : ∃ d : ByteArray, ∀ w, Calls Try.prog 33 #[.agg #[.int .i64 k, .int .i64 n, .string s, .bool f]] w fun e w' => e = .returned (.string d) ∧ Below w.heap.size w w' := by
  cases f with
  | true =>
    obtain ⟨d, hd⟩ : ∃ d : ByteArray, d = strOf (padL (bytesOf s)) := ⟨_, rfl⟩
    refine ⟨d, fun w => ?_⟩
    have hf := c_full' s hs
    rw [← hd] at hf
    refine calls_pure tabOk mixed Try.func33 rfl [] [.agg #[.int .i64 k, .int .i64 n, .string s, .bool true]] rfl (Nat.le_of_ble_eq_true rfl) rfl ?_ w
    (repeat' ((try (conv => whnf)); first | (guard_target =~ CallOb _ 28 _ _ _ _; (with_reducible refine call_pure Try.call28 (hf) ?_ ?_ ?_); exact rfl; exact rfl) | (with_reducible refine chk_in (Nat.ble_eq_true_of_le (by omega)) ?_) | (with_reducible refine ifB_in ?_ ?_ <;> intro hb <;> (try simp only [decide_eq_true_eq, decide_eq_false_iff_not, Int.not_lt, Int.not_le, ne_eq, Decidable.not_not, Bool.not_eq_true', Bool.not_eq_false', gt_iff_lt, ge_iff_le] at hb) <;> (try (exfalso; omega))) | (with_reducible refine ⟨_, w64b _, ?_⟩) | (with_reducible refine ⟨_, w64 (by omega) (by omega), ?_⟩) | (with_reducible refine ⟨_, wu64 (by omega) (by omega), ?_⟩) | (with_reducible refine ⟨_, wu8 (by omega) (by omega), ?_⟩) | (with_reducible refine ⟨_, w64 (by (simp only [size_sfrom, ByteArray.size_extract, ByteArray.size_append, strOf_size, fixedL_length, lit_size, List.size_toArray, List.length_cons, List.length_nil, List.length_append, List.length_replicate]; omega)) (by (simp only [size_sfrom, ByteArray.size_extract, ByteArray.size_append, strOf_size, fixedL_length, lit_size, List.size_toArray, List.length_cons, List.length_nil, List.length_append, List.length_replicate]; omega)), ?_⟩) | (with_reducible refine ⟨_, rfl, ?_⟩) | (with_reducible refine ⟨rfl, ?_⟩) | (intro cap) | (with_reducible refine ⟨trivial, ?_⟩) | (guard_target =~ (planChk _ _ = true) ∧ _; refine ⟨by kernel_rfl, ?_⟩) | (guard_target =~ (_ ∧ _) ∧ _; refine ⟨by ((repeat (first | exact trivial | refine ⟨rfl, ?_⟩)); (first | done | fail)), ?_⟩) | (refine ⟨by omega, ?_⟩) | (refine ⟨by (simp only [size_sfrom, ByteArray.size_extract, ByteArray.size_append, strOf_size, fixedL_length, lit_size, List.size_toArray, List.length_cons, List.length_nil, List.length_append, List.length_replicate]; omega), ?_⟩) | (refine ⟨0, rfl, ?_⟩) | (refine ⟨1, rfl, ?_⟩) | (refine ⟨2, rfl, ?_⟩) | (refine ⟨3, rfl, ?_⟩) | (refine ⟨4, rfl, ?_⟩) | (refine ⟨5, rfl, ?_⟩) | (refine cell_at1 (by assumption) ?_) | (refine cell_in1 (by omega) (fun x hx => ?_)) | fail)) <;> (try (conv => whnf))
    rfl
  | false =>
    refine ⟨s, fun w => ?_⟩
    refine calls_pure tabOk mixed Try.func33 rfl [] [.agg #[.int .i64 k, .int .i64 n, .string s, .bool false]] rfl (Nat.le_of_ble_eq_true rfl) rfl ?_ w
    (repeat' ((try (conv => whnf)); first | (with_reducible refine chk_in (Nat.ble_eq_true_of_le (by omega)) ?_) | (with_reducible refine ifB_in ?_ ?_ <;> intro hb <;> (try simp only [decide_eq_true_eq, decide_eq_false_iff_not, Int.not_lt, Int.not_le, ne_eq, Decidable.not_not, Bool.not_eq_true', Bool.not_eq_false', gt_iff_lt, ge_iff_le] at hb) <;> (try (exfalso; omega))) | (with_reducible refine ⟨_, w64b _, ?_⟩) | (with_reducible refine ⟨_, w64 (by omega) (by omega), ?_⟩) | (with_reducible refine ⟨_, wu64 (by omega) (by omega), ?_⟩) | (with_reducible refine ⟨_, wu8 (by omega) (by omega), ?_⟩) | (with_reducible refine ⟨_, w64 (by (simp only [size_sfrom, ByteArray.size_extract, ByteArray.size_append, strOf_size, fixedL_length, lit_size, List.size_toArray, List.length_cons, List.length_nil, List.length_append, List.length_replicate]; omega)) (by (simp only [size_sfrom, ByteArray.size_extract, ByteArray.size_append, strOf_size, fixedL_length, lit_size, List.size_toArray, List.length_cons, List.length_nil, List.length_append, List.length_replicate]; omega)), ?_⟩) | (with_reducible refine ⟨_, rfl, ?_⟩) | (with_reducible refine ⟨rfl, ?_⟩) | (intro cap) | (with_reducible refine ⟨trivial, ?_⟩) | (guard_target =~ (planChk _ _ = true) ∧ _; refine ⟨by kernel_rfl, ?_⟩) | (guard_target =~ (_ ∧ _) ∧ _; refine ⟨by ((repeat (first | exact trivial | refine ⟨rfl, ?_⟩)); (first | done | fail)), ?_⟩) | (refine ⟨by omega, ?_⟩) | (refine ⟨by (simp only [size_sfrom, ByteArray.size_extract, ByteArray.size_append, strOf_size, fixedL_length, lit_size, List.size_toArray, List.length_cons, List.length_nil, List.length_append, List.length_replicate]; omega), ?_⟩) | (refine ⟨0, rfl, ?_⟩) | (refine ⟨1, rfl, ?_⟩) | (refine ⟨2, rfl, ?_⟩) | (refine ⟨3, rfl, ?_⟩) | (refine ⟨4, rfl, ?_⟩) | (refine ⟨5, rfl, ?_⟩) | fail)) <;> (try (conv => whnf))
    rfl
theorem sub_flat {T : Type} {f : T → List Value} {l : List T} {n i o : Nat} {y : T} (hn : ∀ y, (f y).length = n) (hy : l[i]? = some y) (ho : o = i * n) : subL (l.flatMap f) o n = some (f y) := by
  obtain ⟨hi, he⟩ := List.getElem?_eq_some_iff.1 hy
  have hlen := flat_length hn l
  have hin : i * n + n ≤ l.length * n := by
    have : (i + 1) * n ≤ l.length * n := Nat.mul_le_mul_right n hi
    rw [Nat.add_mul, Nat.one_mul] at this; exact this
  refine subL_in (List.ext_getElem? fun j => ?_) (hn y) (fun _ => by rw [hlen, ho]; omega)
  rw [List.getElem?_take, List.getElem?_drop, ho]
  by_cases hj : j < n
  · rw [if_pos hj, flat_getElem hn l i j y hy hj]
  · rw [if_neg hj, List.getElem?_eq_none (by rw [hn y]; omega)]
def pgs (B : Bk) (k : Nat) : List ByteArray := (List.range k).map fun j : Nat => getB B ((j : Int) + 1)
theorem pgs_zero (B : Bk) : pgs B 0 = [] := rfl
theorem pgs_length (B : Bk) (k : Nat) : (pgs B k).length = k := by simp [pgs]
theorem pgs_step (B : Bk) (k : Nat) : pgs B (k + 1) = pgs B k ++ [getB B ((k : Int) + 1)] := by simp [pgs, List.range_succ]
theorem pgs_at (B : Bk) {k j : Nat} (h : j < k) : (pgs B k)[j]? = some (getB B ((j : Int) + 1)) := by
  unfold pgs; rw [List.getElem?_map, List.getElem?_range h]; rfl
end Go.Proofs.Ytcfnokifghpnpaa
