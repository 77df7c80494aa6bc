/- The disk: a file is gone; what is armed; the room; what is asked of the disk's numbers. -/
import Derived.Test.YtdgmjjidkaafaaaDiskCut
namespace Go.Proofs.Ytdgmjjidkaafaaa
open Go.RowKit
set_option linter.unusedSimpArgs false
set_option linter.unusedVariables false
attribute [local irreducible] bytesOf strOf strEq strLt sfrom begS
theorem names_nodup {E : EL} {fs : Fs} (hp : (filesOf E).Perm fs) (hs : Sorted fs) : (E.map fun e => e.1).Nodup := by
  have h : (fs.map fun p => p.1).Nodup := by
    rw [List.Nodup, List.pairwise_map]
    exact hs.imp fun h e => by rw [e] at h; exact strLt_irrefl _ h
  have := (hp.map fun p => p.1).nodup_iff.2 h
  rw [List.map_map] at this
  exact this
theorem first_q {E : EL} (hn : (E.map fun e => e.1).Nodup) {q j : Nat} {s : ByteArray} {L : LF} {X : Fl} (hq : E[q]? = some (s, L, X)) (hj : FirstAt (names E) (.string s) j) : j = q := by
  have h1 : (E.map fun e => e.1)[q]? = some s := by rw [List.getElem?_map, hq]; rfl
  have h2 : (E.map fun e => e.1)[j]? = some s := by
    have := hj.1
    rw [List.getElem?_map] at this ⊢
    cases e : E[j]? with
    | none => rw [e] at this; cases this
    | some x => rw [e] at this; simp only [Option.map_some, Option.some.injEq, Value.string.injEq] at this ⊢; exact this
  have lt : j < (E.map fun e => e.1).length := by
    rcases Nat.lt_or_ge j (E.map fun e => e.1).length with y | y
    · exact y
    · rw [List.getElem?_eq_none y] at h2; cases h2
  exact (List.getElem?_inj lt hn).1 (h2.trans h1.symm)
theorem look_foc {E : EL} (hn : (E.map fun e => e.1).Nodup) {q i : Nat} {s : ByteArray} {L : LF} {X : Fl} (hq : E[q]? = some (s, L, X)) {Kf : Value → Prop} {Kn : Prop} (h : Kf (ptr i)) : LookOb (names E) ((spots E).set q (ptr i)) (.string s) Kf Kn where
  kinds u hu := by obtain ⟨e, _, rfl⟩ := List.mem_map.1 hu; rfl
  len := by rw [List.length_set, List.length_map, List.length_map]
  found j v hj hv := by
    obtain rfl := first_q hn hq hj
    have hlt : j < (spots E).length := by
      rcases Nat.lt_or_ge j (spots E).length with y | y
      · exact y
      · rw [List.getElem?_eq_none (by rw [List.length_set]; exact y)] at hv; cases hv
    rw [List.getElem?_set, if_pos rfl, if_pos hlt] at hv
    cases hv
    exact h
  none hN := absurd rfl (hN (.string s) (List.mem_map.2 ⟨_, List.mem_of_getElem? hq, rfl⟩))
theorem del_foc {E : EL} (hn : (E.map fun e => e.1).Nodup) {q i : Nat} {s : ByteArray} {L : LF} {X : Fl} (hq : E[q]? = some (s, L, X)) : DelOb (names E) ((spots E).set q (ptr i)) (.string s) (names (E.eraseIdx q)) (spots (E.eraseIdx q)) where
  kinds u hu := by obtain ⟨e, _, rfl⟩ := List.mem_map.1 hu; rfl
  old j hj := by
    obtain rfl := first_q hn hq hj
    refine ⟨map_eraseIdx _ _ _, ?_⟩
    rw [List.eraseIdx_set_eq]
    exact map_eraseIdx _ _ _
  new hN := absurd rfl (hN (.string s) (List.mem_map.2 ⟨_, List.mem_of_getElem? hq, rfl⟩))
abbrev delE (E : EL) : Option Nat → EL | none => E | some q => E.eraseIdx q
def DropR (k : Dk) (s : ByteArray) (E : EL) (a : Int) (k' : Dk) (o : Option Nat) : Prop :=
  (o = none ∧ FoundR k s true E (a, k', none) ∧ a ≠ 0) ∨ ∃ (q : Nat) (L : LF) (X : Fl), o = some q ∧ FoundR k s true E (0, k', some L) ∧ E[q]? = some (s, L, X) ∧ a = 0
theorem rnDiskOps1 {p : Prop} (h : p := by refine ⟨?_, ?_, ?_⟩; (first | apply rR_tuple | apply rR_one rfl | exact rfl); all_goals (repeat' (first | (with_reducible (first | exact relH_nil | apply rn_lst | apply rn_own | apply rn_mp | apply rn_row | apply rn_abs | exact wo_nil)) | apply wo_keep rfl | apply wo_drop rfl | exact relH_nil | exact r1_flat rfl | exact r0_flat rfl | exact rl_nil | exact wo_nil | exact bk_old rfl | exact bk_new rfl | exact bk_nil rfl | apply rl_cons | (first | exact relL_still hvs | exact relL_still (still_map (fun _ => rfl) _) | exact relL_still (still_map ro_still _) | exact relL_flat (flat_map (fun _ => rfl) _) | apply relL_set) | exact relL_flat (flat_map (fun _ => rfl) _) | exact relL_flat flat_nil | apply relL_to | apply rn_lst | apply rn_own | apply rn_mp | apply rn_row | apply relH_view rfl | apply relH_lview rfl | apply relH_fact rfl | exact r1_rig | exact r0_rig | exact r1_rigs | exact r0_rigs | apply wo_keep rfl | apply wo_drop rfl | apply r1_agg | apply rn_ptr | apply rn_slice | apply rn_slice0 | apply rn_iface | apply rn_map | apply rn_ifacem | apply r0_map | apply r0_ifacem | apply r0_ptr | apply r0_slice | apply r0_slice0 | apply r0_iface)); (first | done | fail)) : p := h
theorem cvDiskOps2 {p : Prop} (h : p := by have nw := True.intro; (repeat' (first | exact True.intro | (with_reducible exact rfl) | (with_reducible exact AbsLe.refl) | (guard_target =~ @Eq Nat _ _; first | exact rfl | omega) | (guard_target =~ List.map _ _ = []; exact rfl) | (first | exact covL_still rfl hvs | exact covL_still rfl (still_map (fun _ => rfl) _) | exact covL_still rfl (still_map ro_still _) | (apply covL_set <;> (try clear nw) <;> have nw := True.intro) | exact congrArg (Value.int _) (by (try dsimp only); omega)) | (exact congrArg (Value.int _) (by omega)) | (exact covL_flat (flat_map (fun _ => rfl) _)) | (exact covL_flat flat_nil) | (refine covP_all ?_; (try clear nw); have nw := True.intro) | (refine covL_each ?_; (try clear nw); have nw := True.intro) | (refine ⟨?_, ?_⟩ <;> (try clear nw) <;> have nw := True.intro) | (guard_hyp nw : True; ((conv => whnf) <;> clear nw)))); (first | done | fail)) : p := h
set_option maxRecDepth 100000 in
theorem drop_l (k : Dk) (s : ByteArray) (E : EL) (C : CM) (hk : k.Fit) (hn : (E.map fun e => e.1).Nodup) :
    CallOb Try.prog 48 [ptr 0, .string s] (rawH k E C) 3 (fun v hh m => ∃ z : Int × Dk × Option Nat, DropR k s E z.1 z.2.1 z.2.2 ∧ v = iv z.1 ∧ hh = rawH z.2.1 (delE E z.2.2) C ∧ m = 3) := by
  have hvs := spots_still E
  refine call_spec tabOk mixed Try.call48 Try.func48 rfl [] (fun z : Int × Dk × Option Nat => DropR k s E z.1 z.2.1 z.2.2) (fun z => iv z.1) (fun z => rawH z.2.1 (delE E z.2.2) C) (fun _ => 3) ?_ ?_
  · exact (Nat.le_of_ble_eq_true rfl)
  (repeat' ((try (conv => whnf)); first | (guard_target =~ ∃ (_ : Value), ∃ (_ : HP), ∃ (_ : HP), _; refine ⟨_, _, _, rnDiskOps1, ?_⟩; (try (dsimp only [Nat.reduceAdd, List.cons_append, List.nil_append]))) | (guard_target =~ CallOb _ 36 _ _ _ _; refine call_q (found_f _ s _ E C hk) [(0, some 0), (1, some 1), (2, some 2)] cvDiskOps2 (by rfl) (by rfl) (by rfl) (fun v h1 n1 hp => ?_); rcases hp with ⟨e, k', hR, he, rfl, rfl, rfl⟩ | ⟨e, k', q, L, X, hR, he, hq, hok, hcp, rfl, rfl, rfl⟩) | (guard_target =~ ∃ ks' vs', DelOb _ _ _ ks' vs' ∧ _; refine ⟨_, _, del_foc hn hq, ?_⟩) | (with_reducible refine chk_in (Nat.ble_eq_true_of_le (by omega)) ?_) | (with_reducible refine ifB_in ?_ ?_ <;> intro hb <;> (try simp only [decide_eq_true_eq, decide_eq_false_iff_not, Int.not_lt, Int.not_le, ne_eq, Decidable.not_not, Bool.not_eq_true', Bool.not_eq_false', gt_iff_lt, ge_iff_le] at hb) <;> (try (exfalso; omega))) | (with_reducible refine ⟨_, w64b _, ?_⟩) | (with_reducible refine ⟨_, w64 (by omega) (by omega), ?_⟩) | (with_reducible refine ⟨_, wu64 (by omega) (by omega), ?_⟩) | (with_reducible refine ⟨_, wu8 (by omega) (by omega), ?_⟩) | (with_reducible refine ⟨_, w64 (by (simp only [size_sfrom, ByteArray.size_extract, ByteArray.size_append, strOf_size, fixedL_length, lit_size, List.size_toArray, List.length_cons, List.length_nil, List.length_append, List.length_replicate]; omega)) (by (simp only [size_sfrom, ByteArray.size_extract, ByteArray.size_append, strOf_size, fixedL_length, lit_size, List.size_toArray, List.length_cons, List.length_nil, List.length_append, List.length_replicate]; omega)), ?_⟩) | (with_reducible refine ⟨_, rfl, ?_⟩) | (with_reducible refine ⟨rfl, ?_⟩) | (intro cap) | (with_reducible refine ⟨trivial, ?_⟩) | (guard_target =~ (planChk _ _ = true) ∧ _; refine ⟨by kernel_rfl, ?_⟩) | (guard_target =~ (_ ∧ _) ∧ _; refine ⟨by ((repeat (first | exact trivial | refine ⟨rfl, ?_⟩)); (first | done | fail)), ?_⟩) | (refine ⟨by omega, ?_⟩) | (refine ⟨by (simp only [size_sfrom, ByteArray.size_extract, ByteArray.size_append, strOf_size, fixedL_length, lit_size, List.size_toArray, List.length_cons, List.length_nil, List.length_append, List.length_replicate]; omega), ?_⟩) | (refine ⟨0, rfl, ?_⟩) | (refine ⟨1, rfl, ?_⟩) | (refine ⟨2, rfl, ?_⟩) | (refine ⟨3, rfl, ?_⟩) | (refine ⟨4, rfl, ?_⟩) | (refine ⟨5, rfl, ?_⟩) | (refine cell_at1 (by assumption) ?_) | (refine cell_in1 (by omega) (fun x hx => ?_)) | fail)) <;> (try (conv => whnf))
  all_goals first
    | ((refine Ends.go (((e, k', none) : Int × Dk × Option Nat)) ?_ [] (Fit.q cvDiskOps2 (by rfl) (by rfl))); exact .inl ⟨rfl, hR, he⟩)
    | ((refine Ends.go (((e, k', some q) : Int × Dk × Option Nat)) ?_ [] (Fit.q cvDiskOps2 (by rfl) (by rfl))); subst he; exact .inr ⟨q, L, X, rfl, hR, hq, rfl⟩)
    | trace_state
set_option maxRecDepth 100000 in
theorem arm_l (k : Dk) (a b c : Int) (E : EL) (C : CM) (h1 : -9223372036854775808 ≤ a ∧ a ≤ 9223372036854775807) :
    CallOb Try.prog 12 [ptr 0, iv a, iv b, iv c] (rawH k E C) 3 (LitP E C (fun _ : Unit => .tuple ([] : List Value).toArray) (fun _ k' o => o = none ∧ k' = (armD ⟨k, []⟩ a b c).k)) := by
  have hvs := spots_still E
  refine (call_spec tabOk mixed Try.call12 Try.func12 rfl [] (fun z : Dk => z = (armD ⟨k, []⟩ a b c).k) (fun _ => .tuple ([] : List Value).toArray) (fun z => rawH z E C) (fun _ => 3) ?_ ?_).mono (fun v h n ⟨z, hz, e1, e2, e3⟩ => ⟨(), z, none, ⟨rfl, hz⟩, e1, e2, e3⟩)
  · exact (Nat.le_of_ble_eq_true rfl)
  obtain ⟨room, down, ops, life, at', kind, more⟩ := k
  (repeat' ((try (conv => whnf)); first | (guard_target =~ ∃ (_ : Value), ∃ (_ : HP), ∃ (_ : HP), _; refine ⟨_, _, _, rnDiskOps1, ?_⟩; (try (dsimp only [Nat.reduceAdd, List.cons_append, List.nil_append]))) | fail | (with_reducible refine chk_in (Nat.ble_eq_true_of_le (by omega)) ?_) | (with_reducible refine ifB_in ?_ ?_ <;> intro hb <;> (try simp only [decide_eq_true_eq, decide_eq_false_iff_not, Int.not_lt, Int.not_le, ne_eq, Decidable.not_not, Bool.not_eq_true', Bool.not_eq_false', gt_iff_lt, ge_iff_le] at hb) <;> (try (exfalso; omega))) | (with_reducible refine ⟨_, w64b _, ?_⟩) | (with_reducible refine ⟨_, w64 (by omega) (by omega), ?_⟩) | (with_reducible refine ⟨_, wu64 (by omega) (by omega), ?_⟩) | (with_reducible refine ⟨_, wu8 (by omega) (by omega), ?_⟩) | (with_reducible refine ⟨_, w64 (by (simp only [size_sfrom, ByteArray.size_extract, ByteArray.size_append, strOf_size, fixedL_length, lit_size, List.size_toArray, List.length_cons, List.length_nil, List.length_append, List.length_replicate]; omega)) (by (simp only [size_sfrom, ByteArray.size_extract, ByteArray.size_append, strOf_size, fixedL_length, lit_size, List.size_toArray, List.length_cons, List.length_nil, List.length_append, List.length_replicate]; omega)), ?_⟩) | (with_reducible refine ⟨_, rfl, ?_⟩) | (with_reducible refine ⟨rfl, ?_⟩) | (intro cap) | (with_reducible refine ⟨trivial, ?_⟩) | (guard_target =~ (planChk _ _ = true) ∧ _; refine ⟨by kernel_rfl, ?_⟩) | (guard_target =~ (_ ∧ _) ∧ _; refine ⟨by ((repeat (first | exact trivial | refine ⟨rfl, ?_⟩)); (first | done | fail)), ?_⟩) | (refine ⟨by omega, ?_⟩) | (refine ⟨by (simp only [size_sfrom, ByteArray.size_extract, ByteArray.size_append, strOf_size, fixedL_length, lit_size, List.size_toArray, List.length_cons, List.length_nil, List.length_append, List.length_replicate]; omega), ?_⟩) | (refine ⟨0, rfl, ?_⟩) | (refine ⟨1, rfl, ?_⟩) | (refine ⟨2, rfl, ?_⟩) | (refine ⟨3, rfl, ?_⟩) | (refine ⟨4, rfl, ?_⟩) | (refine ⟨5, rfl, ?_⟩) | (refine cell_at1 (by assumption) ?_) | (refine cell_in1 (by omega) (fun x hx => ?_)) | fail)) <;> (try (conv => whnf))
  all_goals first
    | ((refine Ends.go ((⟨room, down, ops, life, max a 0, b, c⟩ : Dk)) ?_ [] (Fit.q cvDiskOps2 (by rfl) (by rfl))); unfold armD; dsimp only; rw [if_pos (by omega)])
    | ((refine Ends.go ((⟨room, down, ops, life, 0, b, c⟩ : Dk)) ?_ [] (Fit.q cvDiskOps2 (by rfl) (by rfl))); unfold armD; dsimp only; rw [if_neg (by omega)])
    | trace_state
set_option maxRecDepth 100000 in
theorem room_l (k : Dk) (a : Int) (E : EL) (C : CM) (h1 : -9223372036854775808 ≤ a ∧ a ≤ 9223372036854775807) :
    CallOb Try.prog 35 [ptr 0, iv a] (rawH k E C) 3 (LitP E C (fun _ : Unit => .tuple ([] : List Value).toArray) (fun _ k' o => o = none ∧ k' = { k with room := clampR a })) := by
  have hvs := spots_still E
  refine (call_spec tabOk mixed Try.call35 Try.func35 rfl [] (fun z : Dk => z = { k with room := clampR a }) (fun _ => .tuple ([] : List Value).toArray) (fun z => rawH z E C) (fun _ => 3) ?_ ?_).mono (fun v h n ⟨z, hz, e1, e2, e3⟩ => ⟨(), z, none, ⟨rfl, hz⟩, e1, e2, e3⟩)
  · exact (Nat.le_of_ble_eq_true rfl)
  obtain ⟨room, down, ops, life, at', kind, more⟩ := k
  (repeat' ((try (conv => whnf)); first | (guard_target =~ ∃ (_ : Value), ∃ (_ : HP), ∃ (_ : HP), _; refine ⟨_, _, _, rnDiskOps1, ?_⟩; (try (dsimp only [Nat.reduceAdd, List.cons_append, List.nil_append]))) | fail | (with_reducible refine chk_in (Nat.ble_eq_true_of_le (by omega)) ?_) | (with_reducible refine ifB_in ?_ ?_ <;> intro hb <;> (try simp only [decide_eq_true_eq, decide_eq_false_iff_not, Int.not_lt, Int.not_le, ne_eq, Decidable.not_not, Bool.not_eq_true', Bool.not_eq_false', gt_iff_lt, ge_iff_le] at hb) <;> (try (exfalso; omega))) | (with_reducible refine ⟨_, w64b _, ?_⟩) | (with_reducible refine ⟨_, w64 (by omega) (by omega), ?_⟩) | (with_reducible refine ⟨_, wu64 (by omega) (by omega), ?_⟩) | (with_reducible refine ⟨_, wu8 (by omega) (by omega), ?_⟩) | (with_reducible refine ⟨_, w64 (by (simp only [size_sfrom, ByteArray.size_extract, ByteArray.size_append, strOf_size, fixedL_length, lit_size, List.size_toArray, List.length_cons, List.length_nil, List.length_append, List.length_replicate]; omega)) (by (simp only [size_sfrom, ByteArray.size_extract, ByteArray.size_append, strOf_size, fixedL_length, lit_size, List.size_toArray, List.length_cons, List.length_nil, List.length_append, List.length_replicate]; omega)), ?_⟩) | (with_reducible refine ⟨_, rfl, ?_⟩) | (with_reducible refine ⟨rfl, ?_⟩) | (intro cap) | (with_reducible refine ⟨trivial, ?_⟩) | (guard_target =~ (planChk _ _ = true) ∧ _; refine ⟨by kernel_rfl, ?_⟩) | (guard_target =~ (_ ∧ _) ∧ _; refine ⟨by ((repeat (first | exact trivial | refine ⟨rfl, ?_⟩)); (first | done | fail)), ?_⟩) | (refine ⟨by omega, ?_⟩) | (refine ⟨by (simp only [size_sfrom, ByteArray.size_extract, ByteArray.size_append, strOf_size, fixedL_length, lit_size, List.size_toArray, List.length_cons, List.length_nil, List.length_append, List.length_replicate]; omega), ?_⟩) | (refine ⟨0, rfl, ?_⟩) | (refine ⟨1, rfl, ?_⟩) | (refine ⟨2, rfl, ?_⟩) | (refine ⟨3, rfl, ?_⟩) | (refine ⟨4, rfl, ?_⟩) | (refine ⟨5, rfl, ?_⟩) | (refine cell_at1 (by assumption) ?_) | (refine cell_in1 (by omega) (fun x hx => ?_)) | fail)) <;> (try (conv => whnf))
  all_goals first
    | ((refine Ends.go ((⟨min (max a 0) 16384, down, ops, life, at', kind, more⟩ : Dk)) ?_ [] (Fit.q cvDiskOps2 (by rfl) (by rfl))); rfl)
    | trace_state
set_option maxRecDepth 100000 in
theorem ops_l (k : Dk) (E : EL) (C : CM) : CallOb Try.prog 13 [ptr 0] (rawH k E C) 3 (LitP E C (fun a : Int => iv a) (fun a k' o => o = none ∧ k' = k ∧ a = k.ops)) := by
  have hvs := spots_still E
  refine (call_spec tabOk mixed Try.call13 Try.func13 rfl [] (fun z : Int => z = k.ops) (fun z => iv z) (fun _ => rawH k E C) (fun _ => 3) ?_ ?_).mono (fun v h n ⟨z, hz, e1, e2, e3⟩ => ⟨z, k, none, ⟨rfl, rfl, hz⟩, e1, e2, e3⟩)
  · exact (Nat.le_of_ble_eq_true rfl)
  (repeat' ((try (conv => whnf)); first | (guard_target =~ ∃ (_ : Value), ∃ (_ : HP), ∃ (_ : HP), _; refine ⟨_, _, _, rnDiskOps1, ?_⟩; (try (dsimp only [Nat.reduceAdd, List.cons_append, List.nil_append]))) | fail | (with_reducible refine chk_in (Nat.ble_eq_true_of_le (by omega)) ?_) | (with_reducible refine ifB_in ?_ ?_ <;> intro hb <;> (try simp only [decide_eq_true_eq, decide_eq_false_iff_not, Int.not_lt, Int.not_le, ne_eq, Decidable.not_not, Bool.not_eq_true', Bool.not_eq_false', gt_iff_lt, ge_iff_le] at hb) <;> (try (exfalso; omega))) | (with_reducible refine ⟨_, w64b _, ?_⟩) | (with_reducible refine ⟨_, w64 (by omega) (by omega), ?_⟩) | (with_reducible refine ⟨_, wu64 (by omega) (by omega), ?_⟩) | (with_reducible refine ⟨_, wu8 (by omega) (by omega), ?_⟩) | (with_reducible refine ⟨_, w64 (by (simp only [size_sfrom, ByteArray.size_extract, ByteArray.size_append, strOf_size, fixedL_length, lit_size, List.size_toArray, List.length_cons, List.length_nil, List.length_append, List.length_replicate]; omega)) (by (simp only [size_sfrom, ByteArray.size_extract, ByteArray.size_append, strOf_size, fixedL_length, lit_size, List.size_toArray, List.length_cons, List.length_nil, List.length_append, List.length_replicate]; omega)), ?_⟩) | (with_reducible refine ⟨_, rfl, ?_⟩) | (with_reducible refine ⟨rfl, ?_⟩) | (intro cap) | (with_reducible refine ⟨trivial, ?_⟩) | (guard_target =~ (planChk _ _ = true) ∧ _; refine ⟨by kernel_rfl, ?_⟩) | (guard_target =~ (_ ∧ _) ∧ _; refine ⟨by ((repeat (first | exact trivial | refine ⟨rfl, ?_⟩)); (first | done | fail)), ?_⟩) | (refine ⟨by omega, ?_⟩) | (refine ⟨by (simp only [size_sfrom, ByteArray.size_extract, ByteArray.size_append, strOf_size, fixedL_length, lit_size, List.size_toArray, List.length_cons, List.length_nil, List.length_append, List.length_replicate]; omega), ?_⟩) | (refine ⟨0, rfl, ?_⟩) | (refine ⟨1, rfl, ?_⟩) | (refine ⟨2, rfl, ?_⟩) | (refine ⟨3, rfl, ?_⟩) | (refine ⟨4, rfl, ?_⟩) | (refine ⟨5, rfl, ?_⟩) | (refine cell_at1 (by assumption) ?_) | (refine cell_in1 (by omega) (fun x hx => ?_)) | fail)) <;> (try (conv => whnf))
  all_goals first
    | ((refine Ends.go (k.ops) ?_ [] (Fit.q cvDiskOps2 (by rfl) (by rfl))); rfl)
    | trace_state
set_option maxRecDepth 100000 in
theorem life_l (k : Dk) (E : EL) (C : CM) : CallOb Try.prog 28 [ptr 0] (rawH k E C) 3 (LitP E C (fun a : Int => iv a) (fun a k' o => o = none ∧ k' = k ∧ a = k.life)) := by
  have hvs := spots_still E
  refine (call_spec tabOk mixed Try.call28 Try.func28 rfl [] (fun z : Int => z = k.life) (fun z => iv z) (fun _ => rawH k E C) (fun _ => 3) ?_ ?_).mono (fun v h n ⟨z, hz, e1, e2, e3⟩ => ⟨z, k, none, ⟨rfl, rfl, hz⟩, e1, e2, e3⟩)
  · exact (Nat.le_of_ble_eq_true rfl)
  (repeat' ((try (conv => whnf)); first | (guard_target =~ ∃ (_ : Value), ∃ (_ : HP), ∃ (_ : HP), _; refine ⟨_, _, _, rnDiskOps1, ?_⟩; (try (dsimp only [Nat.reduceAdd, List.cons_append, List.nil_append]))) | fail | (with_reducible refine chk_in (Nat.ble_eq_true_of_le (by omega)) ?_) | (with_reducible refine ifB_in ?_ ?_ <;> intro hb <;> (try simp only [decide_eq_true_eq, decide_eq_false_iff_not, Int.not_lt, Int.not_le, ne_eq, Decidable.not_not, Bool.not_eq_true', Bool.not_eq_false', gt_iff_lt, ge_iff_le] at hb) <;> (try (exfalso; omega))) | (with_reducible refine ⟨_, w64b _, ?_⟩) | (with_reducible refine ⟨_, w64 (by omega) (by omega), ?_⟩) | (with_reducible refine ⟨_, wu64 (by omega) (by omega), ?_⟩) | (with_reducible refine ⟨_, wu8 (by omega) (by omega), ?_⟩) | (with_reducible refine ⟨_, w64 (by (simp only [size_sfrom, ByteArray.size_extract, ByteArray.size_append, strOf_size, fixedL_length, lit_size, List.size_toArray, List.length_cons, List.length_nil, List.length_append, List.length_replicate]; omega)) (by (simp only [size_sfrom, ByteArray.size_extract, ByteArray.size_append, strOf_size, fixedL_length, lit_size, List.size_toArray, List.length_cons, List.length_nil, List.length_append, List.length_replicate]; omega)), ?_⟩) | (with_reducible refine ⟨_, rfl, ?_⟩) | (with_reducible refine ⟨rfl, ?_⟩) | (intro cap) | (with_reducible refine ⟨trivial, ?_⟩) | (guard_target =~ (planChk _ _ = true) ∧ _; refine ⟨by kernel_rfl, ?_⟩) | (guard_target =~ (_ ∧ _) ∧ _; refine ⟨by ((repeat (first | exact trivial | refine ⟨rfl, ?_⟩)); (first | done | fail)), ?_⟩) | (refine ⟨by omega, ?_⟩) | (refine ⟨by (simp only [size_sfrom, ByteArray.size_extract, ByteArray.size_append, strOf_size, fixedL_length, lit_size, List.size_toArray, List.length_cons, List.length_nil, List.length_append, List.length_replicate]; omega), ?_⟩) | (refine ⟨0, rfl, ?_⟩) | (refine ⟨1, rfl, ?_⟩) | (refine ⟨2, rfl, ?_⟩) | (refine ⟨3, rfl, ?_⟩) | (refine ⟨4, rfl, ?_⟩) | (refine ⟨5, rfl, ?_⟩) | (refine cell_at1 (by assumption) ?_) | (refine cell_in1 (by omega) (fun x hx => ?_)) | fail)) <;> (try (conv => whnf))
  all_goals first
    | ((refine Ends.go (k.life) ?_ [] (Fit.q cvDiskOps2 (by rfl) (by rfl))); rfl)
    | trace_state
set_option maxRecDepth 100000 in
theorem down_l (k : Dk) (E : EL) (C : CM) : CallOb Try.prog 30 [ptr 0] (rawH k E C) 3 (LitP E C (fun a : Bool => .bool a) (fun a k' o => o = none ∧ k' = k ∧ a = k.down)) := by
  have hvs := spots_still E
  refine (call_spec tabOk mixed Try.call30 Try.func30 rfl [] (fun z : Bool => z = k.down) (fun z => .bool z) (fun _ => rawH k E C) (fun _ => 3) ?_ ?_).mono (fun v h n ⟨z, hz, e1, e2, e3⟩ => ⟨z, k, none, ⟨rfl, rfl, hz⟩, e1, e2, e3⟩)
  · exact (Nat.le_of_ble_eq_true rfl)
  (repeat' ((try (conv => whnf)); first | (guard_target =~ ∃ (_ : Value), ∃ (_ : HP), ∃ (_ : HP), _; refine ⟨_, _, _, rnDiskOps1, ?_⟩; (try (dsimp only [Nat.reduceAdd, List.cons_append, List.nil_append]))) | fail | (with_reducible refine chk_in (Nat.ble_eq_true_of_le (by omega)) ?_) | (with_reducible refine ifB_in ?_ ?_ <;> intro hb <;> (try simp only [decide_eq_true_eq, decide_eq_false_iff_not, Int.not_lt, Int.not_le, ne_eq, Decidable.not_not, Bool.not_eq_true', Bool.not_eq_false', gt_iff_lt, ge_iff_le] at hb) <;> (try (exfalso; omega))) | (with_reducible refine ⟨_, w64b _, ?_⟩) | (with_reducible refine ⟨_, w64 (by omega) (by omega), ?_⟩) | (with_reducible refine ⟨_, wu64 (by omega) (by omega), ?_⟩) | (with_reducible refine ⟨_, wu8 (by omega) (by omega), ?_⟩) | (with_reducible refine ⟨_, w64 (by (simp only [size_sfrom, ByteArray.size_extract, ByteArray.size_append, strOf_size, fixedL_length, lit_size, List.size_toArray, List.length_cons, List.length_nil, List.length_append, List.length_replicate]; omega)) (by (simp only [size_sfrom, ByteArray.size_extract, ByteArray.size_append, strOf_size, fixedL_length, lit_size, List.size_toArray, List.length_cons, List.length_nil, List.length_append, List.length_replicate]; omega)), ?_⟩) | (with_reducible refine ⟨_, rfl, ?_⟩) | (with_reducible refine ⟨rfl, ?_⟩) | (intro cap) | (with_reducible refine ⟨trivial, ?_⟩) | (guard_target =~ (planChk _ _ = true) ∧ _; refine ⟨by kernel_rfl, ?_⟩) | (guard_target =~ (_ ∧ _) ∧ _; refine ⟨by ((repeat (first | exact trivial | refine ⟨rfl, ?_⟩)); (first | done | fail)), ?_⟩) | (refine ⟨by omega, ?_⟩) | (refine ⟨by (simp only [size_sfrom, ByteArray.size_extract, ByteArray.size_append, strOf_size, fixedL_length, lit_size, List.size_toArray, List.length_cons, List.length_nil, List.length_append, List.length_replicate]; omega), ?_⟩) | (refine ⟨0, rfl, ?_⟩) | (refine ⟨1, rfl, ?_⟩) | (refine ⟨2, rfl, ?_⟩) | (refine ⟨3, rfl, ?_⟩) | (refine ⟨4, rfl, ?_⟩) | (refine ⟨5, rfl, ?_⟩) | (refine cell_at1 (by assumption) ?_) | (refine cell_in1 (by omega) (fun x hx => ?_)) | fail)) <;> (try (conv => whnf))
  all_goals first
    | ((refine Ends.go (k.down) ?_ [] (Fit.q cvDiskOps2 (by rfl) (by rfl))); rfl)
    | ((refine Ends.go (true) ?_ [] (Fit.q cvDiskOps2 (by rfl) (by rfl))); exact hb.symm)
    | ((refine Ends.go (false) ?_ [] (Fit.q cvDiskOps2 (by rfl) (by rfl))); exact hb.symm)
    | trace_state
/-- One file opened ahead of a call. -/
theorem of_foc {f : FuncId} (hok : FnOk Try.prog f) {args : List Value} {k : Dk} {E : EL} {C : CM} {K : Value → HP → Nat → Prop} {q : Nat} {s : ByteArray} {L : LF} {X : Fl} (hq : E[q]? = some (s, L, X))
    (hc : FxOk C (fxOf L X) X → FxCap (fxOf L X) → CallOb Try.prog f args (focH k E q C (fxOf L X)) 7 K) : CallOb Try.prog f args (rawH k E C) 3 K := by
  refine CallOb.pre hok fun F B w0 m w cs H hcs => ?_
  obtain ⟨m', hle, h3, H', c1, c2, c3, c4, c5⟩ := open_file H (j := 1) (r := 2) (q := q) (s := s) (L := L) (X := X) rfl rfl (by decide) hq
  refine ⟨m', args, focH k E q C (fxOf L X), 7, hle, H'.sub_of fun i it e => ?_, LR.mono (fun _ _ x => x.mono hle) hcs, hc ⟨c1, c2, rfl, rfl⟩ ⟨c3, c4, c5⟩⟩
  have := lkH_mem e
  simp only [List.mem_cons, Prod.mk.injEq, List.not_mem_nil, or_false] at this
  rcases this with ⟨rfl, rfl⟩ | ⟨rfl, rfl⟩ | ⟨rfl, rfl⟩ | ⟨rfl, rfl⟩ | ⟨rfl, rfl⟩ | ⟨rfl, rfl⟩ | ⟨rfl, rfl⟩ <;> rfl
set_option maxRecDepth 100000 in
theorem size_f (k : Dk) (s : ByteArray) (E : EL) (C : CM) (q : Nat) (L : LF) (X : Fl) (hn : (E.map fun e => e.1).Nodup) (hq : E[q]? = some (s, L, X)) :
    CallOb Try.prog 18 [ptr 0, .string s] (focH k E q C (fxOf L X)) 7 (fun v hh m => ∃ z : Int, z = (L.pn.length : Nat) ∧ v = iv z ∧ hh = focH k E q C (fxOf L X) ∧ m = 7) := by
  refine call_spec tabOk mixed Try.call18 Try.func18 rfl [] (fun z : Int => z = (L.pn.length : Nat)) (fun z => iv z) (fun _ => focH k E q C (fxOf L X)) (fun _ => 7) ?_ ?_
  · exact (Nat.le_of_ble_eq_true rfl)
  (repeat' ((try (conv => whnf)); first | (guard_target =~ ∃ (_ : Value), ∃ (_ : HP), ∃ (_ : HP), _; refine ⟨_, _, _, rnDiskOps1, ?_⟩; (try (dsimp only [Nat.reduceAdd, List.cons_append, List.nil_append]))) | (guard_target =~ LookOb _ _ _ _ _; refine look_foc hn hq ?_) | (with_reducible refine chk_in (Nat.ble_eq_true_of_le (by omega)) ?_) | (with_reducible refine ifB_in ?_ ?_ <;> intro hb <;> (try simp only [decide_eq_true_eq, decide_eq_false_iff_not, Int.not_lt, Int.not_le, ne_eq, Decidable.not_not, Bool.not_eq_true', Bool.not_eq_false', gt_iff_lt, ge_iff_le] at hb) <;> (try (exfalso; omega))) | (with_reducible refine ⟨_, w64b _, ?_⟩) | (with_reducible refine ⟨_, w64 (by omega) (by omega), ?_⟩) | (with_reducible refine ⟨_, wu64 (by omega) (by omega), ?_⟩) | (with_reducible refine ⟨_, wu8 (by omega) (by omega), ?_⟩) | (with_reducible refine ⟨_, w64 (by (simp only [size_sfrom, ByteArray.size_extract, ByteArray.size_append, strOf_size, fixedL_length, lit_size, List.size_toArray, List.length_cons, List.length_nil, List.length_append, List.length_replicate]; omega)) (by (simp only [size_sfrom, ByteArray.size_extract, ByteArray.size_append, strOf_size, fixedL_length, lit_size, List.size_toArray, List.length_cons, List.length_nil, List.length_append, List.length_replicate]; omega)), ?_⟩) | (with_reducible refine ⟨_, rfl, ?_⟩) | (with_reducible refine ⟨rfl, ?_⟩) | (intro cap) | (with_reducible refine ⟨trivial, ?_⟩) | (guard_target =~ (planChk _ _ = true) ∧ _; refine ⟨by kernel_rfl, ?_⟩) | (guard_target =~ (_ ∧ _) ∧ _; refine ⟨by ((repeat (first | exact trivial | refine ⟨rfl, ?_⟩)); (first | done | fail)), ?_⟩) | (refine ⟨by omega, ?_⟩) | (refine ⟨by (simp only [size_sfrom, ByteArray.size_extract, ByteArray.size_append, strOf_size, fixedL_length, lit_size, List.size_toArray, List.length_cons, List.length_nil, List.length_append, List.length_replicate]; omega), ?_⟩) | (refine ⟨0, rfl, ?_⟩) | (refine ⟨1, rfl, ?_⟩) | (refine ⟨2, rfl, ?_⟩) | (refine ⟨3, rfl, ?_⟩) | (refine ⟨4, rfl, ?_⟩) | (refine ⟨5, rfl, ?_⟩) | (refine cell_at1 (by assumption) ?_) | (refine cell_in1 (by omega) (fun x hx => ?_)) | fail)) <;> (try (conv => whnf))
  all_goals first
    | ((refine Ends.go (((L.pn.length : Nat) : Int)) ?_ [] (Fit.q cvDiskOps2 (by rfl) (by rfl))); rfl)
    | trace_state
set_option maxRecDepth 100000 in
theorem size_n (k : Dk) (s : ByteArray) (E : EL) (C : CM) (hN : ∀ e ∈ E, e.1 ≠ s) :
    CallOb Try.prog 18 [ptr 0, .string s] (rawH k E C) 3 (LitP E C (fun a : Int => iv a) (fun a k' o => o = none ∧ k' = k ∧ a = -1)) := by
  have hvs := spots_still E
  refine (call_spec tabOk mixed Try.call18 Try.func18 rfl [] (fun z : Int => z = -1) (fun z => iv z) (fun _ => rawH k E C) (fun _ => 3) ?_ ?_).mono (fun v h n ⟨z, hz, e1, e2, e3⟩ => ⟨z, k, none, ⟨rfl, rfl, hz⟩, e1, e2, e3⟩)
  · exact (Nat.le_of_ble_eq_true rfl)
  (repeat' ((try (conv => whnf)); first | (guard_target =~ ∃ (_ : Value), ∃ (_ : HP), ∃ (_ : HP), _; refine ⟨_, _, _, rnDiskOps1, ?_⟩; (try (dsimp only [Nat.reduceAdd, List.cons_append, List.nil_append]))) | (guard_target =~ LookOb _ _ _ _ _; refine look_files (fun q L X hq => absurd rfl (hN _ (List.mem_of_getElem? hq))) (fun _ => ?_)) | (with_reducible refine chk_in (Nat.ble_eq_true_of_le (by omega)) ?_) | (with_reducible refine ifB_in ?_ ?_ <;> intro hb <;> (try simp only [decide_eq_true_eq, decide_eq_false_iff_not, Int.not_lt, Int.not_le, ne_eq, Decidable.not_not, Bool.not_eq_true', Bool.not_eq_false', gt_iff_lt, ge_iff_le] at hb) <;> (try (exfalso; omega))) | (with_reducible refine ⟨_, w64b _, ?_⟩) | (with_reducible refine ⟨_, w64 (by omega) (by omega), ?_⟩) | (with_reducible refine ⟨_, wu64 (by omega) (by omega), ?_⟩) | (with_reducible refine ⟨_, wu8 (by omega) (by omega), ?_⟩) | (with_reducible refine ⟨_, w64 (by (simp only [size_sfrom, ByteArray.size_extract, ByteArray.size_append, strOf_size, fixedL_length, lit_size, List.size_toArray, List.length_cons, List.length_nil, List.length_append, List.length_replicate]; omega)) (by (simp only [size_sfrom, ByteArray.size_extract, ByteArray.size_append, strOf_size, fixedL_length, lit_size, List.size_toArray, List.length_cons, List.length_nil, List.length_append, List.length_replicate]; omega)), ?_⟩) | (with_reducible refine ⟨_, rfl, ?_⟩) | (with_reducible refine ⟨rfl, ?_⟩) | (intro cap) | (with_reducible refine ⟨trivial, ?_⟩) | (guard_target =~ (planChk _ _ = true) ∧ _; refine ⟨by kernel_rfl, ?_⟩) | (guard_target =~ (_ ∧ _) ∧ _; refine ⟨by ((repeat (first | exact trivial | refine ⟨rfl, ?_⟩)); (first | done | fail)), ?_⟩) | (refine ⟨by omega, ?_⟩) | (refine ⟨by (simp only [size_sfrom, ByteArray.size_extract, ByteArray.size_append, strOf_size, fixedL_length, lit_size, List.size_toArray, List.length_cons, List.length_nil, List.length_append, List.length_replicate]; omega), ?_⟩) | (refine ⟨0, rfl, ?_⟩) | (refine ⟨1, rfl, ?_⟩) | (refine ⟨2, rfl, ?_⟩) | (refine ⟨3, rfl, ?_⟩) | (refine ⟨4, rfl, ?_⟩) | (refine ⟨5, rfl, ?_⟩) | (refine cell_at1 (by assumption) ?_) | (refine cell_in1 (by omega) (fun x hx => ?_)) | fail)) <;> (try (conv => whnf))
  all_goals first
    | ((refine Ends.go ((-1 : Int)) ?_ [] (Fit.q cvDiskOps2 (by rfl) (by rfl))); rfl)
    | trace_state
set_option maxRecDepth 100000 in
theorem off_l (k : Dk) (E : EL) (C : CM) (hk : k.Fit) : CallOb Try.prog 21 [ptr 0] (rawH k E C) 3 (LitP E C (fun _ : Unit => .tuple ([] : List Value).toArray) (fun _ k' o => o = none ∧ k' = (offD ⟨k, []⟩).k)) := by
  have hvs := spots_still E
  unfold Dk.Fit at hk
  obtain ⟨room, down, ops, life, at', kind, more⟩ := k
  dsimp only at hk
  refine (call_spec tabOk mixed Try.call21 Try.func21 rfl [] (fun z : Dk => z = (offD ⟨⟨room, down, ops, life, at', kind, more⟩, []⟩).k) (fun _ => .tuple ([] : List Value).toArray) (fun z => rawH z E C) (fun _ => 3) ?_ ?_).mono (fun v h n ⟨z, hz, e1, e2, e3⟩ => ⟨(), z, none, ⟨rfl, hz⟩, e1, e2, e3⟩)
  · exact (Nat.le_of_ble_eq_true rfl)
  (repeat' ((try (conv => whnf)); first | (guard_target =~ ∃ (_ : Value), ∃ (_ : HP), ∃ (_ : HP), _; refine ⟨_, _, _, rnDiskOps1, ?_⟩; (try (dsimp only [Nat.reduceAdd, List.cons_append, List.nil_append]))) | fail | (with_reducible refine chk_in (Nat.ble_eq_true_of_le (by omega)) ?_) | (with_reducible refine ifB_in ?_ ?_ <;> intro hb <;> (try simp only [decide_eq_true_eq, decide_eq_false_iff_not, Int.not_lt, Int.not_le, ne_eq, Decidable.not_not, Bool.not_eq_true', Bool.not_eq_false', gt_iff_lt, ge_iff_le] at hb) <;> (try (exfalso; omega))) | (with_reducible refine ⟨_, w64b _, ?_⟩) | (with_reducible refine ⟨_, w64 (by omega) (by omega), ?_⟩) | (with_reducible refine ⟨_, wu64 (by omega) (by omega), ?_⟩) | (with_reducible refine ⟨_, wu8 (by omega) (by omega), ?_⟩) | (with_reducible refine ⟨_, w64 (by (simp only [size_sfrom, ByteArray.size_extract, ByteArray.size_append, strOf_size, fixedL_length, lit_size, List.size_toArray, List.length_cons, List.length_nil, List.length_append, List.length_replicate]; omega)) (by (simp only [size_sfrom, ByteArray.size_extract, ByteArray.size_append, strOf_size, fixedL_length, lit_size, List.size_toArray, List.length_cons, List.length_nil, List.length_append, List.length_replicate]; omega)), ?_⟩) | (with_reducible refine ⟨_, rfl, ?_⟩) | (with_reducible refine ⟨rfl, ?_⟩) | (intro cap) | (with_reducible refine ⟨trivial, ?_⟩) | (guard_target =~ (planChk _ _ = true) ∧ _; refine ⟨by kernel_rfl, ?_⟩) | (guard_target =~ (_ ∧ _) ∧ _; refine ⟨by ((repeat (first | exact trivial | refine ⟨rfl, ?_⟩)); (first | done | fail)), ?_⟩) | (refine ⟨by omega, ?_⟩) | (refine ⟨by (simp only [size_sfrom, ByteArray.size_extract, ByteArray.size_append, strOf_size, fixedL_length, lit_size, List.size_toArray, List.length_cons, List.length_nil, List.length_append, List.length_replicate]; omega), ?_⟩) | (refine ⟨0, rfl, ?_⟩) | (refine ⟨1, rfl, ?_⟩) | (refine ⟨2, rfl, ?_⟩) | (refine ⟨3, rfl, ?_⟩) | (refine ⟨4, rfl, ?_⟩) | (refine ⟨5, rfl, ?_⟩) | (refine cell_at1 (by assumption) ?_) | (refine cell_in1 (by omega) (fun x hx => ?_)) | fail)) <;> (try (conv => whnf))
  all_goals first
    | ((refine Ends.go ((⟨room, true, ops, life, 0, kind, more⟩ : Dk)) ?_ [] (Fit.q cvDiskOps2 (by rfl) (by rfl))); unfold offD; dsimp only at hb ⊢; subst hb; rfl)
    | ((refine Ends.go ((⟨room, true, ops, life + 1, 0, kind, more⟩ : Dk)) ?_ [] (Fit.q cvDiskOps2 (by rfl) (by rfl))); unfold offD; dsimp only at hb ⊢; subst hb; rfl)
    | trace_state
section
variable (S : Nat → Prop) (D : DM) (hD : D.Ok)
include hD
theorem drop_c (s : ByteArray) : CallOb Try.prog 48 [ptr 0, .string s] [(0, diskI S D)] 1 (AbsP (fun a : Int => iv a) (fun a D' => (a, D') = dropD D s)) := by
  refine of_raw Try.call48 fun E C hp => (drop_l D.k s E C hD.k (names_nodup hp hD.fs.sorted)).conv ?_
  rintro v h1 n1 ⟨⟨a, k, o⟩, hR, rfl, rfl, rfl⟩ F B w0 m w c H hv
  dsimp only at hR H hv
  have done : ∀ {fs' : Fs}, (a, (⟨k, fs'⟩ : DM)) = dropD D s → (∃ S, HRel F B w0 m [(0, diskI S ⟨k, fs'⟩)] 3 w) → ∃ m' v' h2 n2, m.le m' ∧ VR m' v' c ∧ HRel F B w0 m' h2 n2 w ∧ AbsP (fun a : Int => iv a) (fun a D' => (a, D') = dropD D s) v' h2 n2 := by
    rintro fs' hr ⟨S, H'⟩
    exact ⟨m, iv a, _, 20, BM.le_refl m, hv, H'.up (BM.le_refl m) H'.fn (fun i g s x => Nat.lt_of_lt_of_le (H'.fresh i g s x) (by decide)), a, _, S, hr, rfl, rfl, rfl⟩
  rcases hR with ⟨rfl, hR, h0⟩ | ⟨q, L, X, rfl, hR, hq, h0⟩
  · refine done (fs' := D.fs) ?_ (close_raw H hp)
    unfold dropD
    rw [found_none hp hD.fs.sorted hR]
    dsimp only
    rw [if_pos h0]
  · obtain ⟨hf, hx⟩ := found_some hp hD.fs.sorted hR hq
    have hl : (filesOf E)[q]? = some (s, X) := by rw [List.getElem?_map, hq]; rfl
    refine done (fs' := delF D.fs s) ?_ (close_raw H ?_)
    · unfold dropD
      rw [hf]
      dsimp only
      rw [if_neg (by decide), h0]
    · show (filesOf (E.eraseIdx q)).Perm _
      have : filesOf (E.eraseIdx q) = (filesOf E).eraseIdx q := map_eraseIdx _ _ _
      rw [this]
      exact del_perm hp hD.fs.sorted hl (perm_erase hl)
theorem arm_c (a b c : Int) (h1 : -9223372036854775808 ≤ a ∧ a ≤ 9223372036854775807) : CallOb Try.prog 12 [ptr 0, iv a, iv b, iv c] [(0, diskI S D)] 1 (AbsP (fun _ : Unit => .tuple ([] : List Value).toArray) (fun _ D' => D' = armD D a b c)) :=
  of_raw Try.call12 fun E C hp => lit_abs (fun _ => rfl) hD.fs.sorted hp (arm_l D.k a b c E C h1) fun _ k o ⟨ho, hk⟩ => ⟨D.fs, by subst ho; rfl, by rw [hk]; rfl⟩
theorem room_c (a : Int) (h1 : -9223372036854775808 ≤ a ∧ a ≤ 9223372036854775807) : CallOb Try.prog 35 [ptr 0, iv a] [(0, diskI S D)] 1 (AbsP (fun _ : Unit => .tuple ([] : List Value).toArray) (fun _ D' => D' = roomD D a)) :=
  of_raw Try.call35 fun E C hp => lit_abs (fun _ => rfl) hD.fs.sorted hp (room_l D.k a E C h1) fun _ k o ⟨ho, hk⟩ => ⟨D.fs, by subst ho; rfl, by rw [hk]; rfl⟩
theorem offd_c : CallOb Try.prog 21 [ptr 0] [(0, diskI S D)] 1 (AbsP (fun _ : Unit => .tuple ([] : List Value).toArray) (fun _ D' => D' = offD D)) :=
  of_raw Try.call21 fun E C hp => lit_abs (fun _ => rfl) hD.fs.sorted hp (off_l D.k E C hD.k) fun _ k o ⟨ho, hk⟩ => ⟨D.fs, by subst ho; rfl, by rw [hk]; rfl⟩
theorem ops_c : CallOb Try.prog 13 [ptr 0] [(0, diskI S D)] 1 (AbsP (fun a : Int => iv a) (fun a D' => D' = D ∧ a = D.k.ops)) :=
  of_raw Try.call13 fun E C hp => lit_abs (fun _ => rfl) hD.fs.sorted hp (ops_l D.k E C) fun _ k o ⟨ho, hk, ha⟩ => ⟨D.fs, by subst ho; rfl, by rw [hk], ha⟩
theorem life_c : CallOb Try.prog 28 [ptr 0] [(0, diskI S D)] 1 (AbsP (fun a : Int => iv a) (fun a D' => D' = D ∧ a = D.k.life)) :=
  of_raw Try.call28 fun E C hp => lit_abs (fun _ => rfl) hD.fs.sorted hp (life_l D.k E C) fun _ k o ⟨ho, hk, ha⟩ => ⟨D.fs, by subst ho; rfl, by rw [hk], ha⟩
theorem down_c : CallOb Try.prog 30 [ptr 0] [(0, diskI S D)] 1 (AbsP (fun a : Bool => .bool a) (fun a D' => D' = D ∧ a = D.k.down)) :=
  of_raw Try.call30 fun E C hp => lit_abs (fun _ => rfl) hD.fs.sorted hp (down_l D.k E C) fun _ k o ⟨ho, hk, ha⟩ => ⟨D.fs, by subst ho; rfl, by rw [hk], ha⟩
theorem size_c (s : ByteArray) : CallOb Try.prog 18 [ptr 0, .string s] [(0, diskI S D)] 1 (AbsP (fun a : Int => iv a) (fun a D' => D' = D ∧ a = sizeD D s)) := by
  refine of_raw Try.call18 fun E C hp => ?_
  rcases Classical.em (∀ e ∈ E, e.1 ≠ s) with hN | hN
  · exact lit_abs (fun _ => rfl) hD.fs.sorted hp (size_n D.k s E C hN) fun _ k o ⟨ho, hk, ha⟩ => ⟨D.fs, by subst ho; rfl, by rw [hk], by rw [ha]; unfold sizeD; rw [find_no hp hN]⟩
  · obtain ⟨e, he, hs⟩ : ∃ e ∈ E, e.1 = s := Classical.byContradiction fun h => hN fun e he hs => h ⟨e, he, hs⟩
    obtain ⟨q, hq⟩ := List.mem_iff_getElem?.1 he
    obtain ⟨t, L, X⟩ := e
    dsimp only at hs
    subst hs
    have hx := find_perm hp hD.fs.sorted hq
    refine lit_abs (vT := fun a : Int => iv a) (R := fun a k' o => k' = D.k ∧ a = (L.pn.length : Nat) ∧ o = some (q, fxOf L X, X) ∧ FxOk C (fxOf L X) X) (fun _ => rfl) hD.fs.sorted hp (of_foc Try.call18 hq fun hok _ => (size_f D.k t E C q L X (names_nodup hp hD.fs.sorted) hq).mono fun v h n ⟨z, hz, h1, h2, h3⟩ => ⟨z, D.k, some (q, fxOf L X, X), ⟨rfl, hz, rfl, hok⟩, h1, h2, h3⟩) ?_
    rintro a k o ⟨rfl, rfl, rfl, hok⟩
    refine ⟨_, ⟨t, L, X, hq, hok, rfl⟩, by rw [put_same hD.fs.sorted hx], ?_⟩
    unfold sizeD
    rw [hx]
    show ((L.pn.length : Nat) : Int) = (X.now.length : Nat)
    rw [show L.pn.length = X.now.length from hok.c1.len]
end
end Go.Proofs.Ytdgmjjidkaafaaa
