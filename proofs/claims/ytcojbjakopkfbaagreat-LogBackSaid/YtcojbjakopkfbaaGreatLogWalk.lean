/- The log's methods: their walks. -/
import Derived.Test.YtcojbjakopkfbaaGreatLogPlain
import Derived.Test.YtcojbjakopkfbaaGreatDiskWriteC
import Derived.Test.YtcojbjakopkfbaaGreatDiskTotal
import Derived.Test.YtcojbjakopkfbaaGreatDiskBytes
import Derived.Test.YtcojbjakopkfbaaGreatEngX
namespace Go.Proofs.YtcojbjakopkfbaaGreat
open Go.RowKit
set_option linter.unusedSimpArgs false
set_option linter.unusedVariables false
theorem sub_flat {T : Type} {f : T → List Value} {l : List T} {n i o : Nat} {y : T} (hn : ∀ y, (f y).length = n) (hy : l[i]? = some y) (ho : o = i * n) : subL (l.flatMap f) o n = some (f y) := by
  obtain ⟨hi, he⟩ := List.getElem?_eq_some_iff.1 hy
  have hlen := flat_length hn l
  have hin : i * n + n ≤ l.length * n := by
    have : (i + 1) * n ≤ l.length * n := Nat.mul_le_mul_right n hi
    rw [Nat.add_mul, Nat.one_mul] at this; exact this
  refine subL_in (List.ext_getElem? fun j => ?_) (hn y) (fun _ => by rw [hlen, ho]; omega)
  rw [List.getElem?_take, List.getElem?_drop, ho]
  by_cases hj : j < n
  · rw [if_pos hj, flat_getElem hn l i j y hy hj]
  · rw [if_neg hj, List.getElem?_eq_none (by rw [hn y]; omega)]
theorem flat_bind {α : Type} {f : α → List Value} (h : ∀ a, (f a).all flat1 = true) (l : List α) : ∀ v ∈ l.flatMap f, flat1 v = true := by
  intro v hv
  obtain ⟨a, _, ha⟩ := List.mem_flatMap.1 hv
  exact List.all_eq_true.1 (h a) v ha
theorem app_flat {α : Type} {B : List α} {x : α} {f : α → List Value} {l : List Value} (h : l = f x) : B.flatMap f ++ l = (B ++ [x]).flatMap f := by rw [h, List.flatMap_append, List.flatMap_singleton]
theorem strEq_self (s : ByteArray) : strEq s s = true := strEq_true.2 rfl
theorem strEq_ne {a b : ByteArray} (h : strEq a b = false) : a ≠ b := fun e => by rw [e, strEq_self] at h; cases h
theorem strEq_is {a b : ByteArray} (h : strEq a b = true) : a = b := bytesOf_inj.1 (strEq_true.1 h)
theorem sizeD_bound {D : DM} (h : D.Ok) (s : ByteArray) : -1 ≤ sizeD D s ∧ sizeD D s ≤ 16384 := by
  unfold sizeD
  cases hx : findF D.fs s with
  | none => dsimp only; omega
  | some x => have := (find_ok h.fs hx).len; dsimp only; omega
abbrev frv (f : Fr) : List Value := [iv f.1, .int .u64 f.2.1, .bool f.2.2]
abbrev kI (q : Int × Int) : Value := iv q.1
abbrev vI (q : Int × Int) : Value := iv q.2
abbrev mpI (fs : List Fr) : Itm := .mp ((lastM fs).map kI) ((lastM fs).map vI)
/-- A log over a disk: its frames, its map. -/
abbrev lgX (M : List (Int × Int)) (fs : List Fr) (cap : Nat) (S : Nat → Prop) (D : DM) : HP := [(0, .own 99 [ptr 1, mslice 2 fs.length cap, .map (some 3)]), (1, diskI S D), (2, .lst 105 3 cap (fs.flatMap frv)), (3, .mp (M.map kI) (M.map vI))]
abbrev lgH (fs : List Fr) (cap : Nat) (S : Nat → Prop) (D : DM) : HP := lgX (lastM fs) fs cap S D
/-- The same, its list and its map new. -/
abbrev lgM (n : Nat) (fs : List Fr) (cap : Nat) (S : Nat → Prop) (D : DM) : HP := [(0, .own 99 [ptr 1, mslice 30 n cap, .map (some 31)]), (1, diskI S D), (30, .lst 105 3 cap (fs.flatMap frv)), (31, mpI fs)]
theorem dec_pos {i : Nat} : decide (((i : Nat) : Int) > 0) = decide (0 < i) := decide_eq_decide.2 (by omega)
theorem frs_len (l : List Fr) : (l.flatMap frv).length = l.length * 3 := flat_length (f := frv) (n := 3) (fun _ => rfl) l
theorem cell_fr {fs : List Fr} {i j : Nat} {f : Fr} {v : Value} (hf : fs[i]? = some f) (hj : j < 3) (hv : (frv f)[j]? = some v) : (fs.flatMap frv)[i * 3 + j]? = some v := by
  rw [flat_getElem (f := frv) (n := 3) (fun _ => rfl) fs i j f hf hj]; exact hv
theorem sum_last {fs : List Fr} {f : Fr} (h : fs[fs.length - 1]? = some f) : sumL fs = f.2.1 := by
  unfold sumL
  rw [List.getLast?_eq_getElem?, h]
theorem sum_nil {fs : List Fr} (h : fs.length = 0) : sumL fs = sumS topS := by
  rw [List.eq_nil_of_length_eq_zero h]; rfl
theorem take_frs (fs : List Fr) (n : Nat) : (fs.flatMap frv).take (n * 3) = (fs.take n).flatMap frv := by
  induction fs generalizing n with
  | nil => simp
  | cons f r ih =>
    cases n with
    | zero => simp
    | succ n => rw [List.flatMap_cons, List.take_succ_cons, List.flatMap_cons, show (n + 1) * 3 = (frv f).length + n * 3 by show _ = 3 + _; omega, List.take_length_add_append, ih]
theorem lookI_first : ∀ {M : List (Int × Int)} {n : Int} {j : Nat} {v : Value}, FirstAt (M.map kI) (iv n) j → (M.map vI)[j]? = some v → ∃ i, v = iv i ∧ lookI M n = some i
  | [], n, j, v, h, hv => by simp at hv
  | q :: r, n, 0, v, h, hv => by
    have h1 := h.1
    simp only [List.map_cons, List.getElem?_cons_zero, Option.some.injEq, Value.int.injEq, true_and] at h1
    simp only [List.map_cons, List.getElem?_cons_zero, Option.some.injEq] at hv
    refine ⟨q.2, hv.symm, ?_⟩
    unfold lookI
    rw [List.find?_cons, show (q.1 == n) = true from by simpa using h1]
    rfl
  | q :: r, n, j + 1, v, h, hv => by
    have h1 : ¬ q.1 = n := fun e => h.2 0 (iv q.1) (by omega) rfl (by rw [e])
    obtain ⟨i, h2, h3⟩ := lookI_first (M := r) (n := n) (j := j) (v := v) ⟨h.1, fun a u ha hu => h.2 (a + 1) u (by omega) hu⟩ hv
    refine ⟨i, h2, ?_⟩
    unfold lookI at h3 ⊢
    rw [List.find?_cons, show (q.1 == n) = false from by simpa using h1]
    exact h3
theorem look_last {M : List (Int × Int)} {n : Int} {Kf : Value → Prop} {Kn : Prop} (h1 : ∀ i, lookI M n = some i → Kf (iv i)) (h2 : lookI M n = none → Kn) : LookOb (M.map kI) (M.map vI) (iv n) Kf Kn where
  kinds u hu := by obtain ⟨q, _, rfl⟩ := List.mem_map.1 hu; rfl
  len := by rw [List.length_map, List.length_map]
  found j v hj hv := by obtain ⟨i, rfl, h⟩ := lookI_first hj hv; exact h1 i h
  none h := h2 (by
    unfold lookI
    rw [List.find?_eq_none.2 (fun q hq => by
      have := h (iv q.1) (List.mem_map.2 ⟨q, hq, rfl⟩)
      simp only [beq_iff_eq]
      intro e
      exact this (by rw [e]))]
    rfl)
theorem putI_old {n v : Int} : ∀ {M : List (Int × Int)} {j : Nat}, FirstAt (M.map kI) (iv n) j → (putI M n v).map kI = M.map kI ∧ (putI M n v).map vI = (M.map vI).set j (iv v)
  | [], j, h => by have := h.1; simp at this
  | q :: r, 0, h => by
    have h1 := h.1
    simp only [List.map_cons, List.getElem?_cons_zero, Option.some.injEq, Value.int.injEq, true_and] at h1
    unfold putI
    rw [if_pos h1]
    refine ⟨?_, rfl⟩
    simp only [List.map_cons, kI, h1]
  | q :: r, j + 1, h => by
    have h1 : ¬ q.1 = n := fun e => h.2 0 (iv q.1) (by omega) rfl (by rw [e])
    obtain ⟨h2, h3⟩ := putI_old (M := r) (j := j) (v := v) ⟨h.1, fun a u ha hu => h.2 (a + 1) u (by omega) hu⟩
    unfold putI
    rw [if_neg h1]
    exact ⟨by rw [List.map_cons, List.map_cons, h2], by rw [List.map_cons, List.map_cons, h3]; rfl⟩
theorem putI_new {n v : Int} : ∀ {M : List (Int × Int)}, (∀ u ∈ M.map kI, u ≠ iv n) → putI M n v = M ++ [(n, v)]
  | [], _ => rfl
  | q :: r, h => by
    unfold putI
    rw [if_neg (fun e => h (iv q.1) (by simp) (by rw [e])), putI_new (M := r) fun u hu => h u (by simp only [List.map_cons, List.mem_cons]; exact .inr hu)]
    rfl
theorem put_last {M : List (Int × Int)} {n v : Int} : PutOb (M.map kI) (M.map vI) (iv n) (iv v) ((putI M n v).map kI) ((putI M n v).map vI) where
  kinds u hu := by obtain ⟨q, _, rfl⟩ := List.mem_map.1 hu; rfl
  len := by rw [List.length_map, List.length_map]
  old j hj := putI_old hj
  new h := by rw [putI_new h]; simp
theorem lastM_take {fs : List Fr} {i : Nat} {f : Fr} (h : fs[i]? = some f) : lastM (fs.take (i + 1)) = putI (lastM (fs.take i)) f.1 ((i : Nat) : Int) := by
  have hi : i < fs.length := (List.getElem?_eq_some_iff.1 h).1
  have e : fs.take (i + 1) = fs.take i ++ [f] := by rw [List.take_add_one, h]; rfl
  rw [e, lastM_snoc, List.length_take, Nat.min_eq_left (by omega)]
theorem read_size (D : DM) (s : ByteArray) (i : Int) (t : ByteArray) : sizeD (readD D s i).2 t = sizeD D t := rfl
theorem lastM_nil : lastM [] = [] := rfl
theorem lastM_len : ∀ (fs : List Fr), (lastM fs).length ≤ fs.length := fun fs => by
  refine snoc_ind (P := fun fs => (lastM fs).length ≤ fs.length) (Nat.le_refl _) (fun l f ih => ?_) fs
  rw [lastM_snoc, List.length_append]
  exact Nat.le_trans (putI_len _ _ _) (Nat.succ_le_succ ih)
attribute [local irreducible] numOf fixedL bytesOf strOf strEq strLt sfrom closeS closeE writeD sizeD syncD cutD dropD readD topS sumS sumL rightR lastM
theorem rnLogWalk1 {p : Prop} (h : p := by refine ⟨?_, ?_, ?_⟩; (first | apply rR_tuple | apply rR_one rfl | exact rfl); all_goals (repeat' (first | (with_reducible (first | exact relH_nil | apply rn_lst | apply rn_own | apply rn_mp | apply rn_row | apply rn_abs | exact wo_nil)) | apply wo_keep rfl | apply wo_drop rfl | exact relH_nil | exact r1_flat rfl | exact r0_flat rfl | exact rl_nil | exact wo_nil | exact bk_old rfl | exact bk_new rfl | exact bk_nil rfl | apply rl_cons | (first | exact relL_flat (flat_bind (f := frv) (fun _ => rfl) _) | exact relL_flat (flat_map (fun _ => rfl) _) | first | exact relL_still hvs | exact relL_still (still_map (fun _ => rfl) _) | exact relL_still (still_map ro_still _) | exact relL_flat (flat_map (fun _ => rfl) _) | apply relL_set) | exact relL_flat (flat_map (fun _ => rfl) _) | exact relL_flat flat_nil | apply relL_to | apply rn_lst | apply rn_own | apply rn_mp | apply rn_row | apply relH_view rfl | apply relH_lview rfl | apply relH_fact rfl | exact r1_rig | exact r0_rig | exact r1_rigs | exact r0_rigs | apply wo_keep rfl | apply wo_drop rfl | apply r1_agg | apply rn_ptr | apply rn_slice | apply rn_slice0 | apply rn_iface | apply rn_map | apply rn_ifacem | apply r0_map | apply r0_ifacem | apply r0_ptr | apply r0_slice | apply r0_slice0 | apply r0_iface)); (first | done | fail)) : p := h
theorem ltop_c (w : World) : Calls Tryz.prog 72 #[] w fun e w' => e = .returned (.string topS) ∧ Below w.heap.size w w' := by
  have hR := fun w => c_noughts 232 (by omega) (by omega) w
  have hcl := fun w => close_any 4 1 0 (strOf (List.replicate (Int.toNat 232) 0)) w ⟨by decide, by decide⟩
  obtain ⟨es, hes⟩ : ∃ es, es = closeE 4 1 (strOf (List.replicate (Int.toNat 232) 0)) := ⟨_, rfl⟩
  have hts : closeS 4 1 (Int.toNat 0) (strOf (List.replicate (Int.toNat 232) 0)) = topS := by unfold topS; rfl
  rw [hts, ← hes] at hcl
  generalize strOf (List.replicate (Int.toNat 232) 0) = c at *
  refine calls_pure tabOk mixed Tryz.func72 rfl [] [] rfl (Nat.le_of_ble_eq_true rfl) rfl ?_ w
  (repeat' ((try (conv => whnf)); first | (guard_target =~ ∃ (_ : Value), ∃ (_ : HP), ∃ (_ : HP), _; refine ⟨_, _, _, rnLogWalk1, ?_⟩; (try (dsimp only [Nat.reduceAdd, List.cons_append, List.nil_append]))) | (guard_target =~ CallOb _ 73 _ _ _ _; (with_reducible refine call_pure Tryz.call73 (hcl) ?_ ?_ ?_); exact rfl; exact rfl) | (guard_target =~ CallOb _ 53 _ _ _ _; (with_reducible refine call_pure Tryz.call53 (hR) ?_ ?_ ?_); exact rfl; exact rfl) | (with_reducible refine chk_in (Nat.ble_eq_true_of_le (by omega)) ?_) | (with_reducible refine ifB_in ?_ ?_ <;> intro hb <;> (try simp only [decide_eq_true_eq, decide_eq_false_iff_not, Int.not_lt, Int.not_le, ne_eq, Decidable.not_not, Bool.not_eq_true', Bool.not_eq_false', gt_iff_lt, ge_iff_le] at hb) <;> (try (exfalso; omega))) | (with_reducible refine ⟨_, w64b _, ?_⟩) | (with_reducible refine ⟨_, w64 (by omega) (by omega), ?_⟩) | (with_reducible refine ⟨_, wu64 (by omega) (by omega), ?_⟩) | (with_reducible refine ⟨_, wu8 (by omega) (by omega), ?_⟩) | (with_reducible refine ⟨_, w64 (by (simp only [size_sfrom, ByteArray.size_extract, ByteArray.size_append, strOf_size, fixedL_length, lit_size, List.size_toArray, List.length_cons, List.length_nil, List.length_append, List.length_replicate]; omega)) (by (simp only [size_sfrom, ByteArray.size_extract, ByteArray.size_append, strOf_size, fixedL_length, lit_size, List.size_toArray, List.length_cons, List.length_nil, List.length_append, List.length_replicate]; omega)), ?_⟩) | (with_reducible refine ⟨_, rfl, ?_⟩) | (with_reducible refine ⟨rfl, ?_⟩) | (intro cap) | (with_reducible refine ⟨trivial, ?_⟩) | (guard_target =~ (planChk _ _ = true) ∧ _; refine ⟨by kernel_rfl, ?_⟩) | (guard_target =~ (_ ∧ _) ∧ _; refine ⟨by ((repeat (first | exact trivial | refine ⟨rfl, ?_⟩)); (first | done | fail)), ?_⟩) | (refine ⟨by omega, ?_⟩) | (refine ⟨by (simp only [size_sfrom, ByteArray.size_extract, ByteArray.size_append, strOf_size, fixedL_length, lit_size, List.size_toArray, List.length_cons, List.length_nil, List.length_append, List.length_replicate]; omega), ?_⟩) | (refine ⟨0, rfl, ?_⟩) | (refine ⟨1, rfl, ?_⟩) | (refine ⟨2, rfl, ?_⟩) | (refine ⟨3, rfl, ?_⟩) | (refine ⟨4, rfl, ?_⟩) | (refine ⟨5, rfl, ?_⟩) | (refine cell_at1 (by assumption) ?_) | (refine cell_in1 (by omega) (fun x hx => ?_)) | fail)) <;> (try (conv => whnf))
  all_goals first
    | rfl
    | trace_state
theorem cvLogWalk2 {p : Prop} (h : p := by have nw := True.intro; (repeat' (first | exact True.intro | (with_reducible exact rfl) | (with_reducible exact AbsLe.refl) | (guard_target =~ @Eq Nat _ _; first | exact rfl | omega) | (guard_target =~ List.map _ _ = []; exact rfl) | (first | (guard_target =~ @Eq (List Value) _ _; exact rfl) | exact covL_of rfl (flat_bind (f := frv) (fun _ => rfl) _) | exact covL_of rfl (flat_map (fun _ => rfl) _) | first | exact covL_still rfl hvs | exact covL_still rfl (still_map (fun _ => rfl) _) | exact covL_still rfl (still_map ro_still _) | (apply covL_set <;> (try clear nw) <;> have nw := True.intro) | exact congrArg (Value.int _) (by (try dsimp only); omega)) | (exact congrArg (Value.int _) (by omega)) | (exact covL_flat (flat_map (fun _ => rfl) _)) | (exact covL_flat flat_nil) | (refine covP_all ?_; (try clear nw); have nw := True.intro) | (refine covL_each ?_; (try clear nw); have nw := True.intro) | (refine ⟨?_, ?_⟩ <;> (try clear nw) <;> have nw := True.intro) | (guard_hyp nw : True; ((conv => whnf) <;> clear nw)))); (first | done | fail)) : p := h
theorem lsum_c (M : List (Int × Int)) (fs : List Fr) (cap : Nat) (S : Nat → Prop) (D : DM) (hc : fs.length ≤ cap) (hl : fs.length ≤ 100000) :
    CallOb Tryz.prog 74 [ptr 0] (lgX M fs cap S D) 4 (fun v h m => ∃ z : Int, z = sumL fs ∧ v = .int .u64 z ∧ h = lgX M fs cap S D ∧ m = 4) := by
  refine call_spec tabOk mixed Tryz.call74 Tryz.func74 rfl [(3, [(0, true), (1, true), (2, true), (3, true), (4, true), (5, true), (6, true), (7, true), (8, true), (9, true), (10, true), (11, true), (12, true), (13, true)])] (fun z : Int => z = sumL fs) (fun z => .int .u64 z) (fun _ => lgX M fs cap S D) (fun _ => 4) ?_ ?_
  · exact (Nat.le_of_ble_eq_true rfl)
  have hsm := fun w => sealSum_any topS w
  have hse : ((sumAt (bytesOf topS) : Nat) : Int) = sumS topS := by unfold sumS; rfl
  rw [hse] at hsm
  have hsn := fun h => sum_nil (fs := fs) h
  generalize sumS topS = z0 at *
  (repeat' ((try (conv => whnf)); first | (guard_target =~ ∃ (_ : Value), ∃ (_ : HP), ∃ (_ : HP), _; refine ⟨_, _, _, rnLogWalk1, ?_⟩; (try (dsimp only [Nat.reduceAdd, List.cons_append, List.nil_append]))) | (guard_target =~ CallOb _ 72 _ _ _ _; (with_reducible refine call_pure Tryz.call72 (ltop_c) ?_ ?_ ?_); exact rfl; exact rfl) | (guard_target =~ CallOb _ 75 _ _ _ _; (with_reducible refine call_pure Tryz.call75 (hsm) ?_ ?_ ?_); exact rfl; exact rfl) | (guard_target =~ ∃ (_ : Nat), _ ∧ _; refine ⟨fs.length - 1, by omega, by omega, ?_⟩) | (obtain ⟨f, hf⟩ : ∃ f, fs[fs.length - 1]? = some f := ⟨_, List.getElem?_eq_getElem (by omega)⟩; refine onS_in (v := .int .u64 f.2.1) (by show (fs.flatMap frv)[0 + (fs.length - 1) * 3 + 1]? = _; rw [Nat.zero_add]; exact cell_fr hf (by decide) rfl) ?_) | (with_reducible refine chk_in (Nat.ble_eq_true_of_le (by omega)) ?_) | (with_reducible refine ifB_in ?_ ?_ <;> intro hb <;> (try simp only [decide_eq_true_eq, decide_eq_false_iff_not, Int.not_lt, Int.not_le, ne_eq, Decidable.not_not, Bool.not_eq_true', Bool.not_eq_false', gt_iff_lt, ge_iff_le] at hb) <;> (try (exfalso; omega))) | (with_reducible refine ⟨_, w64b _, ?_⟩) | (with_reducible refine ⟨_, w64 (by omega) (by omega), ?_⟩) | (with_reducible refine ⟨_, wu64 (by omega) (by omega), ?_⟩) | (with_reducible refine ⟨_, wu8 (by omega) (by omega), ?_⟩) | (with_reducible refine ⟨_, w64 (by (simp only [size_sfrom, ByteArray.size_extract, ByteArray.size_append, strOf_size, fixedL_length, lit_size, List.size_toArray, List.length_cons, List.length_nil, List.length_append, List.length_replicate]; omega)) (by (simp only [size_sfrom, ByteArray.size_extract, ByteArray.size_append, strOf_size, fixedL_length, lit_size, List.size_toArray, List.length_cons, List.length_nil, List.length_append, List.length_replicate]; omega)), ?_⟩) | (with_reducible refine ⟨_, rfl, ?_⟩) | (with_reducible refine ⟨rfl, ?_⟩) | (intro cap) | (with_reducible refine ⟨trivial, ?_⟩) | (guard_target =~ (planChk _ _ = true) ∧ _; refine ⟨by kernel_rfl, ?_⟩) | (guard_target =~ (_ ∧ _) ∧ _; refine ⟨by ((repeat (first | exact trivial | refine ⟨rfl, ?_⟩)); (first | done | fail)), ?_⟩) | (refine ⟨by omega, ?_⟩) | (refine ⟨by (simp only [size_sfrom, ByteArray.size_extract, ByteArray.size_append, strOf_size, fixedL_length, lit_size, List.size_toArray, List.length_cons, List.length_nil, List.length_append, List.length_replicate]; omega), ?_⟩) | (refine ⟨0, rfl, ?_⟩) | (refine ⟨1, rfl, ?_⟩) | (refine ⟨2, rfl, ?_⟩) | (refine ⟨3, rfl, ?_⟩) | (refine ⟨4, rfl, ?_⟩) | (refine ⟨5, rfl, ?_⟩) | (refine cell_at1 (by assumption) ?_) | (refine cell_in1 (by omega) (fun x hx => ?_)) | fail)) <;> (try (conv => whnf))
  all_goals first
    | ((refine Ends.go (f.2.1) ?_ [(0, some 0), (1, some 1), (2, some 2), (3, some 3)] (Fit.q cvLogWalk2 (by rfl) (by rfl))); exact (sum_last hf).symm)
    | ((refine Ends.go (z0) ?_ [(0, some 0), (1, some 1), (2, some 2), (3, some 3)] (Fit.q cvLogWalk2 (by rfl) (by rfl))); exact (hsn (by omega)).symm)
    | trace_state
structure LK where
  i : Nat
  M : List (Int × Int)
theorem lastM_0 (fs : List Fr) : ([] : List (Int × Int)) = lastM (fs.take 0) := by rw [List.take_zero]; unfold lastM; rfl
theorem cvLogWalk3 {p : Prop} (h : p := by have nw := True.intro; (repeat' (first | exact True.intro | (with_reducible exact rfl) | (with_reducible exact AbsLe.refl) | (guard_target =~ @Eq Nat _ _; first | exact rfl | omega) | (guard_target =~ List.map _ _ = []; exact rfl) | (first | (guard_target =~ @Eq (List Value) _ _; exact rfl) | exact covP_take (n * 3) (covL_of (take_frs fs n) (flat_bind (f := frv) (fun _ => rfl) _)) | exact covL_of rfl (flat_bind (f := frv) (fun _ => rfl) _) | exact covL_of rfl (flat_map (fun _ => rfl) _) | first | exact covL_still rfl hvs | exact covL_still rfl (still_map (fun _ => rfl) _) | exact covL_still rfl (still_map ro_still _) | (apply covL_set <;> (try clear nw) <;> have nw := True.intro) | exact congrArg (Value.int _) (by (try dsimp only); omega)) | (exact congrArg (Value.int _) (by omega)) | (exact covL_flat (flat_map (fun _ => rfl) _)) | (exact covL_flat flat_nil) | (refine covP_all ?_; (try clear nw); have nw := True.intro) | (refine covL_each ?_; (try clear nw); have nw := True.intro) | (refine ⟨?_, ?_⟩ <;> (try clear nw) <;> have nw := True.intro) | (guard_hyp nw : True; ((conv => whnf) <;> clear nw)))); (first | done | fail)) : p := h
set_option maxRecDepth 100000 in
theorem lkeep_c (M : List (Int × Int)) (fs : List Fr) (cap : Nat) (S : Nat → Prop) (D : DM) (hc : fs.length ≤ cap) (hl : fs.length ≤ 100000) (n : Nat) (hn : n ≤ fs.length) :
    CallOb Tryz.prog 58 [ptr 0, iv (n : Nat)] (lgX M fs cap S D) 4 (fun v h m => ∃ z : Nat, z = cap ∧ v = .tuple ([] : List Value).toArray ∧ h = lgM n (fs.take n) z S D ∧ m = 60) := by
  refine call_spec tabOk mixed Tryz.call58 Tryz.func58 rfl [(5, [(0, true), (1, true), (2, true), (3, true), (4, true), (5, true), (6, true), (1007, false)])] (fun z : Nat => z = cap) (fun _ => .tuple ([] : List Value).toArray) (fun z => lgM n (fs.take n) z S D) (fun _ => 60) ?_ ?_
  · exact (Nat.le_of_ble_eq_true rfl)
  (repeat' ((try (conv => whnf)); first | (guard_target =~ ∃ (_ : Value), ∃ (_ : HP), ∃ (_ : HP), _; refine ⟨_, _, _, rnLogWalk1, ?_⟩; (try (dsimp only [Nat.reduceAdd, List.cons_append, List.nil_append]))) | (guard_target =~ LoopOb _ _ _ _ _ _ _ _; refine loop_rule tabOk mixed [(5, [(0, true), (1, true), (2, true), (3, true), (4, true), (5, true), (6, true), (1007, false)])] 5 (fun k : LK => [(0, ptr 0), (22, mslice 2 n cap), (23, iv (n : Nat)), (24, iv (k.i : Nat))]) (fun k => [(0, .own 99 [ptr 1, mslice 2 n cap, .map (some 4)]), (1, diskI S D), (2, .lst 105 3 cap (fs.flatMap frv)), (4, .mp (k.M.map kI) (k.M.map vI))]) (fun k => n - k.i) (fun k => k.i ≤ n ∧ k.M = lastM (fs.take k.i)) ⟨0, []⟩ ⟨Nat.zero_le _, lastM_0 fs⟩ ⟨[(0, some 0), (1, some 1), (2, some 2), (4, some 4)], Sub.q cvLogWalk3 (by rfl) (by rfl)⟩ (fun k hk => ?_)) | (guard_hyp k : LK; rcases k with ⟨i, M2⟩; dsimp only at hk ⊢; have hki := hk.1) | (guard_target =~ ∃ (_ : Nat), _ ∧ _; first | refine ⟨i, rfl, by omega, ?_⟩ | refine ⟨i, by omega, by omega, ?_⟩ | refine ⟨n, rfl, by omega, ?_⟩) | (obtain ⟨f, hf⟩ : ∃ f, fs[i]? = some f := ⟨_, List.getElem?_eq_getElem (by omega)⟩; refine onS_in (sub_flat (f := frv) (n := 3) (fun _ => rfl) hf (by omega)) ?_) | (guard_target =~ ∃ ks' vs', PutOb _ _ _ _ ks' vs' ∧ _; refine ⟨_, _, put_last, ?_⟩) | (with_reducible refine chk_in (Nat.ble_eq_true_of_le (by omega)) ?_) | (with_reducible refine ifB_in ?_ ?_ <;> intro hb <;> (try simp only [decide_eq_true_eq, decide_eq_false_iff_not, Int.not_lt, Int.not_le, ne_eq, Decidable.not_not, Bool.not_eq_true', Bool.not_eq_false', gt_iff_lt, ge_iff_le] at hb) <;> (try (exfalso; omega))) | (with_reducible refine ⟨_, w64b _, ?_⟩) | (with_reducible refine ⟨_, w64 (by omega) (by omega), ?_⟩) | (with_reducible refine ⟨_, wu64 (by omega) (by omega), ?_⟩) | (with_reducible refine ⟨_, wu8 (by omega) (by omega), ?_⟩) | (with_reducible refine ⟨_, w64 (by (simp only [size_sfrom, ByteArray.size_extract, ByteArray.size_append, strOf_size, fixedL_length, lit_size, List.size_toArray, List.length_cons, List.length_nil, List.length_append, List.length_replicate]; omega)) (by (simp only [size_sfrom, ByteArray.size_extract, ByteArray.size_append, strOf_size, fixedL_length, lit_size, List.size_toArray, List.length_cons, List.length_nil, List.length_append, List.length_replicate]; omega)), ?_⟩) | (with_reducible refine ⟨_, rfl, ?_⟩) | (with_reducible refine ⟨rfl, ?_⟩) | (intro cap) | (with_reducible refine ⟨trivial, ?_⟩) | (guard_target =~ (planChk _ _ = true) ∧ _; refine ⟨by kernel_rfl, ?_⟩) | (guard_target =~ (_ ∧ _) ∧ _; refine ⟨by ((repeat (first | exact trivial | refine ⟨rfl, ?_⟩)); (first | done | fail)), ?_⟩) | (refine ⟨by omega, ?_⟩) | (refine ⟨by (simp only [size_sfrom, ByteArray.size_extract, ByteArray.size_append, strOf_size, fixedL_length, lit_size, List.size_toArray, List.length_cons, List.length_nil, List.length_append, List.length_replicate]; omega), ?_⟩) | (refine ⟨0, rfl, ?_⟩) | (refine ⟨1, rfl, ?_⟩) | (refine ⟨2, rfl, ?_⟩) | (refine ⟨3, rfl, ?_⟩) | (refine ⟨4, rfl, ?_⟩) | (refine ⟨5, rfl, ?_⟩) | (refine cell_at1 (by assumption) ?_) | (refine cell_in1 (by omega) (fun x hx => ?_)) | fail)) <;> (try (conv => whnf))
  all_goals first
    | (guard_hyp hf : fs[i]? = some f; (refine Again.go ((⟨i + 1, putI M2 f.1 (i : Nat)⟩ : LK)) ?_ (by (try dsimp only); omega) [(0, some 0), (1, some 1), (2, some 2), (4, some 4)] (Sub.q cvLogWalk3 (by rfl) (by rfl))); exact ⟨by dsimp only; omega, by dsimp only; rw [lastM_take hf, hk.2]⟩)
    | (have e : n = i := (by omega); subst e; have hM := hk.2; subst hM; (refine Ends.go (cap) ?_ [(0, some 0), (1, some 1), (30, some 2), (31, some 4)] (Fit.q cvLogWalk3 (by rfl) (by rfl))); rfl)
    | trace_state
set_option maxRecDepth 100000 in
theorem lkeep0_c (S : Nat → Prop) (D : DM) :
    CallOb Tryz.prog 58 [ptr 0, iv 0] [(0, .own 99 [ptr 1, mslice 2 0 0, .map none]), (1, diskI S D), (2, .lst 105 3 0 [])] 3 (fun v h m => ∃ z : Nat, z = 0 ∧ v = .tuple ([] : List Value).toArray ∧ h = [(0, .own 99 [ptr 1, mslice 30 0 z, .map (some 31)]), (1, diskI S D), (30, .lst 105 3 z []), (31, .mp [] [])] ∧ m = 60) := by
  refine call_spec tabOk mixed Tryz.call58 Tryz.func58 rfl [(5, [(0, true), (1, true), (2, true), (3, true), (4, true), (5, true), (6, true), (1007, false)])] (fun z : Nat => z = 0) (fun _ => .tuple ([] : List Value).toArray) (fun z => [(0, .own 99 [ptr 1, mslice 30 0 z, .map (some 31)]), (1, diskI S D), (30, .lst 105 3 z []), (31, .mp [] [])]) (fun _ => 60) ?_ ?_
  · exact (Nat.le_of_ble_eq_true rfl)
  (repeat' ((try (conv => whnf)); first | (guard_target =~ ∃ (_ : Value), ∃ (_ : HP), ∃ (_ : HP), _; refine ⟨_, _, _, rnLogWalk1, ?_⟩; (try (dsimp only [Nat.reduceAdd, List.cons_append, List.nil_append]))) | (guard_target =~ LoopOb _ _ _ _ _ _ _ _; refine loop_rule tabOk mixed [(5, [(0, true), (1, true), (2, true), (3, true), (4, true), (5, true), (6, true), (1007, false)])] 4 (fun k : Nat => [(0, ptr 0), (22, mslice 2 0 0), (23, iv 0), (24, iv 0)]) (fun k => [(0, .own 99 [ptr 1, mslice 2 0 0, .map (some 3)]), (1, diskI S D), (2, .lst 105 3 0 []), (3, .mp [] [])]) (fun k => 0) (fun k => True) 0 trivial ⟨[(0, some 0), (1, some 1), (2, some 2), (3, some 3)], Sub.q cvLogWalk3 (by rfl) (by rfl)⟩ (fun k hk => ?_)) | (with_reducible refine chk_in (Nat.ble_eq_true_of_le (by omega)) ?_) | (with_reducible refine ifB_in ?_ ?_ <;> intro hb <;> (try simp only [decide_eq_true_eq, decide_eq_false_iff_not, Int.not_lt, Int.not_le, ne_eq, Decidable.not_not, Bool.not_eq_true', Bool.not_eq_false', gt_iff_lt, ge_iff_le] at hb) <;> (try (exfalso; omega))) | (with_reducible refine ⟨_, w64b _, ?_⟩) | (with_reducible refine ⟨_, w64 (by omega) (by omega), ?_⟩) | (with_reducible refine ⟨_, wu64 (by omega) (by omega), ?_⟩) | (with_reducible refine ⟨_, wu8 (by omega) (by omega), ?_⟩) | (with_reducible refine ⟨_, w64 (by (simp only [size_sfrom, ByteArray.size_extract, ByteArray.size_append, strOf_size, fixedL_length, lit_size, List.size_toArray, List.length_cons, List.length_nil, List.length_append, List.length_replicate]; omega)) (by (simp only [size_sfrom, ByteArray.size_extract, ByteArray.size_append, strOf_size, fixedL_length, lit_size, List.size_toArray, List.length_cons, List.length_nil, List.length_append, List.length_replicate]; omega)), ?_⟩) | (with_reducible refine ⟨_, rfl, ?_⟩) | (with_reducible refine ⟨rfl, ?_⟩) | (intro cap) | (with_reducible refine ⟨trivial, ?_⟩) | (guard_target =~ (planChk _ _ = true) ∧ _; refine ⟨by kernel_rfl, ?_⟩) | (guard_target =~ (_ ∧ _) ∧ _; refine ⟨by ((repeat (first | exact trivial | refine ⟨rfl, ?_⟩)); (first | done | fail)), ?_⟩) | (refine ⟨by omega, ?_⟩) | (refine ⟨by (simp only [size_sfrom, ByteArray.size_extract, ByteArray.size_append, strOf_size, fixedL_length, lit_size, List.size_toArray, List.length_cons, List.length_nil, List.length_append, List.length_replicate]; omega), ?_⟩) | (refine ⟨0, rfl, ?_⟩) | (refine ⟨1, rfl, ?_⟩) | (refine ⟨2, rfl, ?_⟩) | (refine ⟨3, rfl, ?_⟩) | (refine ⟨4, rfl, ?_⟩) | (refine ⟨5, rfl, ?_⟩) | (refine cell_at1 (by assumption) ?_) | (refine cell_in1 (by omega) (fun x hx => ?_)) | fail)) <;> (try (conv => whnf))
  all_goals first
    | ((refine Ends.go (0) ?_ [(0, some 0), (1, some 1), (30, some 2), (31, some 3)] (Fit.q cvLogWalk3 (by rfl) (by rfl))); rfl)
    | trace_state
/-- What Open says of a sector. -/
theorem open_vals (s : ByteArray) : ∃ (k n st e : Int) (d : ByteArray), openV s = .agg #[.int .i64 k, .int .i64 n, .int .u64 st, .string d] ∧ openE s = e ∧ (e = 0 → k = (kindAt (bytesOf s) : Nat) ∧ n = (numberAt (bytesOf s) : Nat) ∧ st = (saltAt (bytesOf s) : Nat)) ∧ (0 ≤ n ∧ n ≤ 4294967295) := by
  unfold openV openE
  by_cases h : isSeal (bytesOf s) = true
  · rw [if_pos h, if_pos h]
    exact ⟨_, _, _, _, _, rfl, rfl, fun _ => ⟨rfl, rfl, rfl⟩, by have := numberAt_lt (bytesOf s); omega⟩
  · rw [if_neg h, if_neg h]
    refine ⟨_, _, _, _, _, rfl, rfl, fun e => ?_, by decide⟩
    split at e <;> cases e
theorem right_is {c : Int} {s : ByteArray} {k n st e : Int} (ho2 : openE s = e) (ho3 : e = 0 → k = (kindAt (bytesOf s) : Nat) ∧ n = (numberAt (bytesOf s) : Nat) ∧ st = (saltAt (bytesOf s) : Nat)) :
    (e = 0 → (k = 5 ∨ k = 6) → n < 4096 → st = c → rightR c s = some (n, sumS s, decide (k = 6))) ∧ (¬ (e = 0 ∧ (k = 5 ∨ k = 6) ∧ n < 4096 ∧ st = c) → rightR c s = none) := by
  unfold rightR
  refine ⟨fun h1 h2 h3 h4 => ?_, fun h => ?_⟩
  · obtain ⟨q1, q2, q3⟩ := ho3 h1
    rw [if_pos ⟨ho2.trans h1, by omega, by omega, by omega⟩, ← q2]
    have : decide (kindAt (bytesOf s) = 6) = decide (k = 6) := by rw [q1]; exact decide_eq_decide.2 (by omega)
    rw [this]
  · rw [if_neg]
    rintro ⟨h1, h2, h3, h4⟩
    obtain ⟨q1, q2, q3⟩ := ho3 (ho2.symm.trans h1)
    exact h ⟨ho2.symm.trans h1, by omega, by omega, by omega⟩
attribute [local irreducible] openE openV
set_option maxRecDepth 100000 in
theorem lright_c (M : List (Int × Int)) (fs : List Fr) (cap : Nat) (S : Nat → Prop) (D : DM) (hc : fs.length ≤ cap) (hl : fs.length ≤ 100000) (s : ByteArray) :
    CallOb Tryz.prog 91 [ptr 0, .string s] (lgX M fs cap S D) 4 (fun v h m => ∃ x : Fr × Bool, ((x.2 = true → rightR (sumL fs) s = some x.1) ∧ (x.2 = false → rightR (sumL fs) s = none)) ∧ v = .tuple #[.agg (frv x.1).toArray, .bool x.2] ∧ h = lgX M fs cap S D ∧ m = 60) := by
  refine call_spec tabOk mixed Tryz.call91 Tryz.func91 rfl [] (fun x : Fr × Bool => (x.2 = true → rightR (sumL fs) s = some x.1) ∧ (x.2 = false → rightR (sumL fs) s = none)) (fun x => .tuple #[.agg (frv x.1).toArray, .bool x.2]) (fun _ => lgX M fs cap S D) (fun _ => 60) ?_ ?_
  · exact (Nat.le_of_ble_eq_true rfl)
  have hsm := fun w => sealSum_any s w
  have hse : ((sumAt (bytesOf s) : Nat) : Int) = sumS s := by unfold sumS; rfl
  rw [hse] at hsm
  obtain ⟨ok, on, os, oe, od, ho1, ho2, ho3, ho4⟩ := open_vals s
  have hop := fun w => open_any s w
  rw [ho1, ho2] at hop
  obtain ⟨R1, R2⟩ := right_is (c := sumL fs) ho2 ho3
  (repeat' ((try (conv => whnf)); first | (guard_target =~ ∃ (_ : Value), ∃ (_ : HP), ∃ (_ : HP), _; refine ⟨_, _, _, rnLogWalk1, ?_⟩; (try (dsimp only [Nat.reduceAdd, List.cons_append, List.nil_append]))) | (guard_target =~ RegOb _ _ _ 3 _ _ _ _ _; refine reg_hold tabOk mixed [4] [(0, true), (1, true), (2, true), (4, true), (5, true), (6, true), (8, true), (9, true), (3, false), (7, true), (10, true), (11, true), (12, true), (13, true), (14, true), (15, true), (16, true), (17, true), (18, true), (19, true), (20, true), (21, true), (22, false), (23, true), (24, true), (25, false), (26, true)] (by kernel_rfl) ?_) | (guard_target =~ CallOb _ 111 _ _ _ _; (with_reducible refine call_pure Tryz.call111 (hop) ?_ ?_ ?_); exact rfl; exact rfl) | (guard_target =~ CallOb _ 75 _ _ _ _; (with_reducible refine call_pure Tryz.call75 (hsm) ?_ ?_ ?_); exact rfl; exact rfl) | (guard_target =~ CallOb _ 74 _ _ _ _; refine call_q (lsum_c M fs cap S D hc hl) [(0, some 0), (1, some 1), (2, some 2), (3, some 3)] cvLogWalk3 (by rfl) (by rfl) (by rfl) (fun v h1 n1 hp => ?_); obtain ⟨sl, hsl, rfl, rfl, rfl⟩ := hp; (try (dsimp only [Nat.reduceAdd, List.cons_append, List.nil_append]))) | (guard_target =~ extH _ _ _ ∧ _; refine ⟨by (repeat' ((try (conv => whnf)); first | exact True.intro | exact trivial | (refine ⟨rfl, ?_⟩))); (first | done | fail), ?_⟩) | (with_reducible refine chk_in (Nat.ble_eq_true_of_le (by omega)) ?_) | (with_reducible refine ifB_in ?_ ?_ <;> intro hb <;> (try simp only [decide_eq_true_eq, decide_eq_false_iff_not, Int.not_lt, Int.not_le, ne_eq, Decidable.not_not, Bool.not_eq_true', Bool.not_eq_false', gt_iff_lt, ge_iff_le] at hb) <;> (try (exfalso; omega))) | (with_reducible refine ⟨_, w64b _, ?_⟩) | (with_reducible refine ⟨_, w64 (by omega) (by omega), ?_⟩) | (with_reducible refine ⟨_, wu64 (by omega) (by omega), ?_⟩) | (with_reducible refine ⟨_, wu8 (by omega) (by omega), ?_⟩) | (with_reducible refine ⟨_, w64 (by (simp only [size_sfrom, ByteArray.size_extract, ByteArray.size_append, strOf_size, fixedL_length, lit_size, List.size_toArray, List.length_cons, List.length_nil, List.length_append, List.length_replicate]; omega)) (by (simp only [size_sfrom, ByteArray.size_extract, ByteArray.size_append, strOf_size, fixedL_length, lit_size, List.size_toArray, List.length_cons, List.length_nil, List.length_append, List.length_replicate]; omega)), ?_⟩) | (with_reducible refine ⟨_, rfl, ?_⟩) | (with_reducible refine ⟨rfl, ?_⟩) | (intro cap) | (with_reducible refine ⟨trivial, ?_⟩) | (guard_target =~ (planChk _ _ = true) ∧ _; refine ⟨by kernel_rfl, ?_⟩) | (guard_target =~ (_ ∧ _) ∧ _; refine ⟨by ((repeat (first | exact trivial | refine ⟨rfl, ?_⟩)); (first | done | fail)), ?_⟩) | (refine ⟨by omega, ?_⟩) | (refine ⟨by (simp only [size_sfrom, ByteArray.size_extract, ByteArray.size_append, strOf_size, fixedL_length, lit_size, List.size_toArray, List.length_cons, List.length_nil, List.length_append, List.length_replicate]; omega), ?_⟩) | (refine ⟨0, rfl, ?_⟩) | (refine ⟨1, rfl, ?_⟩) | (refine ⟨2, rfl, ?_⟩) | (refine ⟨3, rfl, ?_⟩) | (refine ⟨4, rfl, ?_⟩) | (refine ⟨5, rfl, ?_⟩) | (refine cell_at1 (by assumption) ?_) | (refine cell_in1 (by omega) (fun x hx => ?_)) | fail)) <;> (try (conv => whnf))
  all_goals first
    | (guard_hyp hsl : sl = sumL fs; (refine Ends.go (((on, sumS s, decide (ok = 6)), decide (os = sl))) ?_ [(0, some 0), (1, some 1), (2, some 2), (3, some 3)] (Fit.q cvLogWalk3 (by rfl) (by rfl))); refine ⟨fun h => R1 ‹oe = 0› (by omega) hb (by rw [← hsl]; exact of_decide_eq_true h), fun h => R2 (fun hh => of_decide_eq_false h (by rw [hsl]; exact hh.2.2.2))⟩)
    | ((refine Ends.go (((on, sumS s, decide (ok = 6)), false)) ?_ [(0, some 0), (1, some 1), (2, some 2), (3, some 3)] (Fit.q cvLogWalk3 (by rfl) (by rfl))); exact ⟨fun h => (by cases h), fun _ => R2 (fun hh => by omega)⟩)
    | trace_state
/-! read. -/
structure LR4 where
  i : Nat
  fs : List Fr
  cap : Nat
  D : DM
  S : Nat → Prop
structure LRR (D0 : DM) (N : Int) (sz : Nat) (k : LR4) : Prop where
  le : k.i ≤ sz
  run : readL (sz - k.i) k.i k.fs k.D = readL sz 0 [] D0
  ok : k.D.OkN (N + (k.i : Nat))
  cap : k.fs.length ≤ k.cap
  few : k.fs.length ≤ k.i
  size : sizeD k.D logN = (sz : Nat)
theorem readL_none {m i : Nat} {fs : List Fr} {D D' : DM} {s : ByteArray} (hr : ((s, (13 : Int)), D') = readD D logN (i : Nat)) : readL (m + 1) i fs D = ((decide (0 < i), 0, fs), D') := by
  unfold readL
  dsimp only
  rw [← hr]
  dsimp only
  rw [if_pos rfl]
section
variable {m i : Nat} {fs : List Fr} {D D' : DM} {s : ByteArray} {e : Int} (hr : ((s, e), D') = readD D logN (i : Nat))
include hr
theorem readL_torn (h : e = 13) : readL (m + 1) i fs D = ((decide (0 < i), 0, fs), D') := by
  unfold readL; dsimp only; rw [← hr]; dsimp only; rw [if_pos h]
theorem readL_err (h : ¬ e = 13) (h0 : ¬ e = 0) : readL (m + 1) i fs D = ((false, e, fs), D') := by
  unfold readL; dsimp only; rw [← hr]; dsimp only; rw [if_neg h, if_pos h0]
variable (h : e = 0)
include h
theorem readL_bad (hi : i = 0) (hs : s ≠ topS) : readL (m + 1) i fs D = ((false, 0, fs), D') := by
  unfold readL; dsimp only; rw [← hr]; dsimp only; rw [if_neg (by omega), if_neg (by omega), if_pos hi, if_neg hs]
theorem readL_top (hi : i = 0) (hs : s = topS) : readL (m + 1) i fs D = readL m (i + 1) fs D' := by
  conv => lhs; unfold readL
  dsimp only; rw [← hr]; dsimp only; rw [if_neg (by omega), if_neg (by omega), if_pos hi, if_pos hs, hi]
theorem readL_stop (hi : ¬ i = 0) (hs : rightR (sumL fs) s = none) : readL (m + 1) i fs D = ((decide (0 < sizeD D' logN), 0, fs), D') := by
  unfold readL; dsimp only; rw [← hr]; dsimp only; rw [if_neg (by omega), if_neg (by omega), if_neg hi, hs]
theorem readL_go {f : Fr} (hi : ¬ i = 0) (hs : rightR (sumL fs) s = some f) : readL (m + 1) i fs D = readL m (i + 1) (fs ++ [f]) D' := by
  conv => lhs; unfold readL
  dsimp only; rw [← hr]; dsimp only; rw [if_neg (by omega), if_neg (by omega), if_neg hi, hs]
end
theorem LRR.next {D0 : DM} {N : Int} {sz : Nat} {k : LR4} (h : LRR D0 N sz k) (hi : k.i < sz) : ∃ m, sz - k.i = m + 1 ∧ sz - (k.i + 1) = m ∧ readL (m + 1) k.i k.fs k.D = readL sz 0 [] D0 := by
  refine ⟨sz - (k.i + 1), by omega, rfl, ?_⟩
  rw [show sz - (k.i + 1) + 1 = sz - k.i by omega]
  exact h.run
theorem readL_0 {i : Nat} {fs : List Fr} {D : DM} : readL 0 i fs D = ((decide (0 < sizeD D logN), 0, fs), D) := by unfold readL; rfl
attribute [local irreducible] readL
abbrev lgQ (fs : List Fr) (cap : Nat) (S : Nat → Prop) (D : DM) : HP := [(0, .own 99 [ptr 1, mslice 30 fs.length cap, .map (some 3)]), (1, diskI S D), (30, .lst 105 3 cap (fs.flatMap frv)), (3, .mp [] [])]
theorem cvLogWalk4 {p : Prop} (h : p := by have nw := True.intro; (repeat' (first | exact True.intro | (with_reducible exact rfl) | (with_reducible exact AbsLe.refl) | (guard_target =~ @Eq Nat _ _; first | exact rfl | omega) | (guard_target =~ List.map _ _ = []; exact rfl) | (first | (guard_target =~ @Eq (List Value) _ _; exact rfl) | (guard_target =~ @Eq Nat _ _; dsimp only; exact (List.length_append).symm) | (guard_target =~ @Eq Nat _ _; dsimp only; rw [List.length_append]; rfl) | exact covL_of (app_flat rfl) (flat_bind (f := frv) (fun _ => rfl) _) | exact covL_of rfl (flat_bind (f := frv) (fun _ => rfl) _) | exact covL_of rfl (flat_map (fun _ => rfl) _) | first | exact covL_still rfl hvs | exact covL_still rfl (still_map (fun _ => rfl) _) | exact covL_still rfl (still_map ro_still _) | (apply covL_set <;> (try clear nw) <;> have nw := True.intro) | exact congrArg (Value.int _) (by (try dsimp only); omega)) | (exact congrArg (Value.int _) (by omega)) | (exact covL_flat (flat_map (fun _ => rfl) _)) | (exact covL_flat flat_nil) | (refine covP_all ?_; (try clear nw); have nw := True.intro) | (refine covL_each ?_; (try clear nw); have nw := True.intro) | (refine ⟨?_, ?_⟩ <;> (try clear nw) <;> have nw := True.intro) | (guard_hyp nw : True; ((conv => whnf) <;> clear nw)))); (first | done | fail)) : p := h
set_option maxRecDepth 100000 in
set_option maxHeartbeats 4000000 in
theorem lread_c (S : Nat → Prop) (D : DM) {N : Int} (hD : D.OkN N) (hN : N ≤ 900000) (zz : Nat) (hzz : sizeD D logN = (zz : Nat)) :
    CallOb Tryz.prog 59 [ptr 0] [(0, .own 99 [ptr 1, mslice 2 0 0, .map (some 3)]), (1, diskI S D), (2, .lst 105 3 0 []), (3, .mp [] [])] 4 (fun v h m => ∃ x : (Bool × Int × List Fr) × DM × (Nat → Prop) × Nat, ((x.1, x.2.1) = readL zz 0 [] D ∧ x.1.2.2.length ≤ x.2.2.2) ∧ v = .tuple #[.bool x.1.1, iv x.1.2.1] ∧ h = lgQ x.1.2.2 x.2.2.2 x.2.2.1 x.2.1 ∧ m = 80) := by
  refine call_spec tabOk mixed Tryz.call59 Tryz.func59 rfl [(14, [(0, true), (1, true), (2, true), (3, true), (4, true), (5, true), (6, false), (1007, false), (8, true), (9, true), (1010, false)])] (fun x : (Bool × Int × List Fr) × DM × (Nat → Prop) × Nat => (x.1, x.2.1) = readL zz 0 [] D ∧ x.1.2.2.length ≤ x.2.2.2) (fun x => .tuple #[.bool x.1.1, iv x.1.2.1]) (fun x => lgQ x.1.2.2 x.2.2.2 x.2.2.1 x.2.1) (fun _ => 80) ?_ ?_
  · exact (Nat.le_of_ble_eq_true rfl)
  have hzb : zz ≤ 16384 := by have := sizeD_bound (up_ok hD (by omega)) logN; omega
  have mk0 : 1 = 1 := rfl
  (repeat' ((try (conv => whnf)); first | (guard_target =~ ∃ (_ : Value), ∃ (_ : HP), ∃ (_ : HP), _; refine ⟨_, _, _, rnLogWalk1, ?_⟩; (try (dsimp only [Nat.reduceAdd, List.cons_append, List.nil_append]))) | (guard_target =~ CallOb _ 17 _ _ _ _; guard_hyp mk0 : 1 = 1; clear mk0; refine call_q (size_k S D (up_ok hD (by omega)) logN) [(0, some 1)] cvLogWalk4 (by rfl) (by rfl) (by rfl) (fun v h1 n1 hp => ?_); obtain ⟨sz, S, hsz, rfl, rfl, rfl⟩ := hp; rw [hzz] at hsz; subst hsz; (try (dsimp only [Nat.reduceAdd, List.cons_append, List.nil_append]))) | (guard_target =~ LoopOb _ _ _ _ _ _ _ _; refine loop_rule tabOk mixed [(14, [(0, true), (1, true), (2, true), (3, true), (4, true), (5, true), (6, false), (1007, false), (8, true), (9, true), (1010, false)])] 5 (fun k : LR4 => [(0, ptr 0), (13, iv (zz : Nat)), (14, iv (k.i : Nat))]) (fun k => [(0, .own 99 [ptr 1, mslice 4 k.fs.length k.cap, .map (some 3)]), (1, diskI k.S k.D), (4, .lst 105 3 k.cap (k.fs.flatMap frv)), (3, .mp [] [])]) (fun k => zz - k.i) (fun k => LRR D N zz k) ⟨0, [], 0, D, S⟩ ⟨Nat.zero_le _, rfl, hD.mono (by dsimp only; omega), Nat.le_refl _, Nat.le_refl _, hzz⟩ ⟨[(0, some 0), (1, some 1), (4, some 2), (3, some 3)], Sub.q cvLogWalk4 (by rfl) (by rfl)⟩ (fun k hk => ?_)) | (guard_hyp k : LR4; have hk2 := hk; rcases k with ⟨i, fs, cp, D1, S1⟩; dsimp only at hk hk2 ⊢; have hki := hk.le; have hko := hk.ok; have hkc := hk.cap; have hkf := hk.few; have hks := hk.size; dsimp only at hki hko hkc hkf hks) | (guard_target =~ CallOb _ 70 _ _ _ _; refine call_q (read_c S1 D1 (up_ok hko (by omega)) logN (i : Nat) (by omega)) [(0, some 1)] cvLogWalk4 (by rfl) (by rfl) (by rfl) (fun v h1 n1 hp => ?_); obtain ⟨⟨sr, er⟩, D2, S2, hr, rfl, rfl, rfl⟩ := hp; have hok2 := read_okN hko logN ((i : Nat) : Int); rw [← hr] at hok2; dsimp only at hok2; have hs2 := read_size D1 logN ((i : Nat) : Int) logN; rw [← hr] at hs2; dsimp only at hs2; obtain ⟨m, hm1, hm2, hm3⟩ := hk.next (by dsimp only; omega); dsimp only at hm1 hm2 hm3; (try (dsimp only [Nat.reduceAdd, List.cons_append, List.nil_append]))) | (guard_target =~ CallOb _ 72 _ _ _ _; (with_reducible refine call_pure Tryz.call72 (ltop_c) ?_ ?_ ?_); exact rfl; exact rfl) | (guard_target =~ CallOb _ 91 _ _ _ _; refine call_q (lright_c [] fs cp S2 D2 hkc (by omega) sr) [(0, some 0), (1, some 1), (2, some 4), (3, some 3)] cvLogWalk4 (by rfl) (by rfl) (by rfl) (fun v h1 n1 hp => ?_); obtain ⟨⟨f, ok⟩, ⟨hf1, hf2⟩, rfl, rfl, rfl⟩ := hp; dsimp only at hf1 hf2; (try (dsimp only [Nat.reduceAdd, List.cons_append, List.nil_append]))) | (guard_target =~ CallOb _ 17 _ _ _ _; first | (guard_hyp hr : ((sr, er), D2) = _; refine call_q (size_k S2 D2 (up_ok hok2 (by omega)) logN) [(0, some 1)] cvLogWalk4 (by rfl) (by rfl) (by rfl) (fun v h1 n1 hp => ?_); obtain ⟨sz, S2, hsz, rfl, rfl, rfl⟩ := hp; (try (dsimp only [Nat.reduceAdd, List.cons_append, List.nil_append]))) | (refine call_q (size_k S1 D1 (up_ok hko (by omega)) logN) [(0, some 1)] cvLogWalk4 (by rfl) (by rfl) (by rfl) (fun v h1 n1 hp => ?_); obtain ⟨sz, S1, hsz, rfl, rfl, rfl⟩ := hp; (try (dsimp only [Nat.reduceAdd, List.cons_append, List.nil_append])))) | (refine ⟨frs_len _, ?_⟩) | (with_reducible refine chk_in (Nat.ble_eq_true_of_le (by omega)) ?_) | (with_reducible refine ifB_in ?_ ?_ <;> intro hb <;> (try simp only [decide_eq_true_eq, decide_eq_false_iff_not, Int.not_lt, Int.not_le, ne_eq, Decidable.not_not, Bool.not_eq_true', Bool.not_eq_false', gt_iff_lt, ge_iff_le] at hb) <;> (try (exfalso; omega))) | (with_reducible refine ⟨_, w64b _, ?_⟩) | (with_reducible refine ⟨_, w64 (by omega) (by omega), ?_⟩) | (with_reducible refine ⟨_, wu64 (by omega) (by omega), ?_⟩) | (with_reducible refine ⟨_, wu8 (by omega) (by omega), ?_⟩) | (with_reducible refine ⟨_, w64 (by (simp only [size_sfrom, ByteArray.size_extract, ByteArray.size_append, strOf_size, fixedL_length, lit_size, List.size_toArray, List.length_cons, List.length_nil, List.length_append, List.length_replicate]; omega)) (by (simp only [size_sfrom, ByteArray.size_extract, ByteArray.size_append, strOf_size, fixedL_length, lit_size, List.size_toArray, List.length_cons, List.length_nil, List.length_append, List.length_replicate]; omega)), ?_⟩) | (with_reducible refine ⟨_, rfl, ?_⟩) | (with_reducible refine ⟨rfl, ?_⟩) | (intro cap) | (with_reducible refine ⟨trivial, ?_⟩) | (guard_target =~ (planChk _ _ = true) ∧ _; refine ⟨by kernel_rfl, ?_⟩) | (guard_target =~ (_ ∧ _) ∧ _; refine ⟨by ((repeat (first | exact trivial | refine ⟨rfl, ?_⟩)); (first | done | fail)), ?_⟩) | (refine ⟨by omega, ?_⟩) | (refine ⟨by (simp only [size_sfrom, ByteArray.size_extract, ByteArray.size_append, strOf_size, fixedL_length, lit_size, List.size_toArray, List.length_cons, List.length_nil, List.length_append, List.length_replicate]; omega), ?_⟩) | (refine ⟨0, rfl, ?_⟩) | (refine ⟨1, rfl, ?_⟩) | (refine ⟨2, rfl, ?_⟩) | (refine ⟨3, rfl, ?_⟩) | (refine ⟨4, rfl, ?_⟩) | (refine ⟨5, rfl, ?_⟩) | (refine cell_at1 (by assumption) ?_) | (refine cell_in1 (by omega) (fun x hx => ?_)) | fail)) <;> (try (conv => whnf))
  all_goals first
    | (guard_hyp hb : er = 13; (refine Ends.go (((decide (((i : Nat) : Int) > 0), 0, fs), D2, S2, cp)) ?_ [(0, some 0), (1, some 1), (30, some 4), (3, some 3)] (Fit.q cvLogWalk4 (by rfl) (by rfl))); exact ⟨by dsimp only; rw [dec_pos]; exact (readL_torn hr hb).symm.trans hm3, hkc⟩)
    | (guard_hyp hb : ¬ er = 0; (refine Ends.go (((false, er, fs), D2, S2, cp)) ?_ [(0, some 0), (1, some 1), (30, some 4), (3, some 3)] (Fit.q cvLogWalk4 (by rfl) (by rfl))); exact ⟨(readL_err hr ‹¬ er = 13› hb).symm.trans hm3, hkc⟩)
    | (guard_hyp hb : strEq sr topS = false; (refine Ends.go (((false, 0, fs), D2, S2, cp)) ?_ [(0, some 0), (1, some 1), (30, some 4), (3, some 3)] (Fit.q cvLogWalk4 (by rfl) (by rfl))); exact ⟨(readL_bad hr ‹er = 0› (by omega) (strEq_ne hb)).symm.trans hm3, hkc⟩)
    | (guard_hyp hb : ok = false; (refine Ends.go (((decide (sz > 0), 0, fs), D2, S2, cp)) ?_ [(0, some 0), (1, some 1), (30, some 4), (3, some 3)] (Fit.q cvLogWalk4 (by rfl) (by rfl))); exact ⟨by dsimp only; rw [hsz]; exact (readL_stop hr ‹er = 0› (by omega) (hf2 hb)).symm.trans hm3, hkc⟩)
    | (guard_hyp hb : ok = true; rename_i cpn; (refine Again.go ((⟨i + 1, fs ++ [f], cpn, D2, S2⟩ : LR4)) ?_ (by (try dsimp only); omega) [(0, some 0), (1, some 1), (4, some _), (3, some 3)] (Sub.q cvLogWalk4 (by rfl) (by rfl))); exact ⟨by dsimp only; omega, by dsimp only; rw [hm2]; exact (readL_go hr ‹er = 0› (by omega) (hf1 hb)).symm.trans hm3, hok2.mono (by dsimp only; omega), by dsimp only; rw [List.length_append]; assumption, by dsimp only; rw [List.length_append, List.length_singleton]; omega, hs2.trans hks⟩)
    | (guard_hyp hr : ((sr, er), D2) = readD D1 logN (i : Nat); (refine Again.go ((⟨i + 1, fs, cp, D2, S2⟩ : LR4)) ?_ (by (try dsimp only); omega) [(0, some 0), (1, some 1), (4, some 4), (3, some 3)] (Sub.q cvLogWalk4 (by rfl) (by rfl))); exact ⟨by dsimp only; omega, by dsimp only; rw [hm2]; exact (readL_top hr ‹er = 0› (by omega) (strEq_is ‹strEq sr topS = true›)).symm.trans hm3, hok2.mono (by dsimp only; omega), hkc, by dsimp only; omega, hs2.trans hks⟩)
    | ((refine Ends.go (((decide (sz > 0), 0, fs), D1, S1, cp)) ?_ [(0, some 0), (1, some 1), (30, some 4), (3, some 3)] (Fit.q cvLogWalk4 (by rfl) (by rfl))); refine ⟨?_, hkc⟩; have hq := hk.run; dsimp only at hq ⊢; rw [show zz - i = 0 by omega, readL_0] at hq; rw [hsz]; exact hq)
    | trace_state
end Go.Proofs.YtcojbjakopkfbaaGreat
