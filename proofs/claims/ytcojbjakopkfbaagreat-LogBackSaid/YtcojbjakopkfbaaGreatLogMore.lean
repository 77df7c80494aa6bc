/- The log's methods: Sync, Get, Back, End; the law's helpers: number, page, holds. -/
import Derived.Test.YtcojbjakopkfbaaGreatLogOps
namespace Go.Proofs.YtcojbjakopkfbaaGreat
open Go.RowKit
set_option linter.unusedSimpArgs false
set_option linter.unusedVariables false
theorem look_bound (fs : List Fr) (n : Int) : ∀ i, lookI (lastM fs) n = some i → 0 ≤ i ∧ i < (fs.length : Int) := by
  refine snoc_ind (P := fun fs => ∀ i, lookI (lastM fs) n = some i → 0 ≤ i ∧ i < (fs.length : Int)) (fun i h => ?_) (fun l f ih i h => ?_) fs
  · rw [lastM_nil] at h; cases h
  · rw [lastM_snoc, look_put] at h
    rw [List.length_append, List.length_singleton]
    split at h
    · cases h; omega
    · have := ih i h; omega
theorem read_256 {D D' : DM} (h : D.Ok) {s z : ByteArray} {i e : Int} (hr : ((z, e), D') = readD D s i) (h0 : e = 0) : z.size = 256 := by
  unfold readD at hr
  dsimp only at hr
  simp only [Prod.mk.injEq] at hr
  obtain ⟨hr, _⟩ := hr
  split at hr
  · rename_i hf
    simp only [Prod.mk.injEq] at hr
    exact absurd (hr.2.symm.trans h0) hf
  · cases hx : findF D.fs s with
    | none =>
      rw [hx] at hr
      unfold readF at hr
      dsimp only [Option.getD_none] at hr
      split at hr
      · simp only [Prod.mk.injEq] at hr; omega
      · have e0 : fl0.now[i.toNat]? = none := by simp [fl0]
        rw [e0] at hr
        simp only [readC, Prod.mk.injEq] at hr
        omega
    | some x =>
      rw [hx] at hr
      dsimp only [Option.getD_some] at hr
      have hX := find_ok h.fs hx
      unfold readF at hr
      split at hr
      · simp only [Prod.mk.injEq] at hr; omega
      · cases hc : x.now[i.toNat]? with
        | none => rw [hc] at hr; simp only [readC, Prod.mk.injEq] at hr; omega
        | some c =>
          rw [hc] at hr
          cases c with
          | none => simp only [readC, Prod.mk.injEq] at hr; omega
          | some d =>
            simp only [readC, Prod.mk.injEq] at hr
            rw [hr.1]
            exact hX.now _ (List.mem_of_getElem? hc)
section
variable {fs : List Fr} {D D1 : DM} {n i e : Int} {z : ByteArray}
theorem getL_none (h : lookI (lastM fs) n = none) : getL fs D n = ((⟨#[]⟩, false, 0), D) := by unfold getL; rw [h]
theorem getL_err (h : lookI (lastM fs) n = some i) (hr : ((z, e), D1) = readD D logN (1 + i)) (h0 : ¬ e = 0) : getL fs D n = ((⟨#[]⟩, false, e), D1) := by unfold getL; rw [h]; dsimp only; rw [← hr]; dsimp only; rw [if_pos h0]
theorem getL_ok (h : lookI (lastM fs) n = some i) (hr : ((z, e), D1) = readD D logN (1 + i)) (h0 : e = 0) : getL fs D n = ((z.extract 0 232, true, 0), D1) := by unfold getL; rw [h]; dsimp only; rw [← hr]; dsimp only; rw [if_neg (fun hh => hh h0)]
theorem lback_arg {k : Int} (h : k < 0 ∨ (fs.length : Int) < k) : lbackL fs D k = (1, fs, D) := by unfold lbackL; rw [if_pos h]
theorem lback_eq {k : Int} (h : k = (fs.length : Int)) : lbackL fs D k = (0, fs, D) := by unfold lbackL; rw [if_neg (by omega), if_pos h]
theorem lback_cut {k : Int} (h : ¬ (k < 0 ∨ (fs.length : Int) < k)) (h2 : ¬ k = (fs.length : Int)) (hc : (e, D1) = cutD D logN (1 + k)) : (e = 0 → lbackL fs D k = (0, fs.take k.toNat, D1)) ∧ (¬ e = 0 → lbackL fs D k = (e, fs, D1)) := by
  unfold lbackL
  rw [if_neg h, if_neg h2]
  dsimp only
  rw [← hc]
  exact ⟨fun h => by rw [if_pos h], fun h => by rw [if_neg h]⟩
theorem lend_no (h : sizeD D logN < 0) : lendL fs D = (0, [], D) := by unfold lendL; rw [if_pos h]
theorem lend_drop (h : ¬ sizeD D logN < 0) (hd : (e, D1) = dropD D logN) : (e = 0 → lendL fs D = (0, [], D1)) ∧ (¬ e = 0 → lendL fs D = (e, fs, D1)) := by
  unfold lendL
  rw [if_neg h]
  dsimp only
  rw [← hd]
  exact ⟨fun h => by rw [if_neg (fun hh => hh h)], fun h => by rw [if_pos h]⟩
end
attribute [local irreducible] numOf fixedL bytesOf strOf strEq strLt sfrom closeS closeE writeD sizeD syncD cutD dropD readD topS sumS sumL rightR lastM readL openL trimR addL kindL lsyncL getL lbackL lendL
theorem cvLogMore1 {p : Prop} (h : p := by have nw := True.intro; (repeat' (first | exact True.intro | (with_reducible exact rfl) | (with_reducible exact AbsLe.refl) | (guard_target =~ @Eq Nat _ _; first | exact rfl | omega) | (guard_target =~ List.map _ _ = []; exact rfl) | (first | (guard_target =~ @Eq (List Value) _ _; exact rfl) | (guard_target =~ @Eq (List Value) _ _; first | exact (congrArg (List.map kI) lastM_nil) | exact (congrArg (List.map kI) lastM_nil).symm) | exact covL_of (congrArg (List.map vI) lastM_nil).symm (flat_map (fun _ => rfl) _) | exact covL_of (congrArg (List.map vI) lastM_nil) (flat_map (fun _ => rfl) _) | exact covL_of rfl (flat_bind (f := frv) (fun _ => rfl) _) | exact covL_of rfl (flat_map (fun _ => rfl) _) | first | exact covL_still rfl hvs | exact covL_still rfl (still_map (fun _ => rfl) _) | exact covL_still rfl (still_map ro_still _) | (apply covL_set <;> (try clear nw) <;> have nw := True.intro) | exact congrArg (Value.int _) (by (try dsimp only); omega)) | (exact congrArg (Value.int _) (by omega)) | (exact covL_flat (flat_map (fun _ => rfl) _)) | (exact covL_flat flat_nil) | (refine covP_all ?_; (try clear nw); have nw := True.intro) | (refine covL_each ?_; (try clear nw); have nw := True.intro) | (refine ⟨?_, ?_⟩ <;> (try clear nw) <;> have nw := True.intro) | (guard_hyp nw : True; ((conv => whnf) <;> clear nw)))); (first | done | fail)) : p := h
theorem rnLogMore2 {p : Prop} (h : p := by refine ⟨?_, ?_, ?_⟩; (first | apply rR_tuple | apply rR_one rfl | exact rfl); all_goals (repeat' (first | (with_reducible (first | exact relH_nil | apply rn_lst | apply rn_own | apply rn_mp | apply rn_row | apply rn_abs | exact wo_nil)) | apply wo_keep rfl | apply wo_drop rfl | exact relH_nil | exact r1_flat rfl | exact r0_flat rfl | exact rl_nil | exact wo_nil | exact bk_old rfl | exact bk_new rfl | exact bk_nil rfl | apply rl_cons | (first | exact relL_flat (flat_bind (f := frv) (fun _ => rfl) _) | exact relL_flat (flat_map (fun _ => rfl) _) | first | exact relL_still hvs | exact relL_still (still_map (fun _ => rfl) _) | exact relL_still (still_map ro_still _) | exact relL_flat (flat_map (fun _ => rfl) _) | apply relL_set) | exact relL_flat (flat_map (fun _ => rfl) _) | exact relL_flat flat_nil | apply relL_to | apply rn_lst | apply rn_own | apply rn_mp | apply rn_row | apply relH_view rfl | apply relH_lview rfl | apply relH_fact rfl | exact r1_rig | exact r0_rig | exact r1_rigs | exact r0_rigs | apply wo_keep rfl | apply wo_drop rfl | apply r1_agg | apply rn_ptr | apply rn_slice | apply rn_slice0 | apply rn_iface | apply rn_map | apply rn_ifacem | apply r0_map | apply r0_ifacem | apply r0_ptr | apply r0_slice | apply r0_slice0 | apply r0_iface)); (first | done | fail)) : p := h
set_option maxRecDepth 100000 in
theorem lsync_c (M : List (Int × Int)) (fs : List Fr) (cap : Nat) (S : Nat → Prop) (D : DM) {N : Int} (hD : D.OkN N) (hN : N ≤ 900000) :
    CallOb Tryz.prog 30 [ptr 0] (lgX M fs cap S D) 4 (fun v h m => ∃ x : Int × DM × (Nat → Prop), (x.1, x.2.1) = lsyncL D ∧ v = iv x.1 ∧ h = lgX M fs cap x.2.2 x.2.1 ∧ m = 60) := by
  refine call_spec tabOk mixed Tryz.call30 Tryz.func30 rfl [] (fun x : Int × DM × (Nat → Prop) => (x.1, x.2.1) = lsyncL D) (fun x => iv x.1) (fun x => lgX M fs cap x.2.2 x.2.1) (fun _ => 60) ?_ ?_
  · exact (Nat.le_of_ble_eq_true rfl)
  have E1 : sizeD D logN < 0 → (0, D) = lsyncL D := fun h => by unfold lsyncL; rw [if_pos h]
  have E2 : ¬ sizeD D logN < 0 → syncD D logN = lsyncL D := fun h => by unfold lsyncL; rw [if_neg h]
  (repeat' ((try (conv => whnf)); first | (guard_target =~ ∃ (_ : Value), ∃ (_ : HP), ∃ (_ : HP), _; refine ⟨_, _, _, rnLogMore2, ?_⟩; (try (dsimp only [Nat.reduceAdd, List.cons_append, List.nil_append]))) | (guard_target =~ CallOb _ 17 _ _ _ _; refine call_q (size_k S D (up_ok hD (by omega)) logN) [(0, some 1)] cvLogMore1 (by rfl) (by rfl) (by rfl) (fun v h1 n1 hp => ?_); obtain ⟨sz, S, hsz, rfl, rfl, rfl⟩ := hp; (try (dsimp only [Nat.reduceAdd, List.cons_append, List.nil_append]))) | (guard_target =~ CallOb _ 76 _ _ _ _; refine call_q (sync_c S D (up_ok hD (by omega)) logN) [(0, some 1)] cvLogMore1 (by rfl) (by rfl) (by rfl) (fun v h1 n1 hp => ?_); obtain ⟨ey, D1, S1, hy, rfl, rfl, rfl⟩ := hp; (try (dsimp only [Nat.reduceAdd, List.cons_append, List.nil_append]))) | (with_reducible refine chk_in (Nat.ble_eq_true_of_le (by omega)) ?_) | (with_reducible refine ifB_in ?_ ?_ <;> intro hb <;> (try simp only [decide_eq_true_eq, decide_eq_false_iff_not, Int.not_lt, Int.not_le, ne_eq, Decidable.not_not, Bool.not_eq_true', Bool.not_eq_false', gt_iff_lt, ge_iff_le] at hb) <;> (try (exfalso; omega))) | (with_reducible refine ⟨_, w64b _, ?_⟩) | (with_reducible refine ⟨_, w64 (by omega) (by omega), ?_⟩) | (with_reducible refine ⟨_, wu64 (by omega) (by omega), ?_⟩) | (with_reducible refine ⟨_, wu8 (by omega) (by omega), ?_⟩) | (with_reducible refine ⟨_, w64 (by (simp only [size_sfrom, ByteArray.size_extract, ByteArray.size_append, strOf_size, fixedL_length, lit_size, List.size_toArray, List.length_cons, List.length_nil, List.length_append, List.length_replicate]; omega)) (by (simp only [size_sfrom, ByteArray.size_extract, ByteArray.size_append, strOf_size, fixedL_length, lit_size, List.size_toArray, List.length_cons, List.length_nil, List.length_append, List.length_replicate]; omega)), ?_⟩) | (with_reducible refine ⟨_, rfl, ?_⟩) | (with_reducible refine ⟨rfl, ?_⟩) | (intro cap) | (with_reducible refine ⟨trivial, ?_⟩) | (guard_target =~ (planChk _ _ = true) ∧ _; refine ⟨by kernel_rfl, ?_⟩) | (guard_target =~ (_ ∧ _) ∧ _; refine ⟨by ((repeat (first | exact trivial | refine ⟨rfl, ?_⟩)); (first | done | fail)), ?_⟩) | (refine ⟨by omega, ?_⟩) | (refine ⟨by (simp only [size_sfrom, ByteArray.size_extract, ByteArray.size_append, strOf_size, fixedL_length, lit_size, List.size_toArray, List.length_cons, List.length_nil, List.length_append, List.length_replicate]; omega), ?_⟩) | (refine ⟨0, rfl, ?_⟩) | (refine ⟨1, rfl, ?_⟩) | (refine ⟨2, rfl, ?_⟩) | (refine ⟨3, rfl, ?_⟩) | (refine ⟨4, rfl, ?_⟩) | (refine ⟨5, rfl, ?_⟩) | (refine cell_at1 (by assumption) ?_) | (refine cell_in1 (by omega) (fun x hx => ?_)) | fail)) <;> (try (conv => whnf))
  all_goals first
    | (guard_hyp hb : sz < 0; (refine Ends.go ((0, D, S)) ?_ [(0, some 0), (1, some 1), (2, some 2), (3, some 3)] (Fit.q cvLogMore1 (by rfl) (by rfl))); exact E1 (hsz ▸ hb))
    | ((refine Ends.go ((ey, D1, S1)) ?_ [(0, some 0), (1, some 1), (2, some 2), (3, some 3)] (Fit.q cvLogMore1 (by rfl) (by rfl))); exact hy.trans (E2 (by omega)))
    | trace_state
set_option maxRecDepth 100000 in
theorem lget_c (fs : List Fr) (cap : Nat) (S : Nat → Prop) (D : DM) {N : Int} (hD : D.OkN N) (hN : N ≤ 900000) (hl : fs.length ≤ 100000) (n : Int) :
    CallOb Tryz.prog 24 [ptr 0, iv n] (lgH fs cap S D) 4 (fun v h m => ∃ x : (ByteArray × Bool × Int) × DM × (Nat → Prop), (x.1, x.2.1) = getL fs D n ∧ v = .tuple #[.string x.1.1, .bool x.1.2.1, iv x.1.2.2] ∧ h = lgH fs cap x.2.2 x.2.1 ∧ m = 40) := by
  refine call_spec tabOk mixed Tryz.call24 Tryz.func24 rfl [] (fun x : (ByteArray × Bool × Int) × DM × (Nat → Prop) => (x.1, x.2.1) = getL fs D n) (fun x => .tuple #[.string x.1.1, .bool x.1.2.1, iv x.1.2.2]) (fun x => lgH fs cap x.2.2 x.2.1) (fun _ => 40) ?_ ?_
  · exact (Nat.le_of_ble_eq_true rfl)
  have hlb := look_bound fs n
  (repeat' ((try (conv => whnf)); first | (guard_target =~ ∃ (_ : Value), ∃ (_ : HP), ∃ (_ : HP), _; refine ⟨_, _, _, rnLogMore2, ?_⟩; (try (dsimp only [Nat.reduceAdd, List.cons_append, List.nil_append]))) | (guard_target =~ LookOb _ _ _ _ _; refine look_last (fun i hi => ?_) (fun hi => ?_) <;> try have hib := hlb i hi) | (guard_target =~ CallOb _ 70 _ _ _ _; refine call_q (read_c S D (up_ok hD (by omega)) logN (1 + i) (by omega)) [(0, some 1)] cvLogMore1 (by rfl) (by rfl) (by rfl) (fun v h1 n1 hp => ?_); obtain ⟨⟨sr, er⟩, D1, S1, hr, rfl, rfl, rfl⟩ := hp; (try (dsimp only [Nat.reduceAdd, List.cons_append, List.nil_append]))) | (guard_target =~ ∃ (_ : Nat), _ ∧ _; have h256 := read_256 (up_ok hD (by omega)) hr ‹er = 0›; refine ⟨232, by omega, by omega, ?_⟩) | (with_reducible refine chk_in (Nat.ble_eq_true_of_le (by omega)) ?_) | (with_reducible refine ifB_in ?_ ?_ <;> intro hb <;> (try simp only [decide_eq_true_eq, decide_eq_false_iff_not, Int.not_lt, Int.not_le, ne_eq, Decidable.not_not, Bool.not_eq_true', Bool.not_eq_false', gt_iff_lt, ge_iff_le] at hb) <;> (try (exfalso; omega))) | (with_reducible refine ⟨_, w64b _, ?_⟩) | (with_reducible refine ⟨_, w64 (by omega) (by omega), ?_⟩) | (with_reducible refine ⟨_, wu64 (by omega) (by omega), ?_⟩) | (with_reducible refine ⟨_, wu8 (by omega) (by omega), ?_⟩) | (with_reducible refine ⟨_, w64 (by (simp only [size_sfrom, ByteArray.size_extract, ByteArray.size_append, strOf_size, fixedL_length, lit_size, List.size_toArray, List.length_cons, List.length_nil, List.length_append, List.length_replicate]; omega)) (by (simp only [size_sfrom, ByteArray.size_extract, ByteArray.size_append, strOf_size, fixedL_length, lit_size, List.size_toArray, List.length_cons, List.length_nil, List.length_append, List.length_replicate]; omega)), ?_⟩) | (with_reducible refine ⟨_, rfl, ?_⟩) | (with_reducible refine ⟨rfl, ?_⟩) | (intro cap) | (with_reducible refine ⟨trivial, ?_⟩) | (guard_target =~ (planChk _ _ = true) ∧ _; refine ⟨by kernel_rfl, ?_⟩) | (guard_target =~ (_ ∧ _) ∧ _; refine ⟨by ((repeat (first | exact trivial | refine ⟨rfl, ?_⟩)); (first | done | fail)), ?_⟩) | (refine ⟨by omega, ?_⟩) | (refine ⟨by (simp only [size_sfrom, ByteArray.size_extract, ByteArray.size_append, strOf_size, fixedL_length, lit_size, List.size_toArray, List.length_cons, List.length_nil, List.length_append, List.length_replicate]; omega), ?_⟩) | (refine ⟨0, rfl, ?_⟩) | (refine ⟨1, rfl, ?_⟩) | (refine ⟨2, rfl, ?_⟩) | (refine ⟨3, rfl, ?_⟩) | (refine ⟨4, rfl, ?_⟩) | (refine ⟨5, rfl, ?_⟩) | (refine cell_at1 (by assumption) ?_) | (refine cell_in1 (by omega) (fun x hx => ?_)) | fail)) <;> (try (conv => whnf))
  all_goals first
    | (guard_hyp hi : lookI (lastM fs) n = none; (refine Ends.go (((⟨#[]⟩, false, 0), D, S)) ?_ [(0, some 0), (1, some 1), (2, some 2), (3, some 3)] (Fit.q cvLogMore1 (by rfl) (by rfl))); exact (getL_none hi).symm)
    | (guard_hyp hb : ¬ er = 0; (refine Ends.go (((⟨#[]⟩, false, er), D1, S1)) ?_ [(0, some 0), (1, some 1), (2, some 2), (3, some 3)] (Fit.q cvLogMore1 (by rfl) (by rfl))); exact (getL_err hi hr hb).symm)
    | ((refine Ends.go (((sr.extract 0 232, true, 0), D1, S1)) ?_ [(0, some 0), (1, some 1), (2, some 2), (3, some 3)] (Fit.q cvLogMore1 (by rfl) (by rfl))); exact (getL_ok hi hr ‹er = 0›).symm)
    | trace_state
set_option maxRecDepth 100000 in
theorem lend_c (fs : List Fr) (cap : Nat) (S : Nat → Prop) (D : DM) {N : Int} (hD : D.OkN N) (hN : N ≤ 900000) (hc : fs.length ≤ cap) (hl : fs.length ≤ 100000) :
    CallOb Tryz.prog 35 [ptr 0] (lgH fs cap S D) 4 (fun v h m => ∃ x : LX × Int, ((x.2, x.1.fs, x.1.D) = lendL fs D ∧ x.1.fs.length ≤ x.1.cap ∧ x.1.n = x.1.fs.length) ∧ v = iv x.2 ∧ h = lgM x.1.n x.1.fs x.1.cap x.1.S x.1.D ∧ m = 200) := by
  refine call_spec tabOk mixed Tryz.call35 Tryz.func35 rfl [] (fun x : LX × Int => (x.2, x.1.fs, x.1.D) = lendL fs D ∧ x.1.fs.length ≤ x.1.cap ∧ x.1.n = x.1.fs.length) (fun x => iv x.2) (fun x => lgM x.1.n x.1.fs x.1.cap x.1.S x.1.D) (fun _ => 200) ?_ ?_
  · exact (Nat.le_of_ble_eq_true rfl)
  (repeat' ((try (conv => whnf)); first | (guard_target =~ ∃ (_ : Value), ∃ (_ : HP), ∃ (_ : HP), _; refine ⟨_, _, _, rnLogMore2, ?_⟩; (try (dsimp only [Nat.reduceAdd, List.cons_append, List.nil_append]))) | (guard_target =~ CallOb _ 17 _ _ _ _; refine call_q (size_k S D (up_ok hD (by omega)) logN) [(0, some 1)] cvLogMore1 (by rfl) (by rfl) (by rfl) (fun v h1 n1 hp => ?_); obtain ⟨sz, S, hsz, rfl, rfl, rfl⟩ := hp; (try (dsimp only [Nat.reduceAdd, List.cons_append, List.nil_append]))) | (guard_target =~ CallOb _ 61 _ _ _ _; refine call_q (drop_c S D (up_ok hD (by omega)) logN) [(0, some 1)] cvLogMore1 (by rfl) (by rfl) (by rfl) (fun v h1 n1 hp => ?_); obtain ⟨ed, D1, S1, hd1, rfl, rfl, rfl⟩ := hp; (try (dsimp only [Nat.reduceAdd, List.cons_append, List.nil_append]))) | (guard_target =~ CallOb _ 58 _ _ _ _; first | (guard_hyp hd1 : (ed, D1) = _; refine call_q (lkeep_c (lastM fs) fs cap S1 D1 hc hl 0 (Nat.zero_le _)) [(0, some 0), (1, some 1), (2, some 2), (3, some 3)] cvLogMore1 (by rfl) (by rfl) (by rfl) (fun v h1 n1 hp => ?_); obtain ⟨ck, hck, rfl, rfl, rfl⟩ := hp; subst hck; (try (dsimp only [Nat.reduceAdd, List.cons_append, List.nil_append]))) | (refine call_q (lkeep_c (lastM fs) fs cap S D hc hl 0 (Nat.zero_le _)) [(0, some 0), (1, some 1), (2, some 2), (3, some 3)] cvLogMore1 (by rfl) (by rfl) (by rfl) (fun v h1 n1 hp => ?_); obtain ⟨ck, hck, rfl, rfl, rfl⟩ := hp; subst hck; (try (dsimp only [Nat.reduceAdd, List.cons_append, List.nil_append])))) | (with_reducible refine chk_in (Nat.ble_eq_true_of_le (by omega)) ?_) | (with_reducible refine ifB_in ?_ ?_ <;> intro hb <;> (try simp only [decide_eq_true_eq, decide_eq_false_iff_not, Int.not_lt, Int.not_le, ne_eq, Decidable.not_not, Bool.not_eq_true', Bool.not_eq_false', gt_iff_lt, ge_iff_le] at hb) <;> (try (exfalso; omega))) | (with_reducible refine ⟨_, w64b _, ?_⟩) | (with_reducible refine ⟨_, w64 (by omega) (by omega), ?_⟩) | (with_reducible refine ⟨_, wu64 (by omega) (by omega), ?_⟩) | (with_reducible refine ⟨_, wu8 (by omega) (by omega), ?_⟩) | (with_reducible refine ⟨_, w64 (by (simp only [size_sfrom, ByteArray.size_extract, ByteArray.size_append, strOf_size, fixedL_length, lit_size, List.size_toArray, List.length_cons, List.length_nil, List.length_append, List.length_replicate]; omega)) (by (simp only [size_sfrom, ByteArray.size_extract, ByteArray.size_append, strOf_size, fixedL_length, lit_size, List.size_toArray, List.length_cons, List.length_nil, List.length_append, List.length_replicate]; omega)), ?_⟩) | (with_reducible refine ⟨_, rfl, ?_⟩) | (with_reducible refine ⟨rfl, ?_⟩) | (intro cap) | (with_reducible refine ⟨trivial, ?_⟩) | (guard_target =~ (planChk _ _ = true) ∧ _; refine ⟨by kernel_rfl, ?_⟩) | (guard_target =~ (_ ∧ _) ∧ _; refine ⟨by ((repeat (first | exact trivial | refine ⟨rfl, ?_⟩)); (first | done | fail)), ?_⟩) | (refine ⟨by omega, ?_⟩) | (refine ⟨by (simp only [size_sfrom, ByteArray.size_extract, ByteArray.size_append, strOf_size, fixedL_length, lit_size, List.size_toArray, List.length_cons, List.length_nil, List.length_append, List.length_replicate]; omega), ?_⟩) | (refine ⟨0, rfl, ?_⟩) | (refine ⟨1, rfl, ?_⟩) | (refine ⟨2, rfl, ?_⟩) | (refine ⟨3, rfl, ?_⟩) | (refine ⟨4, rfl, ?_⟩) | (refine ⟨5, rfl, ?_⟩) | (refine cell_at1 (by assumption) ?_) | (refine cell_in1 (by omega) (fun x hx => ?_)) | fail)) <;> (try (conv => whnf))
  all_goals first
    | (guard_hyp hb : ¬ ed = 0; (refine Ends.go (((⟨fs.length, fs, cap, S1, D1⟩ : LX), ed)) ?_ [(0, some 0), (1, some 1), (30, some 2), (31, some 3)] (Fit.q cvLogMore1 (by rfl) (by rfl))); exact ⟨((lend_drop (by omega) hd1).2 hb).symm, hc, rfl⟩)
    | (guard_hyp hb : ed = 0; (refine Ends.go (((⟨0, fs.take 0, ck, S1, D1⟩ : LX), 0)) ?_ [(0, some 0), (1, some 1), (30, some _), (31, some _)] (Fit.q cvLogMore1 (by rfl) (by rfl))); exact ⟨by dsimp only; rw [List.take_zero]; exact ((lend_drop (by omega) hd1).1 hb).symm, by rw [List.take_zero]; exact Nat.zero_le _, by rw [List.take_zero]; rfl⟩)
    | ((refine Ends.go (((⟨0, fs.take 0, ck, S, D⟩ : LX), 0)) ?_ [(0, some 0), (1, some 1), (30, some _), (31, some _)] (Fit.q cvLogMore1 (by rfl) (by rfl))); exact ⟨by dsimp only; rw [List.take_zero]; exact (lend_no (by omega)).symm, by rw [List.take_zero]; exact Nat.zero_le _, by rw [List.take_zero]; rfl⟩)
    | trace_state
set_option maxRecDepth 100000 in
theorem lback_c (fs : List Fr) (cap : Nat) (S : Nat → Prop) (D : DM) {N : Int} (hD : D.OkN N) (hN : N ≤ 900000) (hc : fs.length ≤ cap) (hl : fs.length ≤ 100000) (k : Int) :
    CallOb Tryz.prog 34 [ptr 0, iv k] (lgH fs cap S D) 4 (fun v h m => ∃ x : LX × Int, ((x.2, x.1.fs, x.1.D) = lbackL fs D k ∧ x.1.fs.length ≤ x.1.cap ∧ x.1.n = x.1.fs.length) ∧ v = iv x.2 ∧ h = lgM x.1.n x.1.fs x.1.cap x.1.S x.1.D ∧ m = 200) := by
  refine call_spec tabOk mixed Tryz.call34 Tryz.func34 rfl [] (fun x : LX × Int => (x.2, x.1.fs, x.1.D) = lbackL fs D k ∧ x.1.fs.length ≤ x.1.cap ∧ x.1.n = x.1.fs.length) (fun x => iv x.2) (fun x => lgM x.1.n x.1.fs x.1.cap x.1.S x.1.D) (fun _ => 200) ?_ ?_
  · exact (Nat.le_of_ble_eq_true rfl)
  (repeat' ((try (conv => whnf)); first | (guard_target =~ ∃ (_ : Value), ∃ (_ : HP), ∃ (_ : HP), _; refine ⟨_, _, _, rnLogMore2, ?_⟩; (try (dsimp only [Nat.reduceAdd, List.cons_append, List.nil_append]))) | (guard_target =~ CallOb _ 62 _ _ _ _; refine call_q (cut_c S D (up_ok hD (by omega)) logN (1 + k) (by omega)) [(0, some 1)] cvLogMore1 (by rfl) (by rfl) (by rfl) (fun v h1 n1 hp => ?_); obtain ⟨ec, D1, S1, hd1, rfl, rfl, rfl⟩ := hp; (try (dsimp only [Nat.reduceAdd, List.cons_append, List.nil_append]))) | (guard_target =~ CallOb _ 58 _ _ _ _; obtain ⟨kn, rfl⟩ := Int.eq_ofNat_of_zero_le (show 0 ≤ k by omega); refine call_q (lkeep_c (lastM fs) fs cap S1 D1 hc hl kn (by omega)) [(0, some 0), (1, some 1), (2, some 2), (3, some 3)] cvLogMore1 (by rfl) (by rfl) (by rfl) (fun v h1 n1 hp => ?_); obtain ⟨ck, hck, rfl, rfl, rfl⟩ := hp; subst hck; (try (dsimp only [Nat.reduceAdd, List.cons_append, List.nil_append]))) | (with_reducible refine chk_in (Nat.ble_eq_true_of_le (by omega)) ?_) | (with_reducible refine ifB_in ?_ ?_ <;> intro hb <;> (try simp only [decide_eq_true_eq, decide_eq_false_iff_not, Int.not_lt, Int.not_le, ne_eq, Decidable.not_not, Bool.not_eq_true', Bool.not_eq_false', gt_iff_lt, ge_iff_le] at hb) <;> (try (exfalso; omega))) | (with_reducible refine ⟨_, w64b _, ?_⟩) | (with_reducible refine ⟨_, w64 (by omega) (by omega), ?_⟩) | (with_reducible refine ⟨_, wu64 (by omega) (by omega), ?_⟩) | (with_reducible refine ⟨_, wu8 (by omega) (by omega), ?_⟩) | (with_reducible refine ⟨_, w64 (by (simp only [size_sfrom, ByteArray.size_extract, ByteArray.size_append, strOf_size, fixedL_length, lit_size, List.size_toArray, List.length_cons, List.length_nil, List.length_append, List.length_replicate]; omega)) (by (simp only [size_sfrom, ByteArray.size_extract, ByteArray.size_append, strOf_size, fixedL_length, lit_size, List.size_toArray, List.length_cons, List.length_nil, List.length_append, List.length_replicate]; omega)), ?_⟩) | (with_reducible refine ⟨_, rfl, ?_⟩) | (with_reducible refine ⟨rfl, ?_⟩) | (intro cap) | (with_reducible refine ⟨trivial, ?_⟩) | (guard_target =~ (planChk _ _ = true) ∧ _; refine ⟨by kernel_rfl, ?_⟩) | (guard_target =~ (_ ∧ _) ∧ _; refine ⟨by ((repeat (first | exact trivial | refine ⟨rfl, ?_⟩)); (first | done | fail)), ?_⟩) | (refine ⟨by omega, ?_⟩) | (refine ⟨by (simp only [size_sfrom, ByteArray.size_extract, ByteArray.size_append, strOf_size, fixedL_length, lit_size, List.size_toArray, List.length_cons, List.length_nil, List.length_append, List.length_replicate]; omega), ?_⟩) | (refine ⟨0, rfl, ?_⟩) | (refine ⟨1, rfl, ?_⟩) | (refine ⟨2, rfl, ?_⟩) | (refine ⟨3, rfl, ?_⟩) | (refine ⟨4, rfl, ?_⟩) | (refine ⟨5, rfl, ?_⟩) | (refine cell_at1 (by assumption) ?_) | (refine cell_in1 (by omega) (fun x hx => ?_)) | fail)) <;> (try (conv => whnf))
  all_goals first
    | (guard_hyp hb : ¬ ec = 0; (refine Ends.go (((⟨fs.length, fs, cap, S1, D1⟩ : LX), ec)) ?_ [(0, some 0), (1, some 1), (30, some 2), (31, some 3)] (Fit.q cvLogMore1 (by rfl) (by rfl))); exact ⟨((lback_cut (fs := fs) (by omega) (by omega) hd1).2 hb).symm, hc, rfl⟩)
    | (have hec : ec = 0 := ‹ec = 0›; (refine Ends.go (((⟨kn, fs.take kn, ck, S1, D1⟩ : LX), ec)) ?_ [(0, some 0), (1, some 1), (30, some _), (31, some _)] (Fit.q cvLogMore1 (by rfl) (by rfl))); exact ⟨by dsimp only; rw [(lback_cut (fs := fs) (by omega) (by omega) hd1).1 hec, hec, Int.toNat_natCast], by dsimp only; rw [List.length_take]; omega, by dsimp only; rw [List.length_take]; omega⟩)
    | (guard_hyp hb : k = (fs.length : Nat); (refine Ends.go (((⟨fs.length, fs, cap, S, D⟩ : LX), 0)) ?_ [(0, some 0), (1, some 1), (30, some 2), (31, some 3)] (Fit.q cvLogMore1 (by rfl) (by rfl))); exact ⟨(lback_eq (fs := fs) hb).symm, hc, rfl⟩)
    | ((refine Ends.go (((⟨fs.length, fs, cap, S, D⟩ : LX), 1)) ?_ [(0, some 0), (1, some 1), (30, some 2), (31, some 3)] (Fit.q cvLogMore1 (by rfl) (by rfl))); exact ⟨(lback_arg (fs := fs) (by omega)).symm, hc, rfl⟩)
    | trace_state
end Go.Proofs.YtcojbjakopkfbaaGreat
