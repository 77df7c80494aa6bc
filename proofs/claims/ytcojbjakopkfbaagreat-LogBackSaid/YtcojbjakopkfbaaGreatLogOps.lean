/- The log's methods: Open, Add, Sync, Get, Back, End. -/
import Derived.Test.YtcojbjakopkfbaaGreatLogWalk
namespace Go.Proofs.YtcojbjakopkfbaaGreat
open Go.RowKit
set_option linter.unusedSimpArgs false
set_option linter.unusedVariables false
/-- What read says where the file is no log. -/
theorem readL_no : ∀ (m i : Nat) {fs : List Fr} {D : DM}, (0 < i + m → 0 < sizeD D logN) → (readL m i fs D).1.1 = false → (readL m i fs D).1.2.1 = 0 → i = 0 ∧ (readL m i fs D).1.2.2 = fs
  | 0, i, fs, D, h, h1, h2 => by
    rw [readL_0] at h1 ⊢
    dsimp only at h1 ⊢
    refine ⟨?_, rfl⟩
    rcases Nat.eq_zero_or_pos i with h0 | h0
    · exact h0
    · have := h (by omega)
      rw [decide_eq_true this] at h1
      cases h1
  | m + 1, i, fs, D, h, h1, h2 => by
    obtain ⟨⟨⟨s, e⟩, D'⟩, hr⟩ : ∃ r, r = readD D logN (i : Nat) := ⟨_, rfl⟩
    have hs := read_size D logN ((i : Nat) : Int) logN
    rw [← hr] at hs
    dsimp only at hs
    have hz := h (by omega)
    by_cases e13 : e = 13
    · rw [readL_torn hr e13] at h1 ⊢
      dsimp only at h1 ⊢
      exact ⟨by have := of_decide_eq_false h1; omega, rfl⟩
    · by_cases e0 : e = 0
      · by_cases h0 : i = 0
        · by_cases hst : s = topS
          · rw [readL_top hr e0 h0 hst] at h1 h2
            have := (readL_no m (i + 1) (fs := fs) (D := D') (fun _ => by rw [hs]; exact hz) h1 h2).1
            omega
          · rw [readL_bad hr e0 h0 hst]; exact ⟨h0, rfl⟩
        · cases hrt : rightR (sumL fs) s with
          | none => rw [readL_stop hr e0 h0 hrt, decide_eq_true (by rw [hs]; exact hz)] at h1; cases h1
          | some f =>
            rw [readL_go hr e0 h0 hrt] at h1 h2
            have := (readL_no m (i + 1) (fs := fs ++ [f]) (D := D') (fun _ => by rw [hs]; exact hz) h1 h2).1
            omega
      · rw [readL_err hr e13 e0] at h2
        exact absurd h2 e0
theorem readL_few : ∀ (m i : Nat) {fs : List Fr} {D : DM}, (readL m i fs D).1.2.2.length ≤ fs.length + m
  | 0, i, fs, D => by rw [readL_0]; exact Nat.le_refl _
  | m + 1, i, fs, D => by
    obtain ⟨⟨⟨s, e⟩, D'⟩, hr⟩ : ∃ r, r = readD D logN (i : Nat) := ⟨_, rfl⟩
    by_cases e13 : e = 13
    · rw [readL_torn hr e13]; exact Nat.le_add_right _ _
    · by_cases e0 : e = 0
      · by_cases h0 : i = 0
        · by_cases hst : s = topS
          · rw [readL_top hr e0 h0 hst]
            exact Nat.le_trans (readL_few m (i + 1)) (by omega)
          · rw [readL_bad hr e0 h0 hst]; exact Nat.le_add_right _ _
        · cases hrt : rightR (sumL fs) s with
          | none => rw [readL_stop hr e0 h0 hrt]; exact Nat.le_add_right _ _
          | some f =>
            rw [readL_go hr e0 h0 hrt]
            refine Nat.le_trans (readL_few m (i + 1)) ?_
            rw [List.length_append, List.length_singleton]; omega
      · rw [readL_err hr e13 e0]; exact Nat.le_add_right _ _
/-- What trimming leaves: the loop's condition, from behind. -/
theorem trimR_go {l : List Fr} {j : Nat} {f : Fr} (hj : j ≤ l.length) (h : trimR l = trimR (l.take j)) (h0 : 0 < j) (hf : l[j - 1]? = some f) (hc : f.2.2 = false) : trimR l = trimR (l.take (j - 1)) := by
  rw [h]
  have e : l.take j = l.take (j - 1) ++ [f] := by
    obtain ⟨k, rfl⟩ : ∃ k, j = k + 1 := ⟨j - 1, by omega⟩
    rw [Nat.add_sub_cancel] at hf ⊢
    rw [List.take_add_one, hf]; rfl
  rw [e]
  have snoc : ∀ (r : List Fr), trimR (r ++ [f]) = trimR r := fun r => by
    induction r with
    | nil =>
      show (match trimR [], f.2.2 with | [], false => [] | t, _ => f :: t) = _
      rw [hc]; rfl
    | cons g r ih =>
      show (match trimR (r ++ [f]), g.2.2 with | [], false => [] | t, _ => g :: t) = _
      rw [ih]; rfl
  exact snoc _
theorem trimR_end {l : List Fr} {j : Nat} (h : trimR l = trimR (l.take j)) (hc : j = 0 ∨ (0 < j ∧ ∃ f, l[j - 1]? = some f ∧ f.2.2 = true)) : trimR l = l.take j := by
  rw [h]
  rcases hc with rfl | ⟨h0, f, hf, hc⟩
  · rw [List.take_zero]; rfl
  · have e : l.take j = l.take (j - 1) ++ [f] := by
      obtain ⟨k, rfl⟩ : ∃ k, j = k + 1 := ⟨j - 1, by omega⟩
      rw [Nat.add_sub_cancel] at hf ⊢
      rw [List.take_add_one, hf]; rfl
    rw [e]
    have snoc : ∀ (r : List Fr), trimR (r ++ [f]) = r ++ [f] := fun r => by
      induction r with
      | nil =>
        show (match trimR [], f.2.2 with | [], false => [] | t, _ => f :: t) = _
        rw [hc]; rfl
      | cons g r ih =>
        show (match trimR (r ++ [f]), g.2.2 with | [], false => [] | t, _ => g :: t) = _
        rw [ih]
        cases r <;> rfl
    exact snoc _
section
variable {D D1 D2 : DM} {z : Nat} {rt : Bool} {e : Int} {fs : List Fr}
theorem open_neg (h : sizeD D logN < 0) : openL D = ((0, []), D) := by unfold openL; rw [if_pos h]
variable (hz : sizeD D logN = (z : Nat)) (hr : ((rt, e, fs), D1) = readL z 0 [] D)
include hz hr
theorem open_is : openL D = openR ((rt, e, fs), D1) := by
  unfold openL
  rw [if_neg (by omega), hz, Int.toNat_natCast, ← hr]
theorem open_err (h : ¬ e = 0) : openL D = ((e, []), D1) := by
  rw [open_is hz hr]; unfold openR; rw [if_pos h]
theorem open_drop (h : e = 0) (h1 : rt = false) {ed : Int} (hd : (ed, D2) = dropD D1 logN) : openL D = ((ed, []), D2) := by
  rw [open_is hz hr]; unfold openR; dsimp only; rw [if_neg (fun hh => hh h), if_pos h1, ← hd]
theorem open_fs (h : e = 0) (h1 : rt = false) : fs = [] := by
  have := readL_no z 0 (fs := []) (D := D) (fun h => by omega)
  rw [← hr] at this
  exact (this h1 h).2
variable (h : e = 0) (h1 : rt = true) {j : Nat} (hj : j ≤ fs.length) (ht : trimR fs = fs.take j)
include h h1 hj ht
omit hz hr h h1 in
theorem trimL_len : ((trimR fs).length : Int) = (j : Nat) := by rw [ht, List.length_take]; omega
theorem open_cut (hs : (1 + ((j : Nat) : Int)) < sizeD D1 logN) {ec : Int} (hd : (ec, D2) = cutD D1 logN (1 + ((j : Nat) : Int))) : (¬ ec = 0 → openL D = ((ec, []), D2)) ∧ (ec = 0 → openL D = ((0, fs.take j), D2)) := by
  have hl := trimL_len hj ht
  rw [open_is hz hr]
  unfold openR
  dsimp only
  rw [if_neg (fun hh => hh h), if_neg (by rw [h1]; decide), hl, if_pos hs, ← hd]
  dsimp only
  exact ⟨fun he => by rw [if_pos he], fun he => by rw [if_neg (fun hh => hh he), ht]⟩
theorem open_keep (hs : ¬ (1 + ((j : Nat) : Int)) < sizeD D1 logN) : openL D = ((0, fs.take j), D1) := by
  have hl := trimL_len hj ht
  rw [open_is hz hr]
  unfold openR
  dsimp only
  rw [if_neg (fun hh => hh h), if_neg (by rw [h1]; decide), hl, if_neg hs, ht]
end
attribute [local irreducible] numOf fixedL bytesOf strOf strEq strLt sfrom closeS closeE writeD sizeD syncD cutD dropD readD topS sumS sumL rightR lastM readL openL trimR
/-- A log that is opened over the disk at 0. -/
abbrev lgO (n : Nat) (fs : List Fr) (cap : Nat) (S : Nat → Prop) (D : DM) : HP := [(0, diskI S D), (10, .own 99 [ptr 0, mslice 11 n cap, .map (some 12)]), (11, .lst 105 3 cap (fs.flatMap frv)), (12, mpI fs)]
structure LX where
  n : Nat
  fs : List Fr
  cap : Nat
  S : Nat → Prop
  D : DM
theorem cvLogOps1 {p : Prop} (h : p := by have nw := True.intro; (repeat' (first | exact True.intro | (with_reducible exact rfl) | (with_reducible exact AbsLe.refl) | (guard_target =~ @Eq Nat _ _; first | exact rfl | omega) | (guard_target =~ List.map _ _ = []; exact rfl) | (first | (guard_target =~ @Eq (List Value) _ _; exact rfl) | (guard_target =~ @Eq (List Value) _ _; first | exact (congrArg (List.map kI) lastM_nil) | exact (congrArg (List.map kI) lastM_nil).symm) | exact covL_of (congrArg (List.map vI) lastM_nil).symm (flat_map (fun _ => rfl) _) | exact covL_of (congrArg (List.map vI) lastM_nil) (flat_map (fun _ => rfl) _) | exact covP_take (j * 3) (covL_of (take_frs fs j) (flat_bind (f := frv) (fun _ => rfl) _)) | exact covL_of rfl (flat_bind (f := frv) (fun _ => rfl) _) | exact covL_of rfl (flat_map (fun _ => rfl) _) | (guard_target =~ @Eq Nat _ _; rw [List.length_take]; omega) | first | exact covL_still rfl hvs | exact covL_still rfl (still_map (fun _ => rfl) _) | exact covL_still rfl (still_map ro_still _) | (apply covL_set <;> (try clear nw) <;> have nw := True.intro) | exact congrArg (Value.int _) (by (try dsimp only); omega)) | (exact congrArg (Value.int _) (by omega)) | (exact covL_flat (flat_map (fun _ => rfl) _)) | (exact covL_flat flat_nil) | (refine covP_all ?_; (try clear nw); have nw := True.intro) | (refine covL_each ?_; (try clear nw); have nw := True.intro) | (refine ⟨?_, ?_⟩ <;> (try clear nw) <;> have nw := True.intro) | (guard_hyp nw : True; ((conv => whnf) <;> clear nw)))); (first | done | fail)) : p := h
theorem rnLogOps2 {p : Prop} (h : p := by refine ⟨?_, ?_, ?_⟩; (first | apply rR_tuple | apply rR_one rfl | exact rfl); all_goals (repeat' (first | (with_reducible (first | exact relH_nil | apply rn_lst | apply rn_own | apply rn_mp | apply rn_row | apply rn_abs | exact wo_nil)) | apply wo_keep rfl | apply wo_drop rfl | exact relH_nil | exact r1_flat rfl | exact r0_flat rfl | exact rl_nil | exact wo_nil | exact bk_old rfl | exact bk_new rfl | exact bk_nil rfl | apply rl_cons | (first | exact relL_flat (flat_bind (f := frv) (fun _ => rfl) _) | exact relL_flat (flat_map (fun _ => rfl) _) | first | exact relL_still hvs | exact relL_still (still_map (fun _ => rfl) _) | exact relL_still (still_map ro_still _) | exact relL_flat (flat_map (fun _ => rfl) _) | apply relL_set) | exact relL_flat (flat_map (fun _ => rfl) _) | exact relL_flat flat_nil | apply relL_to | apply rn_lst | apply rn_own | apply rn_mp | apply rn_row | apply relH_view rfl | apply relH_lview rfl | apply relH_fact rfl | exact r1_rig | exact r0_rig | exact r1_rigs | exact r0_rigs | apply wo_keep rfl | apply wo_drop rfl | apply r1_agg | apply rn_ptr | apply rn_slice | apply rn_slice0 | apply rn_iface | apply rn_map | apply rn_ifacem | apply r0_map | apply r0_ifacem | apply r0_ptr | apply r0_slice | apply r0_slice0 | apply r0_iface)); (first | done | fail)) : p := h
set_option maxRecDepth 100000 in
set_option maxHeartbeats 4000000 in
theorem lopen_c (S : Nat → Prop) (D : DM) {N : Int} (hD : D.OkN N) (hN : N ≤ 800000) (h0 : (openL D).1.1 = 0) :
    CallOb Tryz.prog 15 [ptr 0] [(0, diskI S D)] 1 (fun v h m => ∃ x : LX × Int, (((0, x.1.fs), x.1.D) = openL D ∧ x.1.fs.length ≤ x.1.cap ∧ x.1.n = x.1.fs.length ∧ x.2 = 0) ∧ v = .tuple #[ptr 10, iv x.2] ∧ h = lgO x.1.n x.1.fs x.1.cap x.1.S x.1.D ∧ m = 800) := by
  refine call_spec tabOk mixed Tryz.call15 Tryz.func15 rfl [(12, [(0, true), (1, true), (2, true), (3, true), (4, true), (5, true), (6, true), (7, true), (8, true), (9, true), (10, true), (11, true), (12, true), (13, true), (14, true), (15, true), (16, true), (17, true), (18, true), (19, true), (20, true), (21, true)]), (13, [(0, true), (1, true), (2, true), (3, true), (4, true), (5, true), (6, true), (7, true), (8, true), (9, true), (10, true), (11, true), (12, true), (13, true), (1014, false)])] (fun x : LX × Int => ((0, x.1.fs), x.1.D) = openL D ∧ x.1.fs.length ≤ x.1.cap ∧ x.1.n = x.1.fs.length ∧ x.2 = 0) (fun x => .tuple #[ptr 10, iv x.2]) (fun x => lgO x.1.n x.1.fs x.1.cap x.1.S x.1.D) (fun _ => 800) ?_ ?_
  · exact (Nat.le_of_ble_eq_true rfl)
  have mk0 : 1 = 1 := rfl
  (repeat' ((try (conv => whnf)); first | (guard_target =~ ∃ (_ : Value), ∃ (_ : HP), ∃ (_ : HP), _; refine ⟨_, _, _, rnLogOps2, ?_⟩; (try (dsimp only [Nat.reduceAdd, List.cons_append, List.nil_append]))) | (guard_target =~ RegOb _ _ _ 15 _ _ _ _ _; refine reg_hold tabOk mixed [0] [(0, true), (2, true), (3, true), (4, true), (5, true), (6, true), (7, true), (1, false), (8, true)] (by kernel_rfl) ?_) | (guard_target =~ extH _ _ _ ∧ _; refine ⟨by (repeat' ((try (conv => whnf)); first | exact True.intro | exact trivial | (refine ⟨rfl, ?_⟩))); (first | done | fail), ?_⟩) | (guard_target =~ CallOb _ 58 _ _ _ _; guard_hyp mk0 : 1 = 1; clear mk0; refine call_q (lkeep0_c S D) [(0, some 1), (1, some 0), (2, none)] cvLogOps1 (by rfl) (by rfl) (by rfl) (fun v h1 n1 hp => ?_); obtain ⟨c0, hc0, rfl, rfl, rfl⟩ := hp; subst hc0; have mk1 : 1 = 1 := rfl; (try (dsimp only [Nat.reduceAdd, List.cons_append, List.nil_append]))) | (guard_target =~ LoopOb _ _ _ _ _ _ _ _; refine loop_rule tabOk mixed [(12, [(0, true), (1, true), (2, true), (3, true), (4, true), (5, true), (6, true), (7, true), (8, true), (9, true), (10, true), (11, true), (12, true), (13, true), (14, true), (15, true), (16, true), (17, true), (18, true), (19, true), (20, true), (21, true)]), (13, [(0, true), (1, true), (2, true), (3, true), (4, true), (5, true), (6, true), (7, true), (8, true), (9, true), (10, true), (11, true), (12, true), (13, true), (1014, false)])] 4 (fun j : Nat => [(0, ptr 0), (4, ptr 1)]) (fun j => [(0, diskI S1 D1), (1, .own 99 [ptr 0, mslice 2 j cp, .map (some 3)]), (2, .lst 105 3 cp (fs.flatMap frv)), (3, .mp [] [])]) (fun j => j) (fun j => j ≤ fs.length ∧ trimR fs = trimR (fs.take j)) fs.length ⟨Nat.le_refl _, by rw [List.take_length]⟩ ⟨[(0, some 0), (1, some 1), (2, some 112), (3, some 33)], Sub.q cvLogOps1 (by rfl) (by rfl)⟩ (fun j hj => ?_)) | (guard_target =~ ∃ (_ : Nat), _ ∧ _; first | refine ⟨j - 1, by omega, by omega, ?_⟩) | (obtain ⟨f, hf⟩ : ∃ f, fs[j - 1]? = some f := ⟨_, List.getElem?_eq_getElem (by omega)⟩; refine onS_in (v := .bool f.2.2) (by show (fs.flatMap frv)[0 + (j - 1) * 3 + 2]? = _; rw [Nat.zero_add]; exact cell_fr hf (by decide) rfl) ?_) | (guard_target =~ CallOb _ 58 _ _ _ _; have htl : (fs.take j).length = j := (by rw [List.length_take]; omega); refine call_q (lkeep_c [] (fs.take j) cp S1 D1 (by omega) (by omega) j (by omega)) [(0, some 1), (1, some 0), (2, some 2), (3, some 3)] cvLogOps1 (by rfl) (by rfl) (by rfl) (fun v h1 n1 hp => ?_); obtain ⟨ck, hck, rfl, rfl, rfl⟩ := hp; subst hck; rw [show (fs.take j).take j = fs.take j by rw [List.take_take, Nat.min_self]]; (try (dsimp only [Nat.reduceAdd, List.cons_append, List.nil_append]))) | (guard_target =~ CallOb _ 17 _ _ _ _; guard_hyp mk1 : 1 = 1; clear mk1; refine call_q (size_k S D (up_ok hD (by omega)) logN) [(0, some 0)] cvLogOps1 (by rfl) (by rfl) (by rfl) (fun v h1 n1 hp => ?_); obtain ⟨sz, S, hsz, rfl, rfl, rfl⟩ := hp; (try (dsimp only [Nat.reduceAdd, List.cons_append, List.nil_append]))) | (guard_target =~ CallOb _ 59 _ _ _ _; obtain ⟨zz, hzz⟩ := Int.eq_ofNat_of_zero_le (show 0 ≤ sz by omega); have hz2 : sizeD D logN = (zz : Nat) := (by rw [← hsz, hzz]); refine call_q (lread_c S D hD (by omega) zz hz2) [(0, some 1), (1, some 0), (2, some 32), (3, some 33)] cvLogOps1 (by rfl) (by rfl) (by rfl) (fun v h1 n1 hp => ?_); obtain ⟨⟨⟨rt, er, fs⟩, D1, S1, cp⟩, ⟨hr, hcp⟩, rfl, rfl, rfl⟩ := hp; dsimp only at hr hcp; have hok1 := readL_okN zz 0 [] hD; have hfw := readL_few zz 0 (fs := []) (D := D); rw [← hr] at hok1 hfw; dsimp only [List.length_nil] at hok1 hfw; have hzb := sizeD_bound (up_ok hD (by omega)) logN; (try (dsimp only [Nat.reduceAdd, List.cons_append, List.nil_append]))) | (guard_target =~ CallOb _ 61 _ _ _ _; refine call_q (drop_c S1 D1 (up_ok hok1 (by omega)) logN) [(0, some 0)] cvLogOps1 (by rfl) (by rfl) (by rfl) (fun v h1 n1 hp => ?_); obtain ⟨ed, D2, S2, hd, rfl, rfl, rfl⟩ := hp; (try (dsimp only [Nat.reduceAdd, List.cons_append, List.nil_append]))) | (guard_target =~ CallOb _ 17 _ _ _ _; refine call_q (size_k S1 D1 (up_ok hok1 (by omega)) logN) [(0, some 0)] cvLogOps1 (by rfl) (by rfl) (by rfl) (fun v h1 n1 hp => ?_); obtain ⟨sy, S1, hsy, rfl, rfl, rfl⟩ := hp; have hzb1 := sizeD_bound (up_ok hok1 (by omega)) logN; rw [← hsy] at hzb1; (try (dsimp only [Nat.reduceAdd, List.cons_append, List.nil_append]))) | (guard_target =~ CallOb _ 62 _ _ _ _; refine call_q (cut_c S1 D1 (up_ok hok1 (by omega)) logN (1 + ((j : Nat) : Int)) (by omega)) [(0, some 0)] cvLogOps1 (by rfl) (by rfl) (by rfl) (fun v h1 n1 hp => ?_); obtain ⟨ec, D3, S3, hd3, rfl, rfl, rfl⟩ := hp; (try (dsimp only [Nat.reduceAdd, List.cons_append, List.nil_append]))) | (guard_target =~ CallOb _ 60 _ _ _ _; (with_reducible refine call_inline tabOk mixed Tryz.call60 Tryz.func60 ?_ [] ?_ ?_); exact rfl; exact Nat.le_of_ble_eq_true rfl) | (with_reducible refine chk_in (Nat.ble_eq_true_of_le (by omega)) ?_) | (with_reducible refine ifB_in ?_ ?_ <;> intro hb <;> (try simp only [decide_eq_true_eq, decide_eq_false_iff_not, Int.not_lt, Int.not_le, ne_eq, Decidable.not_not, Bool.not_eq_true', Bool.not_eq_false', gt_iff_lt, ge_iff_le] at hb) <;> (try (exfalso; omega))) | (with_reducible refine ⟨_, w64b _, ?_⟩) | (with_reducible refine ⟨_, w64 (by omega) (by omega), ?_⟩) | (with_reducible refine ⟨_, wu64 (by omega) (by omega), ?_⟩) | (with_reducible refine ⟨_, wu8 (by omega) (by omega), ?_⟩) | (with_reducible refine ⟨_, w64 (by (simp only [size_sfrom, ByteArray.size_extract, ByteArray.size_append, strOf_size, fixedL_length, lit_size, List.size_toArray, List.length_cons, List.length_nil, List.length_append, List.length_replicate]; omega)) (by (simp only [size_sfrom, ByteArray.size_extract, ByteArray.size_append, strOf_size, fixedL_length, lit_size, List.size_toArray, List.length_cons, List.length_nil, List.length_append, List.length_replicate]; omega)), ?_⟩) | (with_reducible refine ⟨_, rfl, ?_⟩) | (with_reducible refine ⟨rfl, ?_⟩) | (intro cap) | (with_reducible refine ⟨trivial, ?_⟩) | (guard_target =~ (planChk _ _ = true) ∧ _; refine ⟨by kernel_rfl, ?_⟩) | (guard_target =~ (_ ∧ _) ∧ _; refine ⟨by ((repeat (first | exact trivial | refine ⟨rfl, ?_⟩)); (first | done | fail)), ?_⟩) | (refine ⟨by omega, ?_⟩) | (refine ⟨by (simp only [size_sfrom, ByteArray.size_extract, ByteArray.size_append, strOf_size, fixedL_length, lit_size, List.size_toArray, List.length_cons, List.length_nil, List.length_append, List.length_replicate]; omega), ?_⟩) | (refine ⟨0, rfl, ?_⟩) | (refine ⟨1, rfl, ?_⟩) | (refine ⟨2, rfl, ?_⟩) | (refine ⟨3, rfl, ?_⟩) | (refine ⟨4, rfl, ?_⟩) | (refine ⟨5, rfl, ?_⟩) | (refine cell_at1 (by assumption) ?_) | (refine cell_in1 (by omega) (fun x hx => ?_)) | fail)) <;> (try (conv => whnf))
  all_goals first
    | (guard_hyp hb : sz < 0; (refine Ends.go (((⟨0, [], 0, S, D⟩ : LX), 0)) ?_ [(0, some 0), (10, some 1), (11, some 32), (12, some 33)] (Fit.q cvLogOps1 (by rfl) (by rfl))); exact ⟨(open_neg (hsz ▸ hb)).symm, Nat.le_refl _, rfl, rfl⟩)
    | (guard_hyp hb : ¬ er = 0; exfalso; have := open_err hz2 hr hb; rw [this] at h0; exact hb h0)
    | (guard_hyp hb : ¬ ed = 0; exfalso; have := open_drop hz2 hr ‹er = 0› ‹rt = false› hd; rw [this] at h0; exact hb h0)
    | (guard_hyp hb : ed = 0; have hfs := open_fs hz2 hr ‹er = 0› ‹rt = false›; subst hfs; (refine Ends.go (((⟨0, [], cp, S2, D2⟩ : LX), 0)) ?_ [(0, some 0), (10, some 1), (11, some 112), (12, some 33)] (Fit.q cvLogOps1 (by rfl) (by rfl))); exact ⟨by dsimp only; rw [open_drop hz2 hr ‹er = 0› ‹rt = false› hd, hb], Nat.zero_le _, rfl, rfl⟩)
    | (guard_hyp hb : f.2.2 = false; (refine Again.go ((j - 1 : Nat)) ?_ (by (try dsimp only); omega) [(0, some 0), (1, some 1), (2, some 2), (3, some 3)] (Sub.q cvLogOps1 (by rfl) (by rfl))); exact ⟨by omega, trimR_go hj.1 hj.2 (by omega) hf hb⟩)
    | (have ht : trimR fs = fs.take j := trimR_end hj.2 (by first | exact .inr ⟨by omega, f, hf, ‹f.2.2 = true›⟩ | exact .inl (by omega)); first
        | (guard_hyp hb : ¬ ec = 0; exfalso; have := (open_cut hz2 hr ‹er = 0› ‹rt = true› hj.1 ht (by omega) hd3).1 hb; rw [this] at h0; exact hb h0)
        | (guard_hyp hb : ec = 0; (refine Ends.go (((⟨j, fs.take j, ck, S3, D3⟩ : LX), 0)) ?_ [(0, some 0), (10, some 1), (11, some 34), (12, some 35)] (Fit.q cvLogOps1 (by rfl) (by rfl))); exact ⟨((open_cut hz2 hr ‹er = 0› ‹rt = true› hj.1 ht (by omega) hd3).2 hb).symm, by dsimp only; omega, htl.symm, rfl⟩)
        | ((refine Ends.go (((⟨j, fs.take j, ck, S1, D1⟩ : LX), 0)) ?_ [(0, some 0), (10, some 1), (11, some 34), (12, some 35)] (Fit.q cvLogOps1 (by rfl) (by rfl))); exact ⟨(open_keep hz2 hr ‹er = 0› ‹rt = true› hj.1 ht (by omega)).symm, by dsimp only; omega, htl.symm, rfl⟩))
    | trace_state
/-! Add. -/
section
variable {fs : List Fr} {D D1 D2 : DM} {n : Int} {data : ByteArray} {commit : Bool} {e1 e2 : Int}
theorem addL_arg (h : n < 0 ∨ 4096 ≤ n ∨ data.size ≠ 232) : addL fs D n data commit = (1, fs, D) := by unfold addL; rw [if_pos h]
variable (h : ¬ (n < 0 ∨ 4096 ≤ n ∨ data.size ≠ 232)) (ht : (e1, D1) = if sizeD D logN < 0 then writeD D logN 0 topS else (0, D))
include h ht
theorem addL_top (h1 : ¬ e1 = 0) : addL fs D n data commit = (e1, fs, D1) := by
  unfold addL; rw [if_neg h]; dsimp only; rw [← ht, if_pos h1]
variable (h1 : e1 = 0)
include h1
theorem addL_close (h2 : ¬ closeE (kindL commit) n data = 0) : addL fs D n data commit = (closeE (kindL commit) n data, fs, D1) := by
  unfold addL; rw [if_neg h]; dsimp only; rw [← ht, if_neg (fun hh => hh h1), if_pos h2]
variable (h2 : closeE (kindL commit) n data = 0) (hw : (e2, D2) = writeD D1 logN (1 + fs.length) (closeS (kindL commit) n (sumL fs).toNat data))
include h2 hw
theorem addL_err (h3 : ¬ e2 = 0) : addL fs D n data commit = (e2, fs, D2) := by
  unfold addL; rw [if_neg h]; dsimp only; rw [← ht, if_neg (fun hh => hh h1), if_neg (fun hh => hh h2), ← hw, if_pos h3]
theorem addL_ok (h3 : e2 = 0) : addL fs D n data commit = (0, fs ++ [(n, sumS (closeS (kindL commit) n (sumL fs).toNat data), commit)], D2) := by
  unfold addL; rw [if_neg h]; dsimp only; rw [← ht, if_neg (fun hh => hh h1), if_neg (fun hh => hh h2), ← hw, if_neg (fun hh => hh h3)]
end
theorem sum_u (fs : List Fr) (h : ∀ f ∈ fs, U64 f.2.1) : U64 (sumL fs) := by
  unfold sumL
  cases hl : fs.getLast? with
  | none => exact sumS_u _
  | some f => exact h f (List.mem_of_getLast? hl)
theorem lastM_add (fs : List Fr) (f : Fr) : lastM (fs ++ [f]) = putI (lastM fs) f.1 ((fs.length : Nat) : Int) := lastM_snoc fs f
attribute [local irreducible] addL kindL
theorem cvLogOps3 {p : Prop} (h : p := by have nw := True.intro; (repeat' (first | exact True.intro | (with_reducible exact rfl) | (with_reducible exact AbsLe.refl) | (guard_target =~ @Eq Nat _ _; first | exact rfl | omega) | (guard_target =~ List.map _ _ = []; exact rfl) | (first | (guard_target =~ @Eq (List Value) _ _; exact rfl) | (guard_target =~ @Eq (List Value) _ _; exact (congrArg (List.map kI) (lastM_add fs (n, sx, commit))).symm) | (guard_target =~ @Eq (List Value) _ _; exact (congrArg (List.map kI) (lastM_add fs (n, sx, commit)))) | exact covL_of (congrArg (List.map vI) (lastM_add fs (n, sx, commit))).symm (flat_map (fun _ => rfl) _) | exact covL_of (congrArg (List.map vI) (lastM_add fs (n, sx, commit))) (flat_map (fun _ => rfl) _) | (guard_target =~ @Eq Nat _ _; dsimp only; exact (List.length_append).symm) | (guard_target =~ @Eq Nat _ _; dsimp only; rw [List.length_append]; rfl) | exact covL_of (app_flat rfl) (flat_bind (f := frv) (fun _ => rfl) _) | exact covL_of rfl (flat_bind (f := frv) (fun _ => rfl) _) | exact covL_of rfl (flat_map (fun _ => rfl) _) | first | exact covL_still rfl hvs | exact covL_still rfl (still_map (fun _ => rfl) _) | exact covL_still rfl (still_map ro_still _) | (apply covL_set <;> (try clear nw) <;> have nw := True.intro) | exact congrArg (Value.int _) (by (try dsimp only); omega)) | (exact congrArg (Value.int _) (by omega)) | (exact covL_flat (flat_map (fun _ => rfl) _)) | (exact covL_flat flat_nil) | (refine covP_all ?_; (try clear nw); have nw := True.intro) | (refine covL_each ?_; (try clear nw); have nw := True.intro) | (refine ⟨?_, ?_⟩ <;> (try clear nw) <;> have nw := True.intro) | (guard_hyp nw : True; ((conv => whnf) <;> clear nw)))); (first | done | fail)) : p := h
set_option maxRecDepth 100000 in
set_option maxHeartbeats 8000000 in
theorem ladd_c (fs : List Fr) (cap : Nat) (S : Nat → Prop) (D : DM) {N : Int} (hD : D.OkN N) (hN : N ≤ 900000) (hc : fs.length ≤ cap) (hl : fs.length ≤ 100000) (hu : ∀ f ∈ fs, U64 f.2.1) (n : Int) (data : ByteArray) (commit : Bool) :
    CallOb Tryz.prog 27 [ptr 0, iv n, .string data, .bool commit] (lgH fs cap S D) 4 (fun v h m => ∃ x : LX × Int, ((x.2, x.1.fs, x.1.D) = addL fs D n data commit ∧ x.1.fs.length ≤ x.1.cap ∧ x.1.n = x.1.fs.length) ∧ v = iv x.2 ∧ h = lgM x.1.n x.1.fs x.1.cap x.1.S x.1.D ∧ m = 200) := by
  refine call_spec tabOk mixed Tryz.call27 Tryz.func27 rfl [(18, [(0, true), (1, true), (2, true), (3, true), (4, true), (5, true), (6, true), (7, true), (8, true), (9, true), (1010, false)]), (19, [(0, true), (1, true), (2, true), (3, true), (4, true), (5, true), (6, true), (8, true), (7, false), (9, true), (10, false), (1011, false), (12, true), (13, true), (1014, false)])] (fun x : LX × Int => (x.2, x.1.fs, x.1.D) = addL fs D n data commit ∧ x.1.fs.length ≤ x.1.cap ∧ x.1.n = x.1.fs.length) (fun x => iv x.2) (fun x => lgM x.1.n x.1.fs x.1.cap x.1.S x.1.D) (fun _ => 200) ?_ ?_
  · exact (Nat.le_of_ble_eq_true rfl)
  have hkt : commit = true → (6 : Int) = kindL commit := fun h => by rw [h]; unfold kindL; rfl
  have hkf : commit = false → (5 : Int) = kindL commit := fun h => by rw [h]; unfold kindL; rfl
  (repeat' ((try (conv => whnf)); first | (guard_target =~ ∃ (_ : Value), ∃ (_ : HP), ∃ (_ : HP), _; refine ⟨_, _, _, rnLogOps2, ?_⟩; (try (dsimp only [Nat.reduceAdd, List.cons_append, List.nil_append]))) | (guard_target =~ RegOb _ _ _ 6 _ _ _ _ _; refine reg_hold tabOk mixed [1] [(0, true), (1, true), (2, true), (3, true), (4, false), (1005, false), (6, true)] (by kernel_rfl) ?_) | (guard_target =~ RegOb _ _ _ 15 _ _ _ _ _; refine reg_hold tabOk mixed [1] [(0, true), (1, true), (2, true), (3, true), (4, true), (5, true), (6, true), (7, true), (8, true), (9, true), (10, true), (1011, false), (12, true)] (by kernel_rfl) ?_) | (guard_target =~ extH _ _ _ ∧ _; refine ⟨by (repeat' ((try (conv => whnf)); first | exact True.intro | exact trivial | (refine ⟨rfl, ?_⟩))); (first | done | fail), ?_⟩) | (guard_target =~ CallOb _ 17 _ _ _ _; refine call_q (size_k S D (up_ok hD (by omega)) logN) [(0, some 1)] cvLogOps3 (by rfl) (by rfl) (by rfl) (fun v h1 n1 hp => ?_); obtain ⟨sz, S, hsz, rfl, rfl, rfl⟩ := hp; (try (dsimp only [Nat.reduceAdd, List.cons_append, List.nil_append]))) | (guard_target =~ CallOb _ 72 _ _ _ _; (with_reducible refine call_pure Tryz.call72 (ltop_c) ?_ ?_ ?_); exact rfl; exact rfl) | (guard_target =~ CallOb _ 71 _ _ _ _; guard_hyp hb : sz < 0; refine call_q (write_c S D (up_ok hD (by omega)) logN 0 topS (by decide)) [(0, some 1)] cvLogOps3 (by rfl) (by rfl) (by rfl) (fun v h1 n1 hp => ?_); obtain ⟨e1, D1, S1, hw1, rfl, rfl, rfl⟩ := hp; have hk1 := write_okN hD logN 0 topS; rw [← hw1] at hk1; dsimp only at hk1; have ht1 : (e1, D1) = if sizeD D logN < 0 then writeD D logN 0 topS else (0, D) := (by rw [if_pos (hsz ▸ hb)]; exact hw1); (try (dsimp only [Nat.reduceAdd, List.cons_append, List.nil_append]))) | (guard_target =~ CallOb _ 74 _ _ _ _; (first | (guard_hyp ht1 : (e1, D1) = _; refine call_q (lsum_c (lastM fs) fs cap S1 D1 hc hl) [(0, some 0), (1, some 1), (2, some 2), (3, some 3)] cvLogOps3 (by rfl) (by rfl) (by rfl) (fun v h1 n1 hp => ?_)) | (obtain ⟨e1, he1⟩ : ∃ e : Int, e = 0 := ⟨0, rfl⟩; have ht1 : (e1, D) = if sizeD D logN < 0 then writeD D logN 0 topS else (0, D) := (by rw [if_neg (by omega), he1]); refine call_q (lsum_c (lastM fs) fs cap S D hc hl) [(0, some 0), (1, some 1), (2, some 2), (3, some 3)] cvLogOps3 (by rfl) (by rfl) (by rfl) (fun v h1 n1 hp => ?_))); obtain ⟨sl, hsl, rfl, rfl, rfl⟩ := hp; have hslu : U64 sl := (by rw [hsl]; exact sum_u fs hu); have hcl := fun w => close_any (kindL commit) n sl data w hslu; obtain ⟨es, hes⟩ : ∃ es, es = closeE (kindL commit) n data := ⟨_, rfl⟩; obtain ⟨ss, hss⟩ : ∃ ss, ss = closeS (kindL commit) n sl.toNat data := ⟨_, rfl⟩; rw [← hes, ← hss] at hcl; (first | rw [← hkt ‹commit = true›] at hcl | rw [← hkf ‹commit = false›] at hcl); obtain ⟨sx, hsx⟩ : ∃ sx, sx = sumS ss := ⟨_, rfl⟩; have hsm := fun w => sealSum_any ss w; rw [show ((sumAt (bytesOf ss) : Nat) : Int) = sx by rw [hsx]; unfold sumS; rfl] at hsm; (try (dsimp only [Nat.reduceAdd, List.cons_append, List.nil_append]))) | (guard_target =~ CallOb _ 73 _ _ _ _; (with_reducible refine call_pure Tryz.call73 (hcl) ?_ ?_ ?_); exact rfl; exact rfl) | (guard_target =~ CallOb _ 75 _ _ _ _; (with_reducible refine call_pure Tryz.call75 (hsm) ?_ ?_ ?_); exact rfl; exact rfl) | (guard_target =~ CallOb _ 71 _ _ _ _; (first | (guard_hyp hw1 : (e1, D1) = _; refine call_q (write_c S1 D1 (up_ok hk1 (by omega)) logN (1 + ((fs.length : Nat) : Int)) ss (by omega)) [(0, some 1)] cvLogOps3 (by rfl) (by rfl) (by rfl) (fun v h1 n1 hp => ?_)) | (refine call_q (write_c S D (up_ok hD (by omega)) logN (1 + ((fs.length : Nat) : Int)) ss (by omega)) [(0, some 1)] cvLogOps3 (by rfl) (by rfl) (by rfl) (fun v h1 n1 hp => ?_))); obtain ⟨e2, D2, S2, hw2, rfl, rfl, rfl⟩ := hp; rw [hss, hsl] at hw2; (try (dsimp only [Nat.reduceAdd, List.cons_append, List.nil_append]))) | (guard_target =~ ∃ ks' vs', PutOb _ _ _ _ ks' vs' ∧ _; refine ⟨_, _, put_last, ?_⟩) | (refine ⟨frs_len _, ?_⟩) | (with_reducible refine chk_in (Nat.ble_eq_true_of_le (by omega)) ?_) | (with_reducible refine ifB_in ?_ ?_ <;> intro hb <;> (try simp only [decide_eq_true_eq, decide_eq_false_iff_not, Int.not_lt, Int.not_le, ne_eq, Decidable.not_not, Bool.not_eq_true', Bool.not_eq_false', gt_iff_lt, ge_iff_le] at hb) <;> (try (exfalso; omega))) | (with_reducible refine ⟨_, w64b _, ?_⟩) | (with_reducible refine ⟨_, w64 (by omega) (by omega), ?_⟩) | (with_reducible refine ⟨_, wu64 (by omega) (by omega), ?_⟩) | (with_reducible refine ⟨_, wu8 (by omega) (by omega), ?_⟩) | (with_reducible refine ⟨_, w64 (by (simp only [size_sfrom, ByteArray.size_extract, ByteArray.size_append, strOf_size, fixedL_length, lit_size, List.size_toArray, List.length_cons, List.length_nil, List.length_append, List.length_replicate]; omega)) (by (simp only [size_sfrom, ByteArray.size_extract, ByteArray.size_append, strOf_size, fixedL_length, lit_size, List.size_toArray, List.length_cons, List.length_nil, List.length_append, List.length_replicate]; omega)), ?_⟩) | (with_reducible refine ⟨_, rfl, ?_⟩) | (with_reducible refine ⟨rfl, ?_⟩) | (intro cap) | (with_reducible refine ⟨trivial, ?_⟩) | (guard_target =~ (planChk _ _ = true) ∧ _; refine ⟨by kernel_rfl, ?_⟩) | (guard_target =~ (_ ∧ _) ∧ _; refine ⟨by ((repeat (first | exact trivial | refine ⟨rfl, ?_⟩)); (first | done | fail)), ?_⟩) | (refine ⟨by omega, ?_⟩) | (refine ⟨by (simp only [size_sfrom, ByteArray.size_extract, ByteArray.size_append, strOf_size, fixedL_length, lit_size, List.size_toArray, List.length_cons, List.length_nil, List.length_append, List.length_replicate]; omega), ?_⟩) | (refine ⟨0, rfl, ?_⟩) | (refine ⟨1, rfl, ?_⟩) | (refine ⟨2, rfl, ?_⟩) | (refine ⟨3, rfl, ?_⟩) | (refine ⟨4, rfl, ?_⟩) | (refine ⟨5, rfl, ?_⟩) | (refine cell_at1 (by assumption) ?_) | (refine cell_in1 (by omega) (fun x hx => ?_)) | fail)) <;> (try (conv => whnf))
  all_goals first
    | ((refine Ends.go (((⟨fs.length, fs, cap, S, D⟩ : LX), 1)) ?_ [(0, some 0), (1, some 1), (30, some 2), (31, some 3)] (Fit.q cvLogOps3 (by rfl) (by rfl))); exact ⟨(addL_arg (by omega)).symm, hc, rfl⟩)
    | (guard_hyp hb : ¬ e1 = 0; (refine Ends.go (((⟨fs.length, fs, cap, S1, D1⟩ : LX), e1)) ?_ [(0, some 0), (1, some 1), (30, some 2), (31, some 3)] (Fit.q cvLogOps3 (by rfl) (by rfl))); exact ⟨(addL_top (by omega) ht1 hb).symm, hc, rfl⟩)
    | (guard_hyp hb : ¬ es = 0; first
        | ((refine Ends.go (((⟨fs.length, fs, cap, S1, D1⟩ : LX), es)) ?_ [(0, some 0), (1, some 1), (30, some 2), (31, some 3)] (Fit.q cvLogOps3 (by rfl) (by rfl))); exact ⟨by dsimp only; rw [addL_close (by omega) ht1 ‹e1 = 0› (by rw [← hes]; exact hb), hes], hc, rfl⟩)
        | ((refine Ends.go (((⟨fs.length, fs, cap, S, D⟩ : LX), es)) ?_ [(0, some 0), (1, some 1), (30, some 2), (31, some 3)] (Fit.q cvLogOps3 (by rfl) (by rfl))); exact ⟨by dsimp only; rw [addL_close (by omega) ht1 ‹e1 = 0› (by rw [← hes]; exact hb), hes], hc, rfl⟩))
    | (guard_hyp hb : ¬ e2 = 0; (refine Ends.go (((⟨fs.length, fs, cap, S2, D2⟩ : LX), e2)) ?_ [(0, some 0), (1, some 1), (30, some 2), (31, some 3)] (Fit.q cvLogOps3 (by rfl) (by rfl))); exact ⟨(addL_err (by omega) ht1 ‹e1 = 0› (by rw [← hes]; exact ‹es = 0›) hw2 hb).symm, hc, rfl⟩)
    | (guard_hyp hb : e2 = 0; rename_i cpn; (refine Ends.go (((⟨fs.length + 1, fs ++ [(n, sx, commit)], cpn, S2, D2⟩ : LX), 0)) ?_ [(0, some 0), (1, some 1), (30, some _), (31, some 3)] (Fit.q cvLogOps3 (by rfl) (by rfl))); exact ⟨by dsimp only; rw [addL_ok (by omega) ht1 ‹e1 = 0› (by rw [← hes]; exact ‹es = 0›) hw2 hb, hsx, hss, hsl], by dsimp only; rw [List.length_append]; exact cap, by dsimp only; rw [List.length_append, List.length_singleton]⟩)
    | trace_state
end Go.Proofs.YtcojbjakopkfbaaGreat
