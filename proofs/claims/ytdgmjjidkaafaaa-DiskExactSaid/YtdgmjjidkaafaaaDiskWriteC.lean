/- The disk: a sector is written. -/
import Derived.Test.YtdgmjjidkaafaaaDiskWriteL
import Derived.Test.YtdgmjjidkaafaaaDiskTotal
namespace Go.Proofs.Ytdgmjjidkaafaaa
open Go.RowKit
set_option linter.unusedSimpArgs false
set_option linter.unusedVariables false
attribute [local irreducible] bytesOf strOf strEq strLt sfrom begS
theorem cvDiskWriteC1 {p : Prop} (h : p := by have nw := True.intro; (repeat' (first | exact True.intro | (with_reducible exact rfl) | (with_reducible exact AbsLe.refl) | (guard_target =~ @Eq Nat _ _; first | exact rfl | omega) | (guard_target =~ List.map _ _ = []; exact rfl) | (first | exact covL_still rfl (still_snoc (still_map (fun _ => rfl) _) rfl) | exact covL_still rfl (still_snoc (still_map ro_still _) rfl) | exact covL_still rfl (still_cons rfl still_nil) | exact covL_still rfl (still_setb (still_map (fun _ => rfl) _) _ _) | exact covL_still rfl (still_setb (still_snoc (still_map (fun _ => rfl) _) rfl) _ _) | exact covL_still rfl (still_setb (still_cons rfl still_nil) _ _) | apply covL_setp (isP_map _) | apply covL_setp (isP_snoc _) | apply covL_setp isP_one | apply covL_snocp | first | exact covL_still rfl hvs | exact covL_still rfl (still_map (fun _ => rfl) _) | exact covL_still rfl (still_map ro_still _) | (apply covL_set <;> (try clear nw) <;> have nw := True.intro) | exact congrArg (Value.int _) (by (try dsimp only); omega)) | (exact congrArg (Value.int _) (by omega)) | (exact covL_flat (flat_map (fun _ => rfl) _)) | (exact covL_flat flat_nil) | (refine covP_all ?_; (try clear nw); have nw := True.intro) | (refine covL_each ?_; (try clear nw); have nw := True.intro) | (refine ⟨?_, ?_⟩ <;> (try clear nw) <;> have nw := True.intro) | (guard_hyp nw : True; ((conv => whnf) <;> clear nw)))); (first | done | fail)) : p := h
theorem rnDiskWriteC2 {p : Prop} (h : p := by refine ⟨?_, ?_, ?_⟩; (first | apply rR_tuple | apply rR_one rfl | exact rfl); all_goals (repeat' (first | (with_reducible (first | exact relH_nil | apply rn_lst | apply rn_own | apply rn_mp | apply rn_row | apply rn_abs | exact wo_nil)) | apply wo_keep rfl | apply wo_drop rfl | exact relH_nil | exact r1_flat rfl | exact r0_flat rfl | exact rl_nil | exact wo_nil | exact bk_old rfl | exact bk_new rfl | exact bk_nil rfl | apply rl_cons | (first | exact relL_still hvs | exact relL_still (still_map (fun _ => rfl) _) | exact relL_still (still_map ro_still _) | exact relL_flat (flat_map (fun _ => rfl) _) | apply relL_set) | exact relL_flat (flat_map (fun _ => rfl) _) | exact relL_flat flat_nil | apply relL_to | apply rn_lst | apply rn_own | apply rn_mp | apply rn_row | apply relH_view rfl | apply relH_lview rfl | apply relH_fact rfl | exact r1_rig | exact r0_rig | exact r1_rigs | exact r0_rigs | apply wo_keep rfl | apply wo_drop rfl | apply r1_agg | apply rn_ptr | apply rn_slice | apply rn_slice0 | apply rn_iface | apply rn_map | apply rn_ifacem | apply r0_map | apply r0_ifacem | apply r0_ptr | apply r0_slice | apply r0_slice0 | apply r0_iface)); (first | done | fail)) : p := h
set_option maxRecDepth 100000 in
set_option maxHeartbeats 0 in
theorem write_l (k : Dk) (s : ByteArray) (i : Int) (data : ByteArray) (E : EL) (C : CM) (hk : k.Fit) (hi : -9223372036854775808 ≤ i ∧ i ≤ 9223372036854775807) (hl : ∀ e ∈ E, e.2.2.Ok) (hs : total (filesOf E) ≤ 4611686018427387904) (hn : (E.map fun e => e.1).Nodup) (he8 : E.length ≤ 1000000) :
    CallOb Try.prog 10 [ptr 0, .string s, iv i, .string data] (rawH k E C) 3 (fun v hh m => ∃ z : WO, z.R k s i data E C ∧ v = iv z.e ∧ hh = z.h s data E C ∧ m = z.n) := by
  have hvs := spots_still E
  refine call_spec tabOk mixed Try.call10 Try.func10 rfl [(9, [(0, true), (1, true), (2, true), (3, true), (4, true), (5, true), (6, true), (7, true), (8, true), (10, true), (11, true), (12, true), (13, true), (9, false), (14, true), (15, true), (16, true)]), (14, [(0, true), (1, true), (2, true), (3, true), (4, true), (5, true), (6, true), (7, true), (8, true), (9, true), (10, true), (11, true), (12, false), (13, true), (1014, false), (15, true), (1016, false)])] (fun z : WO => z.R k s i data E C) (fun z => iv z.e) (fun z => z.h s data E C) (fun z => z.n) ?_ ?_
  · exact (Nat.le_of_ble_eq_true rfl)
  (repeat' ((try (conv => whnf)); first | (guard_target =~ ∃ (_ : Value), ∃ (_ : HP), ∃ (_ : HP), _; refine ⟨_, _, _, rnDiskWriteC2, ?_⟩; (try (dsimp only [Nat.reduceAdd, List.cons_append, List.nil_append]))) | (guard_target =~ CallOb _ 36 [_, _, .bool false] _ _ _; refine call_q (found_f k s false E C hk) [(0, some 0), (1, some 1), (2, some 2)] cvDiskWriteC1 (by rfl) (by rfl) (by rfl) (fun v h1 n1 hp => ?_); rcases hp with ⟨e, k', hR, he, rfl, rfl, rfl⟩ | ⟨e, k', q, L, X, hR, he, hq, hok, hcp, rfl, rfl, rfl⟩) | (guard_target =~ CallOb _ 36 _ _ _ _; refine call_q (found_f k s (decide ((data.size : Int) = 256)) E C hk) [(0, some 0), (1, some 1), (2, some 2)] cvDiskWriteC1 (by rfl) (by rfl) (by rfl) (fun v h1 n1 hp => ?_); rcases hp with ⟨e, k', hR, he, rfl, rfl, rfl⟩ | ⟨e, k', q, L, X, hR, he, hq, hok, hcp, rfl, rfl, rfl⟩) | (exfalso; exact Bool.noConfusion (found_true hR); done) | (guard_target =~ CallOb _ 37 _ _ _ _; first | refine total_raw (E := E) (C := C) rfl rfl rfl hs (fun z hz => ?_) | refine total_foc (E := E) (C := C) (q := q) (f := 6) hq rfl rfl rfl rfl hok.c1.len hs (fun z hz => ?_)) | (guard_target =~ ∃ ks' vs', PutOb _ _ _ _ ks' vs' ∧ _; first | (have hX := hl _ (List.mem_of_getElem? hq); have e0 : X.now.length ≤ 16384 := hX.len; have e1 : L.pn.length = X.now.length := hok.c1.len; have e2 : L.ps.length = X.safe.length := hok.c2.len; have e3 : X.safe.length = X.now.length := hX.safe; have e4 : X.wait.length = X.now.length := hX.wait; refine ⟨_, _, put_foc hn hq, ?_⟩) | refine ⟨_, _, put_new (found_new hR (by omega)), ?_⟩) | (guard_target =~ RegOb _ _ _ _ _ _ _ _ _; refine reg_join tabOk mixed [7, 8, 9] P13 (by kernel_rfl) 7 (fun x : Nat × Nat × Nat => [(0, ptr 0), (1, .string s), (2, iv i), (3, .string data), (9, ptr 3)]) (fun x => [(0, .own 58 (dkv 1 k')), (1, .mp (names E) ((spots E).set q (ptr 3))), (2, restI (E.eraseIdx q) C), (3, .own 65 [mslice 4 (L.pn.length + 1) x.1, mslice 5 (L.ps.length + 1) x.2.1, mslice 6 (X.wait.length + 1) x.2.2, .bool X.sure]), (4, .lst 66 1 x.1 (L.pn.map (fun p => rp p) ++ [.pointer none])), (5, .lst 66 1 x.2.1 (L.ps.map ro ++ [.pointer none])), (6, .lst 4 1 x.2.2 (X.wait.map .bool ++ [.bool false]))]) (fun x => True) ?_ (fun x hx => ?_)) | (guard_target =~ RegOb _ _ _ _ _ _ _ _ _; refine reg_join tabOk mixed [] P13 (by kernel_rfl) 7 (fun x : Nat × Nat × Nat => [(0, ptr 0), (1, .string s), (2, iv i), (3, .string data), (9, ptr 3)]) (fun x => [(0, .own 58 (dkv 1 k')), (1, .mp (names E ++ [.string s]) (spots E ++ [ptr 3])), (2, restI E C), (3, .own 65 [mslice 4 1 x.1, mslice 5 1 x.2.1, mslice 6 1 x.2.2, .bool false]), (4, .lst 66 1 x.1 [.pointer none]), (5, .lst 66 1 x.2.1 [.pointer none]), (6, .lst 4 1 x.2.2 [.bool false])]) (fun x => True) ?_ (fun x hx => ?_)) | (guard_target =~ extH _ _ _ ∧ _; refine ⟨by (repeat' ((try (conv => whnf)); first | exact True.intro | exact trivial | (refine ⟨rfl, ?_⟩))); (first | done | fail), ?_⟩) | (guard_target =~ vcEff1 _ _ _ _ _ _ _ _ _ _ _ ∧ _; refine ⟨?_, ?_⟩) | (guard_target =~ ∀ (_ : Nat), _ → _; first | (have _h := c14; intro c20 h20) | (have _h := c8; intro c14 h14) | (intro c8 h8)) | (guard_target =~ Gone _ _ _ _ _ _ _; (first | (guard_target =~ Gone _ _ _ _ _ _ ((_, Itm.lst _ _ _ _) :: (_, Itm.row _ _ _ _) :: (_, Itm.lst _ _ _ _) :: (_, Itm.row _ _ _ _) :: (_, Itm.lst _ _ _ _) :: (_, Itm.row _ _ _ _) :: _); first | (have _q := hq; (refine Gone.go ((c8, c14, c20)) ?_ [(3, some 6), (4, some 11), (5, some 13), (6, some 15)] (Sub.q cvDiskWriteC1 (by rfl) (by rfl)))) | (first | (refine Gone.go ((c8, c14, c20)) ?_ [(3, some 6), (4, some 8), (5, some 10), (6, some 12)] (Sub.q cvDiskWriteC1 (by rfl) (by rfl))))) | (guard_target =~ Gone _ _ _ _ _ _ ((_, Itm.lst _ _ _ _) :: (_, Itm.lst _ _ _ _) :: (_, Itm.row _ _ _ _) :: (_, Itm.row _ _ _ _) :: (_, Itm.lst _ _ _ _) :: (_, Itm.row _ _ _ _) :: _); first | (have _q := hq; (refine Gone.go ((c8, c14, c20)) ?_ [(3, some 6), (4, some 11), (5, some 14), (6, some 15)] (Sub.q cvDiskWriteC1 (by rfl) (by rfl)))) | (first | (refine Gone.go ((c8, c14, c20)) ?_ [(3, some 6), (4, some 8), (5, some 11), (6, some 12)] (Sub.q cvDiskWriteC1 (by rfl) (by rfl))))) | (guard_target =~ Gone _ _ _ _ _ _ ((_, Itm.lst _ _ _ _) :: (_, Itm.row _ _ _ _) :: (_, Itm.lst _ _ _ _) :: (_, Itm.lst _ _ _ _) :: (_, Itm.row _ _ _ _) :: (_, Itm.row _ _ _ _) :: _); first | (have _q := hq; (refine Gone.go ((c8, c14, c20)) ?_ [(3, some 6), (4, some 12), (5, some 13), (6, some 15)] (Sub.q cvDiskWriteC1 (by rfl) (by rfl)))) | (first | (refine Gone.go ((c8, c14, c20)) ?_ [(3, some 6), (4, some 9), (5, some 10), (6, some 12)] (Sub.q cvDiskWriteC1 (by rfl) (by rfl))))) | (guard_target =~ Gone _ _ _ _ _ _ ((_, Itm.lst _ _ _ _) :: (_, Itm.lst _ _ _ _) :: (_, Itm.row _ _ _ _) :: (_, Itm.lst _ _ _ _) :: (_, Itm.row _ _ _ _) :: (_, Itm.row _ _ _ _) :: _); first | (have _q := hq; (refine Gone.go ((c8, c14, c20)) ?_ [(3, some 6), (4, some 12), (5, some 14), (6, some 15)] (Sub.q cvDiskWriteC1 (by rfl) (by rfl)))) | (first | (refine Gone.go ((c8, c14, c20)) ?_ [(3, some 6), (4, some 9), (5, some 11), (6, some 12)] (Sub.q cvDiskWriteC1 (by rfl) (by rfl))))) | (guard_target =~ Gone _ _ _ _ _ _ ((_, Itm.lst _ _ _ _) :: (_, Itm.lst _ _ _ _) :: (_, Itm.lst _ _ _ _) :: (_, Itm.row _ _ _ _) :: (_, Itm.row _ _ _ _) :: (_, Itm.row _ _ _ _) :: _); first | (have _q := hq; (refine Gone.go ((c8, c14, c20)) ?_ [(3, some 6), (4, some 13), (5, some 14), (6, some 15)] (Sub.q cvDiskWriteC1 (by rfl) (by rfl)))) | (first | (refine Gone.go ((c8, c14, c20)) ?_ [(3, some 6), (4, some 10), (5, some 11), (6, some 12)] (Sub.q cvDiskWriteC1 (by rfl) (by rfl)))))); exact True.intro) | (guard_target =~ (List.length _ = _) ∧ _; refine ⟨by (simp only [List.length_map, List.length_append, List.length_cons, List.length_nil, List.length_set]; omega), ?_⟩) | (refine ⟨i.toNat, by omega, by omega, ?_⟩) | (refine chk_in (Nat.ble_eq_true_of_le (by simp only [List.length_map, List.length_append, List.length_cons, List.length_nil, Itm.cells, List.length_set]; omega)) ?_) | (with_reducible refine chk_in (Nat.ble_eq_true_of_le (by omega)) ?_) | (with_reducible refine ifB_in ?_ ?_ <;> intro hb <;> (try simp only [decide_eq_true_eq, decide_eq_false_iff_not, Int.not_lt, Int.not_le, ne_eq, Decidable.not_not, Bool.not_eq_true', Bool.not_eq_false', gt_iff_lt, ge_iff_le] at hb) <;> (try (exfalso; omega))) | (with_reducible refine ⟨_, w64b _, ?_⟩) | (with_reducible refine ⟨_, w64 (by omega) (by omega), ?_⟩) | (with_reducible refine ⟨_, wu64 (by omega) (by omega), ?_⟩) | (with_reducible refine ⟨_, wu8 (by omega) (by omega), ?_⟩) | (with_reducible refine ⟨_, w64 (by (simp only [size_sfrom, ByteArray.size_extract, ByteArray.size_append, strOf_size, fixedL_length, lit_size, List.size_toArray, List.length_cons, List.length_nil, List.length_append, List.length_replicate]; omega)) (by (simp only [size_sfrom, ByteArray.size_extract, ByteArray.size_append, strOf_size, fixedL_length, lit_size, List.size_toArray, List.length_cons, List.length_nil, List.length_append, List.length_replicate]; omega)), ?_⟩) | (with_reducible refine ⟨_, rfl, ?_⟩) | (with_reducible refine ⟨rfl, ?_⟩) | (intro cap) | (with_reducible refine ⟨trivial, ?_⟩) | (guard_target =~ (planChk _ _ = true) ∧ _; refine ⟨by kernel_rfl, ?_⟩) | (guard_target =~ (_ ∧ _) ∧ _; refine ⟨by ((repeat (first | exact trivial | refine ⟨rfl, ?_⟩)); (first | done | fail)), ?_⟩) | (refine ⟨by omega, ?_⟩) | (refine ⟨by (simp only [size_sfrom, ByteArray.size_extract, ByteArray.size_append, strOf_size, fixedL_length, lit_size, List.size_toArray, List.length_cons, List.length_nil, List.length_append, List.length_replicate]; omega), ?_⟩) | (refine ⟨0, rfl, ?_⟩) | (refine ⟨1, rfl, ?_⟩) | (refine ⟨2, rfl, ?_⟩) | (refine ⟨3, rfl, ?_⟩) | (refine ⟨4, rfl, ?_⟩) | (refine ⟨5, rfl, ?_⟩) | (refine cell_at1 (by assumption) ?_) | (refine cell_in1 (by omega) (fun x hx => ?_)) | fail)) <;> (try (conv => whnf))
  all_goals first
    | (exfalso; have hneg := found_neg hR; omega)
    | exact leafA k k' s i e data E C hR he (by omega) (by omega)
    | exact leafB k k' s i e data E C hR he (by omega) (by omega) (by omega)
    | exact leafJ k k' s i e data E C hR he (by omega) (by omega)
    | exact leafCc k k' s i e data E C hR he (by omega) (by omega) (by omega) (by omega)
    | exact leafD k k' s i e data E C hR he (by omega) (by omega) (by omega) (by omega) (by omega) z hz (by omega)
    | exact leafEe k k' s i e data E C hR he (by omega) (by omega) (by omega) (by omega) (by omega) z hz (by omega) (by omega) x
    | exact leafF k k' s i e data E C q L X hR he hq hok hcp (by omega) (by omega)
    | exact leafG k k' s i e data E C q L X hR he hq hok hcp (by omega) (by omega) z hz (by omega)
    | exact leafH k k' s i e data E C q L X hR he hq hok hcp e1 e2 e3 e4 (by omega) (by omega) z hz (by omega) x
    | exact leafI k k' s i e data E C q L X hR he hq hok hcp e1 e2 e3 e4 (by omega) (by omega) (by omega)
    | trace_state
end Go.Proofs.Ytdgmjjidkaafaaa
namespace Go.Proofs.Ytdgmjjidkaafaaa
open Go.RowKit
set_option linter.unusedSimpArgs false
set_option linter.unusedVariables false
attribute [local irreducible] bytesOf strOf strEq strLt sfrom begS
theorem total_perm {a b : Fs} (h : a.Perm b) : total a = total b := by
  unfold total
  exact (h.map _).sum_nat
theorem total_le {fs : Fs} (h : fs.Ok) : total fs ≤ 131072 := by
  have key : ∀ l : Fs, (∀ p ∈ l, p.2.Ok) → total l ≤ l.length * 16384 := by
    intro l
    induction l with
    | nil => intro _; exact Nat.zero_le _
    | cons p l ih =>
      intro hl
      have h1 := ih fun q hq => hl q (List.mem_cons_of_mem _ hq)
      have h2 := (hl p List.mem_cons_self).len
      unfold total at h1 ⊢
      rw [List.map_cons, List.sum_cons, List.length_cons]
      omega
  have h1 := key fs h.files
  have h2 := h.few
  omega
theorem write_c (S : Nat → Prop) (D : DM) (hD : D.Ok) (s : ByteArray) (i : Int) (data : ByteArray) (hi : -9223372036854775808 ≤ i ∧ i ≤ 9223372036854775807) :
    CallOb Try.prog 10 [ptr 0, .string s, iv i, .string data] [(0, diskI S D)] 1 (AbsP (fun a : Int => iv a) (fun a D' => (a, D') = writeD D s i data)) := by
  refine of_raw Try.call10 fun E C hp => ?_
  have hlen : E.length = D.fs.length := by have := hp.length_eq; rwa [List.length_map] at this
  have htot : total (filesOf E) = total D.fs := total_perm hp
  have hle := total_le hD.fs
  have hfew := hD.fs.few
  have hs := hD.fs.sorted
  refine (write_l D.k s i data E C hD.k hi (ok_files hp hD.fs) (by omega) (names_nodup hp hs) (by omega)).conv ?_
  rintro v h1 n1 ⟨z, hz, rfl, rfl, rfl⟩ F B w0 m w c H hv
  have done : ∀ {n : Nat} {D' : DM} {a : Int}, n ≤ 20 → VR m (iv a) c → (∃ S, HRel F B w0 m [(0, diskI S D')] n w) → (a, D') = writeD D s i data → ∃ m' v' h2 n2, m.le m' ∧ VR m' v' c ∧ HRel F B w0 m' h2 n2 w ∧ AbsP (fun a : Int => iv a) (fun a D' => (a, D') = writeD D s i data) v' h2 n2 := by
    rintro n D' a hn hv ⟨S, H'⟩ hr
    exact ⟨m, iv a, _, 20, BM.le_refl m, hv, H'.up (BM.le_refl m) H'.fn (fun i g s x => Nat.lt_of_lt_of_le (H'.fresh i g s x) hn), a, _, S, hr, rfl, rfl, rfl⟩
  -- a file that is there
  have foc : ∀ {k' : Dk} {q : Nat} {L : LF} {X : Fl}, FoundR D.k s (decide (0 ≤ i) && decide (data.size = 256)) E (0, k', some L) → E[q]? = some (s, L, X) →
      foundD D s (decide (0 ≤ i) && decide (data.size = 256)) = (0, ⟨k', D.fs⟩) ∧ findF D.fs s = some X ∧ ∀ X', ((filesOf E).set q (s, X')).Perm (putF D.fs s X') := by
    intro k' q L X hR hq
    obtain ⟨hf, hx⟩ := found_some hp hs hR hq
    have hl : (filesOf E)[q]? = some (s, X) := by rw [List.getElem?_map, hq]; rfl
    have hlt : q < (filesOf E).length := by
      rcases Nat.lt_or_ge q (filesOf E).length with y | y
      · exact y
      · rw [List.getElem?_eq_none y] at hl; cases hl
    exact ⟨hf, hx, fun X' => put_perm hp hs hl (perm_erase hl) (erase_set_perm _ hlt)⟩
  cases z with
  | raw e k' =>
    obtain ⟨f, hR, h0, hr⟩ := hz
    have hf := found_none hp hs hR
    refine done (n := 3) (a := e) (by decide) hv (close_raw H hp) ?_
    unfold writeD
    rw [hf]
    dsimp only
    rcases hr with ⟨h1, rfl⟩ | ⟨rfl, h1, h2, rfl⟩
    · rw [if_pos ⟨h0, h1⟩]
    · have hno := found_n14 hp hR rfl (begS_n14 _ _ _)
      have hge : 0 ≤ i := by
        rcases Int.lt_or_le i 0 with h | h
        · have hR2 := hR
          rw [← right_no h] at hR2
          exact absurd (found_neg hR2) (by decide)
        · exact h
      have h0 : i = 0 := by omega
      subst h0
      have e0 : (findF D.fs s).getD fl0 = fl0 := by rw [hno]; rfl
      rw [if_neg (by omega), e0, if_neg (show ¬ ((fl0.now.length : Int) < 0) by decide), if_pos]
      rcases h2 with h2 | h2
      · exact .inl ⟨rfl, by omega⟩
      · exact .inr ⟨rfl, by rw [← htot]; exact h2⟩
  | foc e k' q L X =>
    obtain ⟨hR, hq, hok, hr⟩ := hz
    obtain ⟨hf, hx, hput⟩ := foc hR hq
    refine done (n := 7) (a := e) (by decide) hv (close_foc H hq hok (hput X)) ?_
    rw [put_same hs hx]
    unfold writeD
    rw [hf, hx]
    dsimp only [Option.getD_some]
    rw [if_neg (by simp)]
    rcases hr with ⟨h1, rfl⟩ | ⟨h1, h2, rfl⟩
    · rw [if_pos h1]
    · rw [if_neg (by omega), if_pos (.inr ⟨h1, by rw [← htot]; exact h2⟩)]
  | old e k' q nl ka nv sl kb sv wl kc wv sure =>
    obtain ⟨rfl, L, X, hR, hq, hok, rfl, hr⟩ := hz
    obtain ⟨hf, hx, hput⟩ := foc hR hq
    have hX := ok_files hp hD.fs _ (List.mem_of_getElem? hq)
    have e1 : L.pn.length = X.now.length := hok.c1.len
    have e2 : L.ps.length = X.safe.length := hok.c2.len
    have e3 : X.safe.length = X.now.length := hX.safe
    have e4 : X.wait.length = X.now.length := hX.wait
    have m1 : ∀ g, All2 (fun p x => (p, x) ∈ (g, some data) :: C) L.pn X.now := fun g => hok.c1.mono fun _ _ h => List.mem_cons_of_mem _ h
    rcases hr with ⟨h0, h1, rfl, rfl, rfl, rfl, rfl, rfl⟩ | ⟨h1, h2, rfl, rfl, rfl, rfl, rfl, rfl⟩
    · refine done (n := 8) (a := 0) (by decide) hv (close_old H hq (X' := writeF X i.toNat data) (fun g => L.pn.set i.toNat g) L.ps (fun g hg l hl => nv_set H.fn hg hl) rfl ?_ ?_ ?_ ?_ ?_ ?_ ?_ (hput _)) ?_
      all_goals (try (unfold writeF; rw [if_neg (by omega)]; dsimp only))
      · rw [List.map_set]
      · unfold writeF; split <;> rfl
      · intro g; rw [List.length_set]; omega
      · omega
      · rw [List.length_set]; omega
      · exact fun g => (m1 g).set _ (List.Mem.head _)
      · exact hok.c2
      · unfold writeD
        rw [hf, hx]
        dsimp only [Option.getD_some]
        rw [if_neg (by simp), if_neg (by omega), if_neg]
        · rintro (⟨h, _⟩ | ⟨h, _⟩) <;> omega
    · refine done (n := 8) (a := 0) (by decide) hv (close_old H hq (X' := writeF X i.toNat data) (fun g => L.pn ++ [g]) (L.ps ++ [none]) (fun g hg l hl => nv_app H.fn hg (by omega) hl) ?_ ?_ ?_ ?_ ?_ ?_ ?_ ?_ (hput _)) ?_
      all_goals (try (unfold writeF; rw [if_pos (by omega)]; dsimp only))
      · rw [List.map_append]; rfl
      · have e : i.toNat = (X.wait.map Value.bool).length := by rw [List.length_map]; omega
        rw [e, set_len, List.map_append]; rfl
      · unfold writeF; split <;> rfl
      · intro g; rw [List.length_append, List.length_singleton]; omega
      · rw [List.length_append, List.length_singleton]; omega
      · rw [List.length_append, List.length_singleton]; omega
      · exact fun g => (m1 g).app ⟨List.Mem.head _, trivial⟩
      · exact hok.c2.app ⟨trivial, trivial⟩
      · unfold writeD
        rw [hf, hx]
        dsimp only [Option.getD_some]
        rw [if_neg (by simp), if_neg (by omega), if_neg]
        · rintro (⟨h, _⟩ | ⟨_, h⟩)
          · omega
          · rw [← htot] at h; omega
  | new e k' ka kb kc =>
    obtain ⟨rfl, f, hR, rfl, rfl, h1, h2⟩ := hz
    have hf := found_none hp hs hR
    have hno := found_n14 hp hR rfl (begS_n14 _ _ _)
    refine done (n := 8) (a := 0) (by decide) hv (close_new H (put_snoc hp hno)) ?_
    have e0 : (findF D.fs s).getD fl0 = fl0 := by rw [hno]; rfl
    unfold writeD
    rw [hf, e0]
    dsimp only
    rw [if_neg (by omega), if_neg (show ¬ ((fl0.now.length : Int) < 0) by decide), if_neg]
    · rfl
    · rintro (⟨_, h⟩ | ⟨_, h⟩)
      · omega
      · rw [← htot] at h; omega
end Go.Proofs.Ytdgmjjidkaafaaa
