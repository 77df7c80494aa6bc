/- The document's disk: calls over the opened disk. -/
import Derived.Test.YtdgmjjidkaafaaaRefMade
namespace Go.Proofs.Ytdgmjjidkaafaaa
open Go.RowKit
set_option linter.unusedSimpArgs false
set_option linter.unusedVariables false
/-- The opened disk. -/
abbrev opH (i : Nat) (c : Nat) (k : Dk) (q : RK) (E : List RF) (S : Nat → Prop) : HP := [(0, .own 87 (rdv i E.length c k q)), (i, .lst 91 5 c (E.flatMap fileR)), (2, fzI S E)]
/-- What is known of it. -/
structure OpR (k : Dk) (q : RK) (E : List RF) (c : Nat) : Prop where
  fit : k.Fit
  rk : q.Ok k
  fs : (filesR E).Ok
  le : E.length ≤ c
  cap : ∀ e ∈ E, e.Cap
theorem OpR.len {k : Dk} {q : RK} {E : List RF} {c : Nat} (h : OpR k q E c) : E.length ≤ 8 := by have := h.fs.few; rwa [List.length_map] at this
theorem OpR.ok {k : Dk} {q : RK} {E : List RF} {c : Nat} (h : OpR k q E c) {e : RF} (he : e ∈ E) : e.X.Ok := h.fs.files (e.nm, e.X) (List.mem_map.2 ⟨e, he, rfl⟩)
theorem fz_mem {S : Nat → Prop} {E : List RF} {x : RF} (hx : x ∈ E) : ∀ w, FzP S E w → FzOk S w x := fun w h => h x hx
/-- What a call that reads comes to. -/
theorem read_1 {k k' : Dk} {E : List RF} {s : ByteArray} {i e : Int} (h : (e, k') = begS k s true) (he : ¬ e = 0) : ((⟨#[]⟩, e), (⟨k', filesR E⟩ : DM)) = readD ⟨k, filesR E⟩ s i := by
  unfold readD foundD
  dsimp only
  rw [← h]
  dsimp only
  rw [if_pos he, if_pos he]
theorem read_2 {k k' : Dk} {E : List RF} {s : ByteArray} {i e : Int} (h : (e, k') = begS k s true) (he : e = 0) (hn : findF (filesR E) s = none) : ((⟨#[]⟩, 14), (⟨k', filesR E⟩ : DM)) = readD ⟨k, filesR E⟩ s i := by
  unfold readD foundD
  dsimp only
  rw [← h, hn]
  subst he
  rfl
theorem read_3 {k k' : Dk} {E : List RF} {s : ByteArray} {i e : Int} {X : Fl} {r : ByteArray × Int} (h : (e, k') = begS k s true) (he : e = 0) (hn : findF (filesR E) s = some X) (hr : r = readF X i) : (r, (⟨k', filesR E⟩ : DM)) = readD ⟨k, filesR E⟩ s i := by
  unfold readD foundD
  dsimp only
  rw [← h, hn, hr]
  subst he
  rfl
theorem readF_out {X : Fl} {i : Int} (h : i < 0 ∨ (X.now.length : Int) ≤ i) : (⟨#[]⟩, 14) = readF X i := by
  unfold readF
  by_cases h0 : i < 0
  · rw [if_pos h0]
  · rw [if_neg h0, List.getElem?_eq_none (by omega)]; rfl
theorem readF_torn {X : Fl} {i : Int} {c : Cv} (h0 : 0 ≤ i) (h : X.now[i.toNat]? = some c) (hc : c.isNone = true) : (⟨#[]⟩, 13) = readF X i := by
  unfold readF
  rw [if_neg (by omega), h]
  cases c with
  | none => rfl
  | some d => cases hc
theorem readF_is {X : Fl} {i : Int} {c : Cv} (h0 : 0 ≤ i) (h : X.now[i.toNat]? = some c) (hc : c.isNone = false) : (c.getD ⟨#[]⟩, 0) = readF X i := by
  unfold readF
  rw [if_neg (by omega), h]
  cases c with
  | none => cases hc
  | some d => rfl
attribute [local irreducible] bytesOf strOf strEq strLt sfrom begS goodName readD writeD syncD cutD dropD
theorem cvRefWrite1 {p : Prop} (h : p := by have nw := True.intro; (repeat' (first | exact True.intro | (with_reducible exact rfl) | (with_reducible exact AbsLe.refl) | (guard_target =~ @Eq Nat _ _; first | exact rfl | omega) | (guard_target =~ List.map _ _ = []; exact rfl) | (first | (guard_target =~ @Eq Nat _ _; (try dsimp only); omega) | exact covL_still rfl (files_still _) | exact congrArg (Value.int _) (by (try dsimp only); omega) | (guard_target =~ @Eq Value _ _; exact rfl)) | (exact congrArg (Value.int _) (by omega)) | (exact covL_flat (flat_map (fun _ => rfl) _)) | (exact covL_flat flat_nil) | (refine covP_all ?_; (try clear nw); have nw := True.intro) | (refine covL_each ?_; (try clear nw); have nw := True.intro) | (refine ⟨?_, ?_⟩ <;> (try clear nw) <;> have nw := True.intro) | (guard_hyp nw : True; ((conv => whnf) <;> clear nw)))); (first | done | fail)) : p := h
theorem rnRefWrite2 {p : Prop} (h : p := by refine ⟨?_, ?_, ?_⟩; (first | apply rR_tuple | apply rR_one rfl | exact rfl); all_goals (repeat' (first | (with_reducible (first | exact relH_nil | apply rn_lst | apply rn_own | apply rn_mp | apply rn_row | apply rn_abs | exact wo_nil)) | apply wo_keep rfl | apply wo_drop rfl | exact relH_nil | exact r1_flat rfl | exact r0_flat rfl | exact rl_nil | exact wo_nil | exact bk_old rfl | exact bk_new rfl | exact bk_nil rfl | apply rl_cons | (first | exact relL_still hvs | exact relL_still (files_still _)) | exact relL_flat (flat_map (fun _ => rfl) _) | exact relL_flat flat_nil | apply relL_to | apply rn_lst | apply rn_own | apply rn_mp | apply rn_row | apply relH_view rfl | apply relH_lview rfl | apply relH_fact rfl | exact r1_rig | exact r0_rig | exact r1_rigs | exact r0_rigs | apply wo_keep rfl | apply wo_drop rfl | apply r1_agg | apply rn_ptr | apply rn_slice | apply rn_slice0 | apply rn_iface | apply rn_map | apply rn_ifacem | apply r0_map | apply r0_ifacem | apply r0_ptr | apply r0_slice | apply r0_slice0 | apply r0_iface)); (first | done | fail)) : p := h
set_option maxRecDepth 100000 in
theorem rread_o (E : List RF) (c : Nat) (k : Dk) (q : RK) (S : Nat → Prop) (s : ByteArray) (i : Int) (hO : OpR k q E c) :
    CallOb Try.prog 50 [ptr 0, .string s, iv i] (opH 1 c k q E S) 3 (fun v hh m => ∃ z : (ByteArray × Int) × Dk × RK, ((z.1, ⟨z.2.1, filesR E⟩) = readD ⟨k, filesR E⟩ s i ∧ z.2.2.Ok z.2.1) ∧ v = .tuple #[.string z.1.1, iv z.1.2] ∧ hh = opH 1 c z.2.1 z.2.2 E S ∧ m = 3) := by
  refine call_spec tabOk mixed Try.call50 Try.func50 rfl [] (fun z : (ByteArray × Int) × Dk × RK => (z.1, ⟨z.2.1, filesR E⟩) = readD ⟨k, filesR E⟩ s i ∧ z.2.2.Ok z.2.1) (fun z => .tuple #[.string z.1.1, iv z.1.2]) (fun z => opH 1 c z.2.1 z.2.2 E S) (fun _ => 3) ?_ ?_
  · exact (Nat.le_of_ble_eq_true rfl)
  dsimp only [opH, rdv]
  (repeat' ((try (conv => whnf)); first | (guard_target =~ ∃ (_ : Value), ∃ (_ : HP), ∃ (_ : HP), _; refine ⟨_, _, _, rnRefWrite2, ?_⟩; (try (dsimp only [Nat.reduceAdd, List.cons_append, List.nil_append]))) | (guard_target =~ CallOb _ 72 _ _ _ _; refine call_q (rbegin_c E.length c k q s false (E.flatMap fileR) (files_still E) hO.fit hO.rk) [(0, some 0), (1, some 1)] cvRefWrite1 (by rfl) (by rfl) (by rfl) (fun v h1 n1 hp => ?_); obtain ⟨⟨e1, k1, q1⟩, ⟨hb1, hq1⟩, rfl, rfl, rfl⟩ := hp; dsimp only at hb1 hq1; simp only [Bool.not_false] at hb1; (try (dsimp only [Nat.reduceAdd, List.cons_append, List.nil_append]))) | (guard_target =~ CallOb _ 60 _ _ _ _; refine call_q (rplace_c E c k1 q1 s hO.len) [(0, some 0), (1, some 1)] cvRefWrite1 (by rfl) (by rfl) (by rfl) (fun v h1 n1 hp => ?_); obtain ⟨z, hz, rfl, rfl, rfl⟩ := hp; obtain ⟨zv, hzv⟩ : ∃ y : Int, y = z := ⟨z, rfl⟩; rcases hz with ⟨hzn, hz⟩ | ⟨p, x, hx, hnx, hzp⟩; all_goals (rw [← hzv]); all_goals (first | (have hno := place_none hz) | (have hxm := List.mem_of_getElem? hx; have hpl := (List.getElem?_eq_some_iff.1 hx).1; have hfd := place_some hO.fs.sorted hx hnx; have hcx := hO.cap x hxm; have hxo := hO.ok hxm; have hxl := hxo.len; have hka := hcx.a.le; have hkb := hcx.b.le; have hkc := hcx.c.le; have hxs := hxo.safe; have hxw := hxo.wait)); all_goals (try (dsimp only [Nat.reduceAdd, List.cons_append, List.nil_append]))) | (guard_hyp hx : E[p]? = some x; first | refine onS_in (v := rs x.a x.X.now.length x.ka) (by show (E.flatMap fileR)[0 + p * 5 + 1]? = _; exact cell_rf hx (by decide) rfl) ?_ | refine onS_in (v := fileR x) (by show subL (E.flatMap fileR) (0 + p * 5) 5 = _; exact flat_sub (fun _ => rfl) hx (by omega)) ?_) | (guard_target =~ ∃ (k : Nat), (k : Int) = zv ∧ _; refine ⟨p, by omega, ?_⟩) | (guard_target =~ ∃ (k : Nat), (k : Int) = i ∧ _; first | (guard_hyp hcv : _ = some cv; refine ⟨i.toNat, by omega, by omega, g, o, hga, ?_⟩) | (obtain ⟨g, o, hpa, hga⟩ := plc_at hcx.a (show 0 < x.X.now.length by omega); obtain ⟨cv, hcv⟩ : ∃ cv, x.X.now[i.toNat]? = some cv := ⟨_, List.getElem?_eq_getElem (by omega)⟩; refine ⟨i.toNat, by omega, by omega, g, o, hga, ?_⟩)) | (guard_target =~ ∃ _, RigLd _ _ _ _ _ _ ∧ _; first | refine ⟨.bool cv.isNone, rig_cell (i := 2) (S := S) (E := E) (f := 2) rfl (fz_mem hxm) hpa hcv ⟨_, rfl, rfl⟩ rfl rfl (by decide) rfl, ?_⟩ | refine ⟨.string (cv.getD ⟨#[]⟩), rig_cell (i := 2) (S := S) (E := E) (f := 1) rfl (fz_mem hxm) hpa hcv ⟨_, rfl, rfl⟩ rfl rfl (by decide) rfl, ?_⟩) | (with_reducible refine chk_in (Nat.ble_eq_true_of_le (by omega)) ?_) | (with_reducible refine ifB_in ?_ ?_ <;> intro hb <;> (try simp only [decide_eq_true_eq, decide_eq_false_iff_not, Int.not_lt, Int.not_le, ne_eq, Decidable.not_not, Bool.not_eq_true', Bool.not_eq_false', gt_iff_lt, ge_iff_le] at hb) <;> (try (exfalso; omega))) | (with_reducible refine ⟨_, w64b _, ?_⟩) | (with_reducible refine ⟨_, w64 (by omega) (by omega), ?_⟩) | (with_reducible refine ⟨_, wu64 (by omega) (by omega), ?_⟩) | (with_reducible refine ⟨_, wu8 (by omega) (by omega), ?_⟩) | (with_reducible refine ⟨_, w64 (by (simp only [size_sfrom, ByteArray.size_extract, ByteArray.size_append, strOf_size, fixedL_length, lit_size, List.size_toArray, List.length_cons, List.length_nil, List.length_append, List.length_replicate]; omega)) (by (simp only [size_sfrom, ByteArray.size_extract, ByteArray.size_append, strOf_size, fixedL_length, lit_size, List.size_toArray, List.length_cons, List.length_nil, List.length_append, List.length_replicate]; omega)), ?_⟩) | (with_reducible refine ⟨_, rfl, ?_⟩) | (with_reducible refine ⟨rfl, ?_⟩) | (intro cap) | (with_reducible refine ⟨trivial, ?_⟩) | (guard_target =~ (planChk _ _ = true) ∧ _; refine ⟨by kernel_rfl, ?_⟩) | (guard_target =~ (_ ∧ _) ∧ _; refine ⟨by ((repeat (first | exact trivial | refine ⟨rfl, ?_⟩)); (first | done | fail)), ?_⟩) | (refine ⟨by omega, ?_⟩) | (refine ⟨by (simp only [size_sfrom, ByteArray.size_extract, ByteArray.size_append, strOf_size, fixedL_length, lit_size, List.size_toArray, List.length_cons, List.length_nil, List.length_append, List.length_replicate]; omega), ?_⟩) | (refine ⟨0, rfl, ?_⟩) | (refine ⟨1, rfl, ?_⟩) | (refine ⟨2, rfl, ?_⟩) | (refine ⟨3, rfl, ?_⟩) | (refine ⟨4, rfl, ?_⟩) | (refine ⟨5, rfl, ?_⟩) | (refine cell_at1 (by assumption) ?_) | (refine cell_in1 (by omega) (fun x hx => ?_)) | fail)) <;> (try (conv => whnf))
  all_goals first
    | (guard_hyp hb : ¬ e1 = 0; (refine Ends.go (((⟨#[]⟩, e1), k1, q1)) ?_ [] (Fit.q cvRefWrite1 (by rfl) (by rfl))); exact ⟨read_1 hb1 hb, hq1⟩)
    | (guard_hyp hno : findF (filesR E) s = none; (refine Ends.go (((⟨#[]⟩, 14), k1, q1)) ?_ [] (Fit.q cvRefWrite1 (by rfl) (by rfl))); exact ⟨read_2 hb1 ‹e1 = 0› hno, hq1⟩)
    | (guard_hyp hb : cv.isNone = true; (refine Ends.go (((⟨#[]⟩, 13), k1, q1)) ?_ [] (Fit.q cvRefWrite1 (by rfl) (by rfl))); exact ⟨read_3 hb1 ‹e1 = 0› hfd (readF_torn (by omega) hcv hb), hq1⟩)
    | (guard_hyp hb : cv.isNone = false; (refine Ends.go (((cv.getD ⟨#[]⟩, 0), k1, q1)) ?_ [] (Fit.q cvRefWrite1 (by rfl) (by rfl))); exact ⟨read_3 hb1 ‹e1 = 0› hfd (readF_is (by omega) hcv hb), hq1⟩)
    | (guard_hyp hfd : _ = some x.X; (refine Ends.go (((⟨#[]⟩, 14), k1, q1)) ?_ [] (Fit.q cvRefWrite1 (by rfl) (by rfl))); exact ⟨read_3 hb1 ‹e1 = 0› hfd (readF_out (by omega)), hq1⟩)
    | trace_state
/-! A file is dropped. -/
theorem drop_1 {k k' : Dk} {E : List RF} {s : ByteArray} {e : Int} (h : (e, k') = begS k s true) (he : ¬ e = 0) : (e, (⟨k', filesR E⟩ : DM)) = dropD ⟨k, filesR E⟩ s := by
  unfold dropD foundD
  dsimp only
  rw [← h]
  dsimp only
  rw [if_pos he, if_pos he]
theorem drop_2 {k k' : Dk} {E : List RF} {s : ByteArray} {e : Int} (h : (e, k') = begS k s true) (he : e = 0) (hn : findF (filesR E) s = none) : (14, (⟨k', filesR E⟩ : DM)) = dropD ⟨k, filesR E⟩ s := by
  unfold dropD foundD
  dsimp only
  rw [← h, hn]
  subst he
  rfl
theorem files_split {E : List RF} {p : Nat} {x : RF} (hx : E[p]? = some x) : filesR E = filesR (E.take p) ++ (x.nm, x.X) :: filesR (E.drop (p + 1)) := by
  have : E = E.take p ++ x :: E.drop (p + 1) := by rw [← drop_at hx, List.take_append_drop]
  conv => lhs; rw [this]
  simp [filesR]
theorem drop_3 {k k' : Dk} {E : List RF} {s : ByteArray} {e : Int} {p : Nat} {x : RF} (h : (e, k') = begS k s true) (he : e = 0) (hs : Sorted (filesR E)) (hx : E[p]? = some x) (hnx : x.nm = s) : (0, (⟨k', filesR (goneL E p)⟩ : DM)) = dropD ⟨k, filesR E⟩ s := by
  have hfd := place_some hs hx hnx
  unfold dropD foundD
  dsimp only
  rw [← h, hfd]
  subst he
  have e1 := files_split hx
  have hd : delF (filesR E) s = filesR (goneL E p) := by
    rw [e1] at hs ⊢
    rw [hnx] at hs ⊢
    rw [del_mid hs]
    unfold goneL filesR
    rw [List.map_append]
  show _ = ((0 : Int), (⟨k', delF (filesR E) s⟩ : DM))
  rw [hd]
theorem gone_sub {E : List RF} {p : Nat} {e : RF} (h : e ∈ goneL E p) : e ∈ E := by
  unfold goneL at h
  rcases List.mem_append.1 h with h | h
  · exact List.mem_of_mem_take h
  · exact List.mem_of_mem_drop h
/-- The disk behind a call that changes no list. -/
structure LsR where
  e : Int
  k : Dk
  q : RK
  E : List RF
  c : Nat
abbrev lsH (E0 : List RF) (S : Nat → Prop) (z : LsR) : HP := [(0, .own 87 (rdv 31 z.E.length z.c z.k z.q)), (31, .lst 91 5 z.c (z.E.flatMap fileR)), (2, fzI S E0)]
set_option maxRecDepth 100000 in
theorem rdrop_o (E : List RF) (c : Nat) (k : Dk) (q : RK) (S : Nat → Prop) (s : ByteArray) (hO : OpR k q E c) :
    CallOb Try.prog 54 [ptr 0, .string s] (opH 1 c k q E S) 3 (fun v hh m => ∃ z : LsR, ((z.e, ⟨z.k, filesR z.E⟩) = dropD ⟨k, filesR E⟩ s ∧ z.q.Ok z.k ∧ (∀ e ∈ z.E, e ∈ E) ∧ z.E.length ≤ z.c) ∧ v = iv z.e ∧ hh = lsH E S z ∧ m = 60) := by
  refine call_spec tabOk mixed Try.call54 Try.func54 rfl [] (fun z : LsR => (z.e, ⟨z.k, filesR z.E⟩) = dropD ⟨k, filesR E⟩ s ∧ z.q.Ok z.k ∧ (∀ e ∈ z.E, e ∈ E) ∧ z.E.length ≤ z.c) (fun z => iv z.e) (fun z => lsH E S z) (fun _ => 60) ?_ ?_
  · exact (Nat.le_of_ble_eq_true rfl)
  dsimp only [opH, rdv]
  (repeat' ((try (conv => whnf)); first | (guard_target =~ ∃ (_ : Value), ∃ (_ : HP), ∃ (_ : HP), _; refine ⟨_, _, _, rnRefWrite2, ?_⟩; (try (dsimp only [Nat.reduceAdd, List.cons_append, List.nil_append]))) | (guard_target =~ CallOb _ 72 _ _ _ _; refine call_q (rbegin_c E.length c k q s false (E.flatMap fileR) (files_still E) hO.fit hO.rk) [(0, some 0), (1, some 1)] cvRefWrite1 (by rfl) (by rfl) (by rfl) (fun v h1 n1 hp => ?_); obtain ⟨⟨e1, k1, q1⟩, ⟨hb1, hq1⟩, rfl, rfl, rfl⟩ := hp; dsimp only at hb1 hq1; simp only [Bool.not_false] at hb1; (try (dsimp only [Nat.reduceAdd, List.cons_append, List.nil_append]))) | (guard_target =~ CallOb _ 60 _ _ _ _; refine call_q (rplace_c E c k1 q1 s hO.len) [(0, some 0), (1, some 1)] cvRefWrite1 (by rfl) (by rfl) (by rfl) (fun v h1 n1 hp => ?_); obtain ⟨z, hz, rfl, rfl, rfl⟩ := hp; obtain ⟨zv, hzv⟩ : ∃ y : Int, y = z := ⟨z, rfl⟩; rcases hz with ⟨hzn, hz⟩ | ⟨p, x, hx, hnx, hzp⟩; all_goals (rw [← hzv]); all_goals (first | (have hno := place_none hz) | (have hxm := List.mem_of_getElem? hx; have hpl := (List.getElem?_eq_some_iff.1 hx).1; have hfd := place_some hO.fs.sorted hx hnx; have hcx := hO.cap x hxm; have hxo := hO.ok hxm; have hxl := hxo.len; have hka := hcx.a.le; have hkb := hcx.b.le; have hkc := hcx.c.le; have hxs := hxo.safe; have hxw := hxo.wait)); all_goals (try (dsimp only [Nat.reduceAdd, List.cons_append, List.nil_append]))) | (guard_target =~ CallOb _ 76 _ _ _ _; obtain rfl : zv = ((p : Nat) : Int) := (by omega); refine call_q (rgone_c E c k1 q1 p hO.len hO.le hpl) [(0, some 0), (1, some 1)] cvRefWrite1 (by rfl) (by rfl) (by rfl) (fun v h1 n1 hp => ?_); obtain ⟨c2, hc2, rfl, rfl, rfl⟩ := hp; (try (dsimp only [Nat.reduceAdd, List.cons_append, List.nil_append]))) | (with_reducible refine chk_in (Nat.ble_eq_true_of_le (by omega)) ?_) | (with_reducible refine ifB_in ?_ ?_ <;> intro hb <;> (try simp only [decide_eq_true_eq, decide_eq_false_iff_not, Int.not_lt, Int.not_le, ne_eq, Decidable.not_not, Bool.not_eq_true', Bool.not_eq_false', gt_iff_lt, ge_iff_le] at hb) <;> (try (exfalso; omega))) | (with_reducible refine ⟨_, w64b _, ?_⟩) | (with_reducible refine ⟨_, w64 (by omega) (by omega), ?_⟩) | (with_reducible refine ⟨_, wu64 (by omega) (by omega), ?_⟩) | (with_reducible refine ⟨_, wu8 (by omega) (by omega), ?_⟩) | (with_reducible refine ⟨_, w64 (by (simp only [size_sfrom, ByteArray.size_extract, ByteArray.size_append, strOf_size, fixedL_length, lit_size, List.size_toArray, List.length_cons, List.length_nil, List.length_append, List.length_replicate]; omega)) (by (simp only [size_sfrom, ByteArray.size_extract, ByteArray.size_append, strOf_size, fixedL_length, lit_size, List.size_toArray, List.length_cons, List.length_nil, List.length_append, List.length_replicate]; omega)), ?_⟩) | (with_reducible refine ⟨_, rfl, ?_⟩) | (with_reducible refine ⟨rfl, ?_⟩) | (intro cap) | (with_reducible refine ⟨trivial, ?_⟩) | (guard_target =~ (planChk _ _ = true) ∧ _; refine ⟨by kernel_rfl, ?_⟩) | (guard_target =~ (_ ∧ _) ∧ _; refine ⟨by ((repeat (first | exact trivial | refine ⟨rfl, ?_⟩)); (first | done | fail)), ?_⟩) | (refine ⟨by omega, ?_⟩) | (refine ⟨by (simp only [size_sfrom, ByteArray.size_extract, ByteArray.size_append, strOf_size, fixedL_length, lit_size, List.size_toArray, List.length_cons, List.length_nil, List.length_append, List.length_replicate]; omega), ?_⟩) | (refine ⟨0, rfl, ?_⟩) | (refine ⟨1, rfl, ?_⟩) | (refine ⟨2, rfl, ?_⟩) | (refine ⟨3, rfl, ?_⟩) | (refine ⟨4, rfl, ?_⟩) | (refine ⟨5, rfl, ?_⟩) | (refine cell_at1 (by assumption) ?_) | (refine cell_in1 (by omega) (fun x hx => ?_)) | fail)) <;> (try (conv => whnf))
  all_goals first
    | (guard_hyp hb : ¬ e1 = 0; (refine Ends.go ((⟨e1, k1, q1, E, c⟩ : LsR)) ?_ [(31, some 1)] (Fit.q cvRefWrite1 (by rfl) (by rfl))); exact ⟨drop_1 hb1 hb, hq1, fun _ h => h, hO.le⟩)
    | (guard_hyp hno : findF (filesR E) s = none; first | (exfalso; omega) | ((refine Ends.go ((⟨14, k1, q1, E, c⟩ : LsR)) ?_ [(31, some 1)] (Fit.q cvRefWrite1 (by rfl) (by rfl))); exact ⟨drop_2 hb1 ‹e1 = 0› hno, hq1, fun _ h => h, hO.le⟩))
    | (guard_hyp hc2 : _ ≤ c2; (refine Ends.go ((⟨0, k1, q1, goneL E p, c2⟩ : LsR)) ?_ [(31, some 38)] (Fit.q cvRefWrite1 (by rfl) (by rfl))); exact ⟨drop_3 hb1 ‹e1 = 0› hO.fs.sorted hx hnx, hq1, fun e he => gone_sub he, hc2⟩)
    | trace_state
/-! One file is put in another's place. -/
def rowP (E : List RF) (p : Nat) (vs : List Value) : List Value := (E.take p).flatMap fileR ++ (vs ++ (E.drop (p + 1)).flatMap fileR)
theorem row_same {E : List RF} {p : Nat} {x : RF} (hx : E[p]? = some x) : E.flatMap fileR = rowP E p (fileR x) := by
  have : E = E.take p ++ x :: E.drop (p + 1) := by rw [← drop_at hx, List.take_append_drop]
  conv => lhs; rw [this]
  unfold rowP
  rw [List.flatMap_append, List.flatMap_cons]
theorem row_set {E : List RF} {p : Nat} (hp : p < E.length) (y : RF) : rowP E p (fileR y) = (E.set p y).flatMap fileR := by
  rw [row_same (E := E.set p y) (p := p) (x := y) (by rw [List.getElem?_set_self hp])]
  unfold rowP
  rw [List.take_set_of_le (Nat.le_refl _), List.drop_set_of_lt (by omega)]
theorem putL_app : ∀ {a b : List Value} {vs : List Value} (o : Nat), o = a.length → putL (a ++ b) o vs = a ++ putL b 0 vs
  | [], b, vs, o, h => by subst h; rfl
  | x :: a, b, [], o, h => rfl
  | x :: a, b, v :: vs, o, h => by
    have key : ∀ (vs : List Value) (l : List Value) (o : Nat) (y : Value), putL (y :: l) (o + 1) vs = y :: putL l o vs := by
      intro vs
      induction vs with
      | nil => intro l o y; rfl
      | cons v vs ih => intro l o y; show putL ((y :: l).set (o + 1) v) (o + 1 + 1) vs = y :: putL (l.set o v) (o + 1) vs; rw [List.set_cons_succ, ih]
    subst h
    rw [List.length_cons, List.cons_append, key, putL_app (a := a) a.length rfl]
    rfl
theorem putL_all : ∀ {vs b c : List Value}, vs.length = b.length → putL (b ++ c) 0 vs = vs ++ c
  | [], [], c, _ => rfl
  | v :: vs, x :: b, c, h => by
    have key : ∀ (vs : List Value) (l : List Value) (o : Nat) (y : Value), putL (y :: l) (o + 1) vs = y :: putL l o vs := by
      intro vs
      induction vs with
      | nil => intro l o y; rfl
      | cons v vs ih => intro l o y; show putL ((y :: l).set (o + 1) v) (o + 1 + 1) vs = y :: putL (l.set o v) (o + 1) vs; rw [List.set_cons_succ, ih]
    show putL ((x :: b ++ c).set 0 v) (0 + 1) vs = _
    rw [List.cons_append, List.set_cons_zero, key, putL_all (by simpa using h)]
    rfl
theorem put_rf {E : List RF} {p : Nat} (hp : p < E.length) {vs : List Value} (hl : vs.length = 5) : putL (E.flatMap fileR) (0 + p * 5) vs = rowP E p vs := by
  obtain ⟨x, hx⟩ : ∃ x, E[p]? = some x := ⟨_, List.getElem?_eq_getElem hp⟩
  rw [row_same hx]
  unfold rowP
  rw [putL_app _ (by rw [len_cells fileR 5 (fun _ => rfl), List.length_take]; omega), putL_all hl]
theorem cov_row {np : Nat} {L : IdMap} {E : List RF} {p : Nat} (hp : p < E.length) {vs0 vs : List Value} (h : LR (cov1 np L) vs0 vs) (hl : vs.length = 5) : covL np L (rowP E p vs0) (putL (E.flatMap fileR) (0 + p * 5) vs) := by
  rw [put_rf hp hl]
  exact .inr ((cov_rfs _).append (h.append (cov_rfs _)))
theorem row_le {E : List RF} {p : Nat} (hp : p < E.length) : 0 + p * 5 + 5 ≤ (E.flatMap fileR).length := by rw [len_cells fileR 5 (fun _ => rfl)]; omega
theorem bools_rep (n : Nat) : (List.replicate n [Value.bool false]).flatten = (List.replicate n false).map .bool := by
  induction n with
  | zero => rfl
  | succ n ih => rw [List.replicate_succ, List.flatten_cons, ih, List.replicate_succ, List.map_cons]; rfl
theorem safe_now (l : List Cv) : (l.map some).flatMap cellS = l.flatMap cellN := by
  induction l with
  | nil => rfl
  | cons c l ih => rw [List.map_cons, List.flatMap_cons, List.flatMap_cons, ih, cellS_some]
theorem one_flat {l : List Value} (h : ∀ v ∈ l, v.oneCell' = true) : oneAll l = true := by unfold oneAll; rw [List.all_eq_true]; exact h
theorem one_now (l : List Cv) : oneAll (l.flatMap cellN) = true := one_flat fun v hv => by
  obtain ⟨c, _, h⟩ := List.mem_flatMap.1 hv
  simp only [cellN, List.mem_cons, List.not_mem_nil, or_false] at h
  rcases h with rfl | rfl | rfl <;> rfl
theorem one_safe (l : List (Option Cv)) : oneAll (l.flatMap cellS) = true := one_flat fun v hv => by
  obtain ⟨c, _, h⟩ := List.mem_flatMap.1 hv
  simp only [cellS, List.mem_cons, List.not_mem_nil, or_false] at h
  rcases h with rfl | rfl | rfl <;> rfl
theorem one_bool (l : List Bool) : oneAll (l.map .bool) = true := one_flat fun v hv => by obtain ⟨b, _, rfl⟩ := List.mem_map.1 hv; rfl
section
variable {h : HP} {i : Nat} {S : Nat → Prop} {E : List RF} (e : lkH h i = some (fzI S E)) {x : RF} (hx : ∀ w, FzP S E w → FzOk S w x)
include e hx
theorem src_now0 : RigSrc h 3 (rs x.a x.X.now.length x.ka) x.X.now.length (x.X.now.flatMap cellN) := by
  have := src_now e hx (Nat.le_refl _)
  rwa [List.take_length] at this
theorem src_safe0 : RigSrc h 3 (rs x.b x.X.safe.length x.kb) x.X.safe.length (x.X.safe.flatMap cellS) := by
  have := src_safe e hx (Nat.le_refl _)
  rwa [List.take_length] at this
theorem src_wait0 : RigSrc h 1 (rs x.c x.X.wait.length x.kc) x.X.wait.length (x.X.wait.map .bool) := by
  have := src_wait e hx (Nat.le_refl _)
  rwa [List.take_length] at this
end
/-! A file is synced. -/
structure SyR where
  k : Dk
  q : RK
  p : Nat
  x : RF
  kb : Nat
  kc : Nat
abbrev syV (z : SyR) : List Value := [.string z.x.nm, rs z.x.a z.x.X.now.length z.x.ka, mslice 32 z.x.X.now.length z.kb, mslice 33 z.x.X.now.length z.kc, .bool true]
abbrev syH (E : List RF) (c : Nat) (S : Nat → Prop) : LsR ⊕ SyR → HP
  | .inl z => lsH E S z
  | .inr z => [(0, .own 87 (rdv 31 E.length c z.k z.q)), (31, .lst 91 5 c (rowP E z.p (syV z))), (2, fzI S E), (32, .lst 93 3 z.kb (z.x.X.now.flatMap cellN)), (33, .lst 4 1 z.kc ((List.replicate z.x.X.now.length false).map .bool))]
abbrev syE : LsR ⊕ SyR → Int
  | .inl z => z.e
  | .inr _ => 0
def SyOk (k : Dk) (E : List RF) (c : Nat) (s : ByteArray) : LsR ⊕ SyR → Prop
  | .inl z => ((z.e, ⟨z.k, filesR z.E⟩) = syncD ⟨k, filesR E⟩ s ∧ z.e ≠ 0) ∧ z.q.Ok z.k ∧ z.E = E ∧ z.c = c
  | .inr z => (0, z.k) = begS k s true ∧ z.q.Ok z.k ∧ E[z.p]? = some z.x ∧ z.x.nm = s ∧ z.x.X.now.length ≤ z.kb ∧ z.x.X.now.length ≤ z.kc
theorem sync_1 {k k' : Dk} {E : List RF} {s : ByteArray} {e : Int} (h : (e, k') = begS k s true) (he : ¬ e = 0) : (e, (⟨k', filesR E⟩ : DM)) = syncD ⟨k, filesR E⟩ s := by
  unfold syncD foundD
  dsimp only
  rw [← h]
  dsimp only
  rw [if_pos he, if_pos he]
theorem sync_2 {k k' : Dk} {E : List RF} {s : ByteArray} {e : Int} (h : (e, k') = begS k s true) (he : e = 0) (hn : findF (filesR E) s = none) : (14, (⟨k', filesR E⟩ : DM)) = syncD ⟨k, filesR E⟩ s := by
  unfold syncD foundD
  dsimp only
  rw [← h, hn]
  subst he
  rfl
theorem cvRefWrite3 {p : Prop} (h : p := by have nw := True.intro; (repeat' (first | exact True.intro | (with_reducible exact rfl) | (with_reducible exact AbsLe.refl) | (guard_target =~ @Eq Nat _ _; first | exact rfl | omega) | (guard_target =~ List.map _ _ = []; exact rfl) | (first | (guard_target =~ @Eq Nat _ _; (try dsimp only); omega) | (guard_target =~ covL _ _ (rowP _ _ _) _; refine cov_row hpl ?_ rfl; (try clear nw) <;> have nw := True.intro) | exact covL_of (by rw [List.nil_append]) (fun v hv => cells_flat hv) | exact covL_of (bools_rep _) (fun v hv => bools_flat hv) | exact covL_still rfl (files_still _) | exact congrArg (Value.int _) (by (try dsimp only); omega) | (guard_target =~ @Eq Value _ _; exact rfl)) | (exact congrArg (Value.int _) (by omega)) | (exact covL_flat (flat_map (fun _ => rfl) _)) | (exact covL_flat flat_nil) | (refine covP_all ?_; (try clear nw); have nw := True.intro) | (refine covL_each ?_; (try clear nw); have nw := True.intro) | (refine ⟨?_, ?_⟩ <;> (try clear nw) <;> have nw := True.intro) | (guard_hyp nw : True; ((conv => whnf) <;> clear nw)))); (first | done | fail)) : p := h
set_option maxRecDepth 100000 in
theorem rsync_o (E : List RF) (c : Nat) (k : Dk) (q : RK) (S : Nat → Prop) (s : ByteArray) (hO : OpR k q E c) :
    CallOb Try.prog 52 [ptr 0, .string s] (opH 1 c k q E S) 3 (fun v hh m => ∃ z : LsR ⊕ SyR, SyOk k E c s z ∧ v = iv (syE z) ∧ hh = syH E c S z ∧ m = 60) := by
  refine call_spec tabOk mixed Try.call52 Try.func52 rfl [] (SyOk k E c s) (fun z => iv (syE z)) (fun z => syH E c S z) (fun _ => 60) ?_ ?_
  · exact (Nat.le_of_ble_eq_true rfl)
  dsimp only [opH, rdv]
  (repeat' ((try (conv => whnf)); first | (guard_target =~ ∃ (_ : Value), ∃ (_ : HP), ∃ (_ : HP), _; refine ⟨_, _, _, rnRefWrite2, ?_⟩; (try (dsimp only [Nat.reduceAdd, List.cons_append, List.nil_append]))) | (guard_target =~ CallOb _ 72 _ _ _ _; refine call_q (rbegin_c E.length c k q s false (E.flatMap fileR) (files_still E) hO.fit hO.rk) [(0, some 0), (1, some 1)] cvRefWrite1 (by rfl) (by rfl) (by rfl) (fun v h1 n1 hp => ?_); obtain ⟨⟨e1, k1, q1⟩, ⟨hb1, hq1⟩, rfl, rfl, rfl⟩ := hp; dsimp only at hb1 hq1; simp only [Bool.not_false] at hb1; (try (dsimp only [Nat.reduceAdd, List.cons_append, List.nil_append]))) | (guard_target =~ CallOb _ 60 _ _ _ _; refine call_q (rplace_c E c k1 q1 s hO.len) [(0, some 0), (1, some 1)] cvRefWrite1 (by rfl) (by rfl) (by rfl) (fun v h1 n1 hp => ?_); obtain ⟨z, hz, rfl, rfl, rfl⟩ := hp; obtain ⟨zv, hzv⟩ : ∃ y : Int, y = z := ⟨z, rfl⟩; rcases hz with ⟨hzn, hz⟩ | ⟨p, x, hx, hnx, hzp⟩; all_goals (rw [← hzv]); all_goals (first | (have hno := place_none hz) | (have hxm := List.mem_of_getElem? hx; have hpl := (List.getElem?_eq_some_iff.1 hx).1; have hfd := place_some hO.fs.sorted hx hnx; have hcx := hO.cap x hxm; have hxo := hO.ok hxm; have hxl := hxo.len; have hka := hcx.a.le; have hkb := hcx.b.le; have hkc := hcx.c.le; have hxs := hxo.safe; have hxw := hxo.wait)); all_goals (try (dsimp only [Nat.reduceAdd, List.cons_append, List.nil_append]))) | (guard_target =~ CallOb _ 75 _ _ _ _; (with_reducible refine call_inline tabOk mixed Try.call75 Try.func75 ?_ [(4, [(0, true), (1, true), (2, true), (3, true), (4, true), (5, true), (6, true), (1007, false)])] ?_ ?_); exact rfl; exact Nat.le_of_ble_eq_true rfl) | (guard_hyp hx : E[p]? = some x; first | refine onS_in (v := rs x.a x.X.now.length x.ka) (by show (E.flatMap fileR)[0 + p * 5 + 1]? = _; exact cell_rf hx (by decide) rfl) ?_ | refine onS_in (v := fileR x) (by show subL (E.flatMap fileR) (0 + p * 5) 5 = _; exact flat_sub (fun _ => rfl) hx (by omega)) ?_) | (guard_target =~ ∃ (k : Nat), (k : Int) = zv ∧ _; refine ⟨p, by omega, ?_⟩) | (guard_target =~ ∃ _, RigSrc _ _ _ _ _ ∧ _; first | refine ⟨_, src_now0 (i := 2) (S := S) (E := E) rfl (fz_mem hxm), ?_⟩ | refine ⟨_, src_safe0 (i := 2) (S := S) (E := E) rfl (fz_mem hxm), ?_⟩ | refine ⟨_, src_wait0 (i := 2) (S := S) (E := E) rfl (fz_mem hxm), ?_⟩) | (refine chk_in (one_now _) ?_) | (refine chk_in (one_safe _) ?_) | (refine chk_in (one_bool _) ?_) | (guard_target =~ ∃ (_ : Nat), ∃ (_ : Nat), _; refine ⟨x.X.now.length, x.X.now.length, rfl, rfl, Nat.le_refl _, by omega, by omega, ?_⟩) | (refine chk_in (Nat.ble_eq_true_of_le (row_le hpl)) ?_) | (with_reducible refine chk_in (Nat.ble_eq_true_of_le (by omega)) ?_) | (with_reducible refine ifB_in ?_ ?_ <;> intro hb <;> (try simp only [decide_eq_true_eq, decide_eq_false_iff_not, Int.not_lt, Int.not_le, ne_eq, Decidable.not_not, Bool.not_eq_true', Bool.not_eq_false', gt_iff_lt, ge_iff_le] at hb) <;> (try (exfalso; omega))) | (with_reducible refine ⟨_, w64b _, ?_⟩) | (with_reducible refine ⟨_, w64 (by omega) (by omega), ?_⟩) | (with_reducible refine ⟨_, wu64 (by omega) (by omega), ?_⟩) | (with_reducible refine ⟨_, wu8 (by omega) (by omega), ?_⟩) | (with_reducible refine ⟨_, w64 (by (simp only [size_sfrom, ByteArray.size_extract, ByteArray.size_append, strOf_size, fixedL_length, lit_size, List.size_toArray, List.length_cons, List.length_nil, List.length_append, List.length_replicate]; omega)) (by (simp only [size_sfrom, ByteArray.size_extract, ByteArray.size_append, strOf_size, fixedL_length, lit_size, List.size_toArray, List.length_cons, List.length_nil, List.length_append, List.length_replicate]; omega)), ?_⟩) | (with_reducible refine ⟨_, rfl, ?_⟩) | (with_reducible refine ⟨rfl, ?_⟩) | (intro cap) | (with_reducible refine ⟨trivial, ?_⟩) | (guard_target =~ (planChk _ _ = true) ∧ _; refine ⟨by kernel_rfl, ?_⟩) | (guard_target =~ (_ ∧ _) ∧ _; refine ⟨by ((repeat (first | exact trivial | refine ⟨rfl, ?_⟩)); (first | done | fail)), ?_⟩) | (refine ⟨by omega, ?_⟩) | (refine ⟨by (simp only [size_sfrom, ByteArray.size_extract, ByteArray.size_append, strOf_size, fixedL_length, lit_size, List.size_toArray, List.length_cons, List.length_nil, List.length_append, List.length_replicate]; omega), ?_⟩) | (refine ⟨0, rfl, ?_⟩) | (refine ⟨1, rfl, ?_⟩) | (refine ⟨2, rfl, ?_⟩) | (refine ⟨3, rfl, ?_⟩) | (refine ⟨4, rfl, ?_⟩) | (refine ⟨5, rfl, ?_⟩) | (refine cell_at1 (by assumption) ?_) | (refine cell_in1 (by omega) (fun x hx => ?_)) | fail)) <;> (try (conv => whnf))
  all_goals first
    | (guard_hyp hb : ¬ e1 = 0; (refine Ends.go ((.inl ⟨e1, k1, q1, E, c⟩ : LsR ⊕ SyR)) ?_ [(31, some 1)] (Fit.q cvRefWrite3 (by rfl) (by rfl))); exact ⟨⟨sync_1 hb1 hb, hb⟩, hq1, rfl, rfl⟩)
    | (guard_hyp hno : findF (filesR E) s = none; first | (exfalso; omega) | ((refine Ends.go ((.inl ⟨14, k1, q1, E, c⟩ : LsR ⊕ SyR)) ?_ [(31, some 1)] (Fit.q cvRefWrite3 (by rfl) (by rfl))); exact ⟨⟨sync_2 hb1 ‹e1 = 0› hno, (by dsimp only; omega)⟩, hq1, rfl, rfl⟩))
    | (rename_i cn; (refine Ends.go ((.inr ⟨k1, q1, p, x, cn, x.X.now.length⟩ : LsR ⊕ SyR)) ?_ [(31, some 1), (32, some 9), (33, some 10)] (Fit.q cvRefWrite3 (by rfl) (by rfl))); exact ⟨by rw [← hb1, ‹e1 = 0›], hq1, hx, hnx, by dsimp only; omega, Nat.le_refl _⟩)
    | trace_state
/-! A file is cut. -/
structure CuR where
  k : Dk
  q : RK
  p : Nat
  x : RF
  n : Nat
  ka : Nat
  kb : Nat
  kc : Nat
abbrev cuV (z : CuR) : List Value := [.string z.x.nm, mslice 32 z.n z.ka, mslice 33 z.n z.kb, mslice 34 z.n z.kc, .bool true]
abbrev cuH (E : List RF) (c : Nat) (S : Nat → Prop) : LsR ⊕ CuR → HP
  | .inl z => lsH E S z
  | .inr z => [(0, .own 87 (rdv 31 E.length c z.k z.q)), (31, .lst 91 5 c (rowP E z.p (cuV z))), (2, fzI S E), (32, .lst 93 3 z.ka ((z.x.X.now.take z.n).flatMap cellN)), (33, .lst 93 3 z.kb ((z.x.X.safe.take z.n).flatMap cellS)), (34, .lst 4 1 z.kc ((z.x.X.wait.take z.n).map .bool))]
abbrev cuE : LsR ⊕ CuR → Int
  | .inl z => z.e
  | .inr _ => 0
def CuOk (k : Dk) (E : List RF) (c : Nat) (s : ByteArray) (n : Int) : LsR ⊕ CuR → Prop
  | .inl z => ((z.e, ⟨z.k, filesR z.E⟩) = cutD ⟨k, filesR E⟩ s n ∧ z.e ≠ 0) ∧ z.q.Ok z.k ∧ z.E = E ∧ z.c = c
  | .inr z => (0, z.k) = begS k s (decide (0 ≤ n)) ∧ z.q.Ok z.k ∧ E[z.p]? = some z.x ∧ z.x.nm = s ∧ ((z.n : Nat) : Int) = n ∧ z.n ≤ z.x.X.now.length ∧ z.n ≤ z.ka ∧ z.n ≤ z.kb ∧ z.n ≤ z.kc
theorem not_neg (n : Int) : (!decide (n < 0)) = decide (0 ≤ n) := by
  by_cases h : n < 0
  · rw [decide_eq_true h, decide_eq_false (by omega)]; rfl
  · rw [decide_eq_false h, decide_eq_true (by omega)]; rfl
theorem cut_1 {k k' : Dk} {E : List RF} {s : ByteArray} {n e : Int} (h : (e, k') = begS k s (decide (0 ≤ n))) (he : ¬ e = 0) : (e, (⟨k', filesR E⟩ : DM)) = cutD ⟨k, filesR E⟩ s n := by
  unfold cutD foundD
  dsimp only
  rw [← h]
  dsimp only
  rw [if_pos he, if_pos he]
theorem cut_2 {k k' : Dk} {E : List RF} {s : ByteArray} {n e : Int} (h : (e, k') = begS k s (decide (0 ≤ n))) (he : e = 0) (hn : findF (filesR E) s = none) : (14, (⟨k', filesR E⟩ : DM)) = cutD ⟨k, filesR E⟩ s n := by
  unfold cutD foundD
  dsimp only
  rw [← h, hn]
  subst he
  rfl
theorem cut_3 {k k' : Dk} {E : List RF} {s : ByteArray} {n e : Int} {X : Fl} (h : (e, k') = begS k s (decide (0 ≤ n))) (he : e = 0) (hn : findF (filesR E) s = some X) (hl : (X.now.length : Int) < n) : (14, (⟨k', filesR E⟩ : DM)) = cutD ⟨k, filesR E⟩ s n := by
  unfold cutD foundD
  dsimp only
  rw [← h, hn]
  subst he
  dsimp only [Option.getD_some]
  rw [if_neg (by simp), if_pos hl]
theorem beg_yes {k k' : Dk} {s : ByteArray} {e : Int} {r : Bool} (h : (e, k') = begS k s r) (he : e = 0) : goodName s = true ∧ r = true := begS_good (k := k) (by rw [← h]; dsimp only; omega)
theorem cvRefWrite4 {p : Prop} (h : p := by have nw := True.intro; (repeat' (first | exact True.intro | (with_reducible exact rfl) | (with_reducible exact AbsLe.refl) | (guard_target =~ @Eq Nat _ _; first | exact rfl | omega) | (guard_target =~ List.map _ _ = []; exact rfl) | (first | (guard_target =~ @Eq Nat _ _; (try dsimp only); omega) | (guard_target =~ covL _ _ (rowP _ _ _) _; refine cov_row hpl ?_ rfl; (try clear nw) <;> have nw := True.intro) | exact covL_of (by rw [List.nil_append]) (fun v hv => cells_flat hv) | exact covL_of (by rw [List.nil_append]) (fun v hv => safes_flat hv) | exact covL_of (by rw [List.nil_append]) (fun v hv => bools_flat hv) | exact covL_still rfl (files_still _) | exact congrArg (Value.int _) (by (try dsimp only); omega) | (guard_target =~ @Eq Value _ _; exact rfl)) | (exact congrArg (Value.int _) (by omega)) | (exact covL_flat (flat_map (fun _ => rfl) _)) | (exact covL_flat flat_nil) | (refine covP_all ?_; (try clear nw); have nw := True.intro) | (refine covL_each ?_; (try clear nw); have nw := True.intro) | (refine ⟨?_, ?_⟩ <;> (try clear nw) <;> have nw := True.intro) | (guard_hyp nw : True; ((conv => whnf) <;> clear nw)))); (first | done | fail)) : p := h
set_option maxRecDepth 100000 in
set_option maxHeartbeats 2000000 in
theorem rcut_o (E : List RF) (c : Nat) (k : Dk) (q : RK) (S : Nat → Prop) (s : ByteArray) (n : Int) (hO : OpR k q E c) :
    CallOb Try.prog 53 [ptr 0, .string s, iv n] (opH 1 c k q E S) 3 (fun v hh m => ∃ z : LsR ⊕ CuR, CuOk k E c s n z ∧ v = iv (cuE z) ∧ hh = cuH E c S z ∧ m = 60) := by
  refine call_spec tabOk mixed Try.call53 Try.func53 rfl [(12, [(0, true), (1, true), (2, true), (3, true), (4, true), (5, true), (6, true), (1007, false)])] (CuOk k E c s n) (fun z => iv (cuE z)) (fun z => cuH E c S z) (fun _ => 60) ?_ ?_
  · exact (Nat.le_of_ble_eq_true rfl)
  dsimp only [opH, rdv]
  (repeat' ((try (conv => whnf)); first | (guard_target =~ ∃ (_ : Value), ∃ (_ : HP), ∃ (_ : HP), _; refine ⟨_, _, _, rnRefWrite2, ?_⟩; (try (dsimp only [Nat.reduceAdd, List.cons_append, List.nil_append]))) | (guard_target =~ CallOb _ 72 _ _ _ _; refine call_q (rbegin_c E.length c k q s (decide (n < 0)) (E.flatMap fileR) (files_still E) hO.fit hO.rk) [(0, some 0), (1, some 1)] cvRefWrite3 (by rfl) (by rfl) (by rfl) (fun v h1 n1 hp => ?_); obtain ⟨⟨e1, k1, q1⟩, ⟨hb1, hq1⟩, rfl, rfl, rfl⟩ := hp; dsimp only at hb1 hq1; rw [not_neg] at hb1; (try (dsimp only [Nat.reduceAdd, List.cons_append, List.nil_append]))) | (guard_target =~ CallOb _ 60 _ _ _ _; refine call_q (rplace_c E c k1 q1 s hO.len) [(0, some 0), (1, some 1)] cvRefWrite1 (by rfl) (by rfl) (by rfl) (fun v h1 n1 hp => ?_); obtain ⟨z, hz, rfl, rfl, rfl⟩ := hp; obtain ⟨zv, hzv⟩ : ∃ y : Int, y = z := ⟨z, rfl⟩; rcases hz with ⟨hzn, hz⟩ | ⟨p, x, hx, hnx, hzp⟩; all_goals (rw [← hzv]); all_goals (first | (have hno := place_none hz) | (have hxm := List.mem_of_getElem? hx; have hpl := (List.getElem?_eq_some_iff.1 hx).1; have hfd := place_some hO.fs.sorted hx hnx; have hcx := hO.cap x hxm; have hxo := hO.ok hxm; have hxl := hxo.len; have hka := hcx.a.le; have hkb := hcx.b.le; have hkc := hcx.c.le; have hxs := hxo.safe; have hxw := hxo.wait)); all_goals (try (dsimp only [Nat.reduceAdd, List.cons_append, List.nil_append]))) | (guard_hyp hx : E[p]? = some x; first | refine onS_in (v := rs x.a x.X.now.length x.ka) (by show (E.flatMap fileR)[0 + p * 5 + 1]? = _; exact cell_rf hx (by decide) rfl) ?_ | refine onS_in (v := fileR x) (by show subL (E.flatMap fileR) (0 + p * 5) 5 = _; exact flat_sub (fun _ => rfl) hx (by omega)) ?_) | (guard_target =~ ∃ (k : Nat), (k : Int) = zv ∧ _; refine ⟨p, by omega, ?_⟩) | (guard_target =~ ∃ (k : Nat), (k : Int) = n ∧ _; guard_hyp hnl : nn ≤ _; refine ⟨nn, hnn, ?_⟩) | (guard_target =~ ∃ (k : Nat), (k : Int) = n ∧ _; have hn0 := of_decide_eq_true (beg_yes hb1 ‹e1 = 0›).2; obtain ⟨nn, hnn⟩ : ∃ nn : Nat, (nn : Int) = n := ⟨n.toNat, by omega⟩; have hnl : nn ≤ x.X.now.length := (by omega); refine ⟨nn, hnn, ?_⟩) | (refine ⟨(by omega : nn ≤ x.ka), plc_no hcx.a, ?_⟩) | (refine ⟨(by omega : nn ≤ x.kb), plc_no hcx.b, ?_⟩) | (refine ⟨(by omega : nn ≤ x.kc), plc_no hcx.c, ?_⟩) | (guard_target =~ ∃ _, RigSrc _ _ _ _ _ ∧ _; first | refine ⟨_, src_now (i := 2) (S := S) (E := E) rfl (fz_mem hxm) (n := nn) (by omega), ?_⟩ | refine ⟨_, src_safe (i := 2) (S := S) (E := E) rfl (fz_mem hxm) (n := nn) (by omega), ?_⟩ | refine ⟨_, src_wait (i := 2) (S := S) (E := E) rfl (fz_mem hxm) (n := nn) (by omega), ?_⟩) | (refine chk_in (one_now _) ?_) | (refine chk_in (one_safe _) ?_) | (refine chk_in (one_bool _) ?_) | (refine chk_in (Nat.ble_eq_true_of_le (row_le hpl)) ?_) | (with_reducible refine chk_in (Nat.ble_eq_true_of_le (by omega)) ?_) | (with_reducible refine ifB_in ?_ ?_ <;> intro hb <;> (try simp only [decide_eq_true_eq, decide_eq_false_iff_not, Int.not_lt, Int.not_le, ne_eq, Decidable.not_not, Bool.not_eq_true', Bool.not_eq_false', gt_iff_lt, ge_iff_le] at hb) <;> (try (exfalso; omega))) | (with_reducible refine ⟨_, w64b _, ?_⟩) | (with_reducible refine ⟨_, w64 (by omega) (by omega), ?_⟩) | (with_reducible refine ⟨_, wu64 (by omega) (by omega), ?_⟩) | (with_reducible refine ⟨_, wu8 (by omega) (by omega), ?_⟩) | (with_reducible refine ⟨_, w64 (by (simp only [size_sfrom, ByteArray.size_extract, ByteArray.size_append, strOf_size, fixedL_length, lit_size, List.size_toArray, List.length_cons, List.length_nil, List.length_append, List.length_replicate]; omega)) (by (simp only [size_sfrom, ByteArray.size_extract, ByteArray.size_append, strOf_size, fixedL_length, lit_size, List.size_toArray, List.length_cons, List.length_nil, List.length_append, List.length_replicate]; omega)), ?_⟩) | (with_reducible refine ⟨_, rfl, ?_⟩) | (with_reducible refine ⟨rfl, ?_⟩) | (intro cap) | (with_reducible refine ⟨trivial, ?_⟩) | (guard_target =~ (planChk _ _ = true) ∧ _; refine ⟨by kernel_rfl, ?_⟩) | (guard_target =~ (_ ∧ _) ∧ _; refine ⟨by ((repeat (first | exact trivial | refine ⟨rfl, ?_⟩)); (first | done | fail)), ?_⟩) | (refine ⟨by omega, ?_⟩) | (refine ⟨by (simp only [size_sfrom, ByteArray.size_extract, ByteArray.size_append, strOf_size, fixedL_length, lit_size, List.size_toArray, List.length_cons, List.length_nil, List.length_append, List.length_replicate]; omega), ?_⟩) | (refine ⟨0, rfl, ?_⟩) | (refine ⟨1, rfl, ?_⟩) | (refine ⟨2, rfl, ?_⟩) | (refine ⟨3, rfl, ?_⟩) | (refine ⟨4, rfl, ?_⟩) | (refine ⟨5, rfl, ?_⟩) | (refine cell_at1 (by assumption) ?_) | (refine cell_in1 (by omega) (fun x hx => ?_)) | fail)) <;> (try (conv => whnf))
  all_goals first
    | (guard_hyp hb : ¬ e1 = 0; (refine Ends.go ((.inl ⟨e1, k1, q1, E, c⟩ : LsR ⊕ CuR)) ?_ [(31, some 1)] (Fit.q cvRefWrite4 (by rfl) (by rfl))); exact ⟨⟨cut_1 hb1 hb, hb⟩, hq1, rfl, rfl⟩)
    | (guard_hyp hno : findF (filesR E) s = none; first | (exfalso; omega) | ((refine Ends.go ((.inl ⟨14, k1, q1, E, c⟩ : LsR ⊕ CuR)) ?_ [(31, some 1)] (Fit.q cvRefWrite4 (by rfl) (by rfl))); exact ⟨⟨cut_2 hb1 ‹e1 = 0› hno, (by dsimp only; omega)⟩, hq1, rfl, rfl⟩))
    | (guard_hyp hb : _ < n; (refine Ends.go ((.inl ⟨14, k1, q1, E, c⟩ : LsR ⊕ CuR)) ?_ [(31, some 1)] (Fit.q cvRefWrite4 (by rfl) (by rfl))); exact ⟨⟨cut_3 hb1 ‹e1 = 0› hfd hb, (by dsimp only; omega)⟩, hq1, rfl, rfl⟩)
    | (rename_i a1 g1 b1 g2 c1; (refine Ends.go ((.inr ⟨k1, q1, p, x, nn, a1, b1, c1⟩ : LsR ⊕ CuR)) ?_ [(31, some 1), (32, some 9), (33, some 11), (34, some 13)] (Fit.q cvRefWrite4 (by rfl) (by rfl))); exact ⟨by rw [← hb1, ‹e1 = 0›], hq1, hx, hnx, hnn, hnl, by dsimp only; omega, by dsimp only; omega, by dsimp only; omega⟩)
    | trace_state
end Go.Proofs.Ytdgmjjidkaafaaa
namespace Go.Proofs.Ytdgmjjidkaafaaa
open Go.RowKit
set_option linter.unusedSimpArgs false
set_option linter.unusedVariables false
theorem newR_fz (S : Nat → Prop) (w : World) (s : ByteArray) : FzOk S w (newR s) := ⟨.inl ⟨rfl, rfl, rfl⟩, .inl ⟨rfl, rfl, rfl⟩, .inl ⟨rfl, rfl, rfl⟩⟩
theorem newR_cap (s : ByteArray) : (newR s).Cap := ⟨⟨Nat.le_refl _, .inl ⟨rfl, rfl⟩⟩, ⟨Nat.le_refl _, .inl ⟨rfl, rfl⟩⟩, ⟨Nat.le_refl _, .inl ⟨rfl, rfl⟩⟩⟩
theorem put_ins {s : ByteArray} {x : Fl} : ∀ {a b : Fs}, (∀ p ∈ a, strLt p.1 s = true) → (∀ p, b.head? = some p → strLt s p.1 = true) → putF (a ++ b) s x = a ++ (s, x) :: b
  | [], [], _, _ => rfl
  | [], (t, y) :: b, _, h => put_cons_lt (h (t, y) rfl)
  | (t, y) :: a, b, h1, h2 => by
    rw [List.cons_append, put_cons_gt (h1 (t, y) (by simp)), put_ins (fun p hp => h1 p (by simp [hp])) h2]
    rfl
structure MadeF (E : List RF) (s : ByteArray) (p : Nat) (E2 : List RF) (x : RF) : Prop where
  at1 : E2[p]? = some x
  nm : x.nm = s
  X : x.X = (findF (filesR E) s).getD fl0
  fz : ∀ (S : Nat → Prop) w, FzP S E w → FzP S E2 w
  cap : ∀ e ∈ E2, e.Cap
  put : ∀ y : RF, y.nm = s → filesR (E2.set p y) = putF (filesR E) s y.X
  len : E2.length = if (findF (filesR E) s).isSome then E.length else E.length + 1
theorem made_facts {E : List RF} {s : ByteArray} {p : Nat} {E2 : List RF} (hs : Sorted (filesR E)) (hc : ∀ e ∈ E, e.Cap) (h : MadeR E s (p, E2)) : ∃ x, MadeF E s p E2 x := by
  rcases h with ⟨h1, x, hx, hn⟩ | ⟨hz, hp, h1, h2, h3⟩
  · dsimp only at h1 hx
    subst h1
    have hf := place_some hs hx hn
    have hpl := (List.getElem?_eq_some_iff.1 hx).1
    refine ⟨x, hx, hn, by rw [hf]; rfl, fun S w h => h, hc, fun y hy => ?_, by rw [hf]; rfl⟩
    have e1 := files_split hx
    rw [e1, hn] at hs
    rw [e1, hn, put_mid hs, files_split (E := E2.set p y) (p := p) (x := y) (List.getElem?_set_self hpl), List.take_set_of_le (Nat.le_refl _), List.drop_set_of_lt (by omega), hy]
  · dsimp only at hp h1 h2 h3
    subst h1
    have hf := place_none hz
    refine ⟨newR s, ins_at hp, rfl, by rw [hf]; rfl, fun S w h e he => ?_, fun e he => ?_, fun y hy => ?_, by rw [hf, ins_len hp]; rfl⟩
    · unfold insP at he
      rcases List.mem_append.1 he with he | he
      · exact h e (List.mem_of_mem_take he)
      · cases he with
        | head => exact newR_fz S w s
        | tail _ he => exact h e (List.mem_of_mem_drop he)
    · unfold insP at he
      rcases List.mem_append.1 he with he | he
      · exact hc e (List.mem_of_mem_take he)
      · cases he with
        | head => exact newR_cap s
        | tail _ he => exact hc e (List.mem_of_mem_drop he)
    · have hset : (insP E s p).set p y = E.take p ++ y :: E.drop p := by
        unfold insP
        rw [List.set_append_right _ _ (by rw [List.length_take]; omega), List.length_take, Nat.min_eq_left hp, Nat.sub_self]
        rfl
      have hsplit : filesR E = filesR (E.take p) ++ filesR (E.drop p) := by
        conv => lhs; rw [← List.take_append_drop p E]
        unfold filesR
        rw [List.map_append]
      rw [hset, hsplit, put_ins]
      · subst hy
        unfold filesR
        rw [List.map_append, List.map_cons]
      · intro q hq
        obtain ⟨e, he, rfl⟩ := List.mem_map.1 hq
        obtain ⟨j, hj⟩ := List.mem_iff_getElem?.1 he
        rw [List.getElem?_take] at hj
        split at hj
        · rename_i hjp
          have h4 := h3 j e hjp hj
          have h5 := hz e (List.mem_of_getElem? hj)
          rcases strLt_tri h5 with h6 | h6
          · exact h6
          · rw [h4] at h6; cases h6
        · cases hj
      · intro q hq
        have : (filesR (E.drop p)).head? = (E.drop p).head?.map fun e => (e.nm, e.X) := by unfold filesR; rw [List.head?_map]
        rw [this] at hq
        cases hd : (E.drop p).head? with
        | none => rw [hd] at hq; cases hq
        | some e =>
          rw [hd] at hq
          cases hq
          rw [List.head?_drop] at hd
          exact h2 e hd
structure WrR where
  k : Dk
  q : RK
  E : List RF
  c : Nat
  p : Nat
  x : RF
  ka : Nat
  kb : Nat
  kc : Nat
inductive WrX where
  | ls (z : LsR)
  | grow (z : WrR)
  | over (z : WrR)
abbrev wrH (E0 : List RF) (S : Nat → Prop) (i : Nat) (d : ByteArray) : WrX → HP
  | .ls z => lsH E0 S z
  | .grow z => [(0, .own 87 (rdv 31 z.E.length z.c z.k z.q)), (31, .lst 91 5 z.c (rowP z.E z.p [.string z.x.nm, mslice 32 (z.x.X.now.length + 1) z.ka, mslice 33 (z.x.X.safe.length + 1) z.kb, mslice 34 (z.x.X.wait.length + 1) z.kc, .bool z.x.X.sure])), (2, fzI S E0), (32, .lst 93 3 z.ka ((z.x.X.now ++ [some d]).flatMap cellN)), (33, .lst 93 3 z.kb ((z.x.X.safe ++ [none]).flatMap cellS)), (34, .lst 4 1 z.kc ((z.x.X.wait ++ [true]).map .bool))]
  | .over z => [(0, .own 87 (rdv 31 z.E.length z.c z.k z.q)), (31, .lst 91 5 z.c (rowP z.E z.p [.string z.x.nm, mslice 32 z.x.X.now.length z.ka, rs z.x.b z.x.X.safe.length z.x.kb, mslice 34 z.x.X.wait.length z.kc, .bool z.x.X.sure])), (2, fzI S E0), (32, .lst 93 3 z.ka ((z.x.X.now.set i (some d)).flatMap cellN)), (34, .lst 4 1 z.kc ((z.x.X.wait.set i true).map .bool))]
abbrev wrE : WrX → Int
  | .ls z => z.e
  | _ => 0
def WrOk (k : Dk) (E : List RF) (s : ByteArray) (i : Int) (d : ByteArray) : WrX → Prop
  | .ls z => ((z.e, ⟨z.k, filesR z.E⟩) = writeD ⟨k, filesR E⟩ s i d ∧ z.e ≠ 0) ∧ z.q.Ok z.k ∧ z.E = E ∧ z.E.length ≤ z.c
  | .grow z => (0, ⟨z.k, putF (filesR E) s (writeF z.x.X i.toNat d)⟩) = writeD ⟨k, filesR E⟩ s i d ∧ z.q.Ok z.k ∧ MadeF E s z.p z.E z.x ∧ z.E.length ≤ z.c ∧ i = (z.x.X.now.length : Nat) ∧ z.x.X.now.length + 1 ≤ z.ka ∧ z.x.X.safe.length + 1 ≤ z.kb ∧ z.x.X.wait.length + 1 ≤ z.kc
  | .over z => (0, ⟨z.k, putF (filesR E) s (writeF z.x.X i.toNat d)⟩) = writeD ⟨k, filesR E⟩ s i d ∧ z.q.Ok z.k ∧ MadeF E s z.p z.E z.x ∧ z.E.length ≤ z.c ∧ (0 ≤ i ∧ i < (z.x.X.now.length : Nat)) ∧ z.x.X.now.length ≤ z.ka ∧ z.x.X.wait.length ≤ z.kc
theorem right_t {i : Int} {d : ByteArray} (h : i < 0) : (!true) = (decide (0 ≤ i) && decide (d.size = 256)) := by rw [decide_eq_false (by omega)]; rfl
theorem right_d {i : Int} {d : ByteArray} (h : 0 ≤ i) : (!decide (((d.size : Nat) : Int) ≠ 256)) = (decide (0 ≤ i) && decide (d.size = 256)) := by
  rw [decide_eq_true h, Bool.true_and]
  by_cases hd : d.size = 256
  · rw [decide_eq_true hd, decide_eq_false (by omega)]; rfl
  · rw [decide_eq_false hd, decide_eq_true (by omega)]; rfl
theorem len_n1 {l : List Cv} : (([] : List Value) ++ l.flatMap cellN).length = (0 + l.length) * 3 := by rw [List.nil_append, len_cells cellN 3 (fun _ => rfl), Nat.zero_add]
theorem len_n2 {l : List Cv} {o : List Value} (h : o.length = 3) : ((([] : List Value) ++ l.flatMap cellN) ++ o).length = (0 + l.length + 1) * 3 := by rw [List.length_append, len_n1, h]; omega
theorem len_s1 {l : List (Option Cv)} : (([] : List Value) ++ l.flatMap cellS).length = (0 + l.length) * 3 := by rw [List.nil_append, len_cells cellS 3 (fun _ => rfl), Nat.zero_add]
theorem len_w1 {l : List Bool} : (([] : List Value) ++ l.map Value.bool).length = (0 + l.length) * 1 := by rw [List.nil_append, List.length_map, Nat.zero_add, Nat.mul_one]
theorem len_w2 {l : List Bool} {o : List Value} (h : o.length = 1) : ((([] : List Value) ++ l.map Value.bool) ++ o).length = (0 + l.length + 1) * 1 := by rw [List.length_append, len_w1, h]; omega
theorem filesR_len {E : List RF} : (filesR E).length = E.length := List.length_map _
theorem st_n1 {l : List Cv} {j : Nat} (h : j < l.length) : 0 + j * 3 + 3 ≤ (([] : List Value) ++ l.flatMap cellN).length := by rw [len_n1]; omega
theorem st_n2 {l : List Cv} {j : Nat} {o : List Value} (h : j ≤ l.length) (ho : o.length = 3) : 0 + j * 3 + 3 ≤ (([] : List Value) ++ ((([] : List Value) ++ l.flatMap cellN) ++ o)).length := by rw [List.nil_append, len_n2 ho]; omega
theorem st_w1 {l : List Bool} {j : Nat} (h : j < l.length) : Nat.blt (0 + j * 1) (([] : List Value) ++ l.map Value.bool).length = true := Nat.ble_eq_true_of_le (by rw [len_w1]; omega)
theorem st_w2 {l : List Bool} {j : Nat} {o : List Value} (h : j ≤ l.length) (ho : o.length = 1) : Nat.blt (0 + j * 1) (([] : List Value) ++ ((([] : List Value) ++ l.map Value.bool) ++ o)).length = true := Nat.ble_eq_true_of_le (by rw [List.nil_append, len_w2 ho]; omega)
section
variable {k k' : Dk} {E : List RF} {s d : ByteArray} {i e : Int}
theorem write_1 (h : (e, k') = begS k s (decide (0 ≤ i) && decide (d.size = 256))) (he : ¬ e = 0) : (e, (⟨k', filesR E⟩ : DM)) = writeD ⟨k, filesR E⟩ s i d := by
  have h14 := begS_not14 k s (decide (0 ≤ i) && decide (d.size = 256))
  rw [← h] at h14
  unfold writeD foundD
  dsimp only
  rw [← h]
  dsimp only at h14 ⊢
  rw [if_pos he, if_pos ⟨he, .inl h14⟩]
theorem write_eq (h : (e, k') = begS k s (decide (0 ≤ i) && decide (d.size = 256))) (he : e = 0) :
    writeD ⟨k, filesR E⟩ s i d = if (((findF (filesR E) s).getD fl0).now.length : Int) < i then (14, ⟨k', filesR E⟩)
      else if (findF (filesR E) s = none ∧ 8 ≤ (filesR E).length) ∨ (i = (((findF (filesR E) s).getD fl0).now.length : Nat) ∧ k'.room ≤ total (filesR E)) then (12, ⟨k', filesR E⟩)
      else (0, ⟨k', putF (filesR E) s (writeF ((findF (filesR E) s).getD fl0) i.toNat d)⟩) := by
  unfold writeD foundD
  dsimp only
  rw [← h]
  subst he
  dsimp only
  rw [if_neg (show ¬ ((0 : Int) ≠ 0) by simp)]
  cases hf : findF (filesR E) s with
  | none =>
    dsimp only [Option.isSome_none, Option.getD_none]
    simp only [Bool.false_eq_true, if_false, true_and]
    by_cases hi : ((fl0.now.length : Nat) : Int) < i
    · rw [if_pos ⟨by decide, .inr (by have : fl0.now.length = 0 := rfl; omega)⟩, if_pos hi]
    · rw [if_neg (fun x => x.2.elim (fun y => y rfl) (fun y => hi (by have : fl0.now.length = 0 := rfl; omega))), if_neg hi]
  | some X =>
    dsimp only [Option.isSome_some, Option.getD_some]
    simp only [if_true, ne_eq, not_true, false_and, if_false]
    by_cases hi : ((X.now.length : Nat) : Int) < i
    · rw [if_pos hi, if_pos hi]
    · rw [if_neg hi, if_neg hi]
      by_cases hc : i = (X.now.length : Nat) ∧ k'.room ≤ total (filesR E)
      · rw [if_pos (.inr hc), if_pos (.inr hc)]
      · rw [if_neg (fun x => x.elim (fun y => by simp at y) hc), if_neg (fun x => x.elim (fun y => by simp at y) hc)]
theorem write_14 {X : Fl} (h : (e, k') = begS k s (decide (0 ≤ i) && decide (d.size = 256))) (he : e = 0) (hX : (findF (filesR E) s).getD fl0 = X) (hl : (X.now.length : Int) < i) : (14, (⟨k', filesR E⟩ : DM)) = writeD ⟨k, filesR E⟩ s i d := by
  rw [write_eq h he, hX, if_pos hl]
theorem write_12 {X : Fl} (h : (e, k') = begS k s (decide (0 ≤ i) && decide (d.size = 256))) (he : e = 0) (hX : (findF (filesR E) s).getD fl0 = X) (hl : ¬ (X.now.length : Int) < i) (hc : (findF (filesR E) s = none ∧ 8 ≤ (filesR E).length) ∨ (i = (X.now.length : Nat) ∧ k'.room ≤ total (filesR E))) : (12, (⟨k', filesR E⟩ : DM)) = writeD ⟨k, filesR E⟩ s i d := by
  rw [write_eq h he, hX, if_neg hl, if_pos hc]
theorem write_0 {X : Fl} (h : (e, k') = begS k s (decide (0 ≤ i) && decide (d.size = 256))) (he : e = 0) (hX : (findF (filesR E) s).getD fl0 = X) (hl : ¬ (X.now.length : Int) < i) (hc : ¬ ((findF (filesR E) s = none ∧ 8 ≤ (filesR E).length) ∨ (i = (X.now.length : Nat) ∧ k'.room ≤ total (filesR E)))) : (0, (⟨k', putF (filesR E) s (writeF X i.toNat d)⟩ : DM)) = writeD ⟨k, filesR E⟩ s i d := by
  rw [write_eq h he, hX, if_neg hl, if_neg hc]
end
/-! Lists behind stores. -/
theorem put_cells {α : Type} (f : α → List Value) (z : Nat) (hf : ∀ a, (f a).length = z) : ∀ (l : List α) (j : Nat) (a : α), j < l.length → putL (l.flatMap f) (j * z) (f a) = (l.set j a).flatMap f
  | x :: l, 0, a, _ => by
    rw [Nat.zero_mul, List.flatMap_cons, putL_all (by rw [hf, hf]), List.set_cons_zero, List.flatMap_cons]
  | x :: l, j + 1, a, h => by
    rw [List.flatMap_cons, List.set_cons_succ, List.flatMap_cons, ← put_cells f z hf l j a (by simpa using h)]
    have key : ∀ (b c vs : List Value) (o : Nat), putL (b ++ c) (b.length + o) vs = b ++ putL c o vs := by
      intro b
      induction b with
      | nil => intro c vs o; rw [List.length_nil, Nat.zero_add]; rfl
      | cons y b ih =>
        intro c vs
        induction vs generalizing c with
        | nil => intro o; rfl
        | cons v vs ih2 =>
          intro o
          show putL ((y :: b ++ c).set ((y :: b).length + o) v) ((y :: b).length + o + 1) vs = _
          rw [List.set_append_right _ _ (by omega), show (y :: b).length + o - (y :: b).length = o by omega, Nat.add_assoc, ih2]
          rfl
    rw [show (j + 1) * z = (f x).length + j * z by rw [hf, Nat.add_mul, Nat.one_mul]; omega, key]
theorem put_grow {α : Type} (f : α → List Value) (z : Nat) (hf : ∀ a, (f a).length = z) (l : List α) (a : α) (old : List Value) (ho : old.length = z) : putL (l.flatMap f ++ old) (l.length * z) (f a) = (l ++ [a]).flatMap f := by
  rw [putL_app _ (by rw [len_cells f z hf])]
  have := putL_all (vs := f a) (b := old) (c := []) (by rw [hf, ho])
  rw [List.append_nil, List.append_nil] at this
  rw [this, List.flatMap_append, List.flatMap_cons, List.flatMap_nil, List.append_nil]
theorem now_grow {l : List Cv} {d : ByteArray} {j : Nat} (hj : j = l.length) : putL ([] ++ (([] ++ l.flatMap cellN) ++ [.bool false, .string ⟨#[]⟩, .bool false])) (0 + j * 3) [.bool true, .string d, .bool false] = (l ++ [some d]).flatMap cellN := by
  subst hj
  rw [List.nil_append, List.nil_append, Nat.zero_add]
  exact put_grow cellN 3 (fun _ => rfl) l (some d) _ rfl
theorem now_over {l : List Cv} {d : ByteArray} {j : Nat} (hj : j < l.length) : putL ([] ++ l.flatMap cellN) (0 + j * 3) [.bool true, .string d, .bool false] = (l.set j (some d)).flatMap cellN := by
  rw [List.nil_append, Nat.zero_add]
  exact put_cells cellN 3 (fun _ => rfl) l j (some d) hj
theorem safe_grow {l : List (Option Cv)} : ([] ++ l.flatMap cellS) ++ [.bool false, .string ⟨#[]⟩, .bool false] = (l ++ [none]).flatMap cellS := by
  rw [List.nil_append, List.flatMap_append, List.flatMap_cons, List.flatMap_nil, List.append_nil]
  rfl
theorem bool_one (l : List Bool) : l.map Value.bool = l.flatMap (fun b => [Value.bool b]) := by
  induction l with
  | nil => rfl
  | cons b l ih => rw [List.map_cons, ih, List.flatMap_cons]; rfl
theorem wait_grow {l : List Bool} {j : Nat} (hj : j = l.length) : putL ([] ++ (([] ++ l.map Value.bool) ++ [.bool false])) (0 + j * 1) [.bool true] = (l ++ [true]).map Value.bool := by
  subst hj
  rw [List.nil_append, List.nil_append, Nat.zero_add, bool_one, bool_one]
  exact put_grow (fun b => [Value.bool b]) 1 (fun _ => rfl) l true _ rfl
theorem wait_over {l : List Bool} {j : Nat} (hj : j < l.length) : putL ([] ++ l.map Value.bool) (0 + j * 1) [.bool true] = (l.set j true).map Value.bool := by
  rw [List.nil_append, Nat.zero_add, bool_one, bool_one]
  exact put_cells (fun b => [Value.bool b]) 1 (fun _ => rfl) l j true hj
theorem sub_all {l : List Value} {n : Nat} (h : l.length = n) : subL l 0 n = some l := subL_in (by rw [List.drop_zero, List.take_of_length_le (by omega)]) h (fun _ => Nat.zero_le _)
theorem one_app {a b : List Value} (ha : oneAll a = true) (hb : oneAll b = true) : oneAll (a ++ b) = true := by unfold oneAll at *; rw [List.all_append, ha, hb]; rfl
attribute [local irreducible] bytesOf strOf strEq strLt sfrom begS goodName readD writeD syncD cutD dropD
theorem cvRefWrite5 {p : Prop} (h : p := by have nw := True.intro; (repeat' (first | exact True.intro | (with_reducible exact rfl) | (with_reducible exact AbsLe.refl) | (guard_target =~ @Eq Nat _ _; first | exact rfl | omega) | (guard_target =~ List.map _ _ = []; exact rfl) | (first | (guard_target =~ @Eq Nat _ _; (try dsimp only); omega) | (guard_target =~ covL _ _ (rowP _ _ _) _; refine cov_row hpl ?_ rfl; (try clear nw) <;> have nw := True.intro) | exact covL_of (now_grow hil) (fun v hv => cells_flat hv) | exact covL_of (now_over hil) (fun v hv => cells_flat hv) | exact covL_of safe_grow (fun v hv => safes_flat hv) | exact covL_of (wait_grow (by omega)) (fun v hv => bools_flat hv) | exact covL_of (wait_over (by omega)) (fun v hv => bools_flat hv) | exact covL_still rfl (files_still _) | exact congrArg (Value.int _) (by (try dsimp only); omega) | (guard_target =~ @Eq Value _ _; exact rfl)) | (exact congrArg (Value.int _) (by omega)) | (exact covL_flat (flat_map (fun _ => rfl) _)) | (exact covL_flat flat_nil) | (refine covP_all ?_; (try clear nw); have nw := True.intro) | (refine covL_each ?_; (try clear nw); have nw := True.intro) | (refine ⟨?_, ?_⟩ <;> (try clear nw) <;> have nw := True.intro) | (guard_hyp nw : True; ((conv => whnf) <;> clear nw)))); (first | done | fail)) : p := h
set_option maxRecDepth 100000 in
set_option maxHeartbeats 4000000 in
theorem rwrite_o (E : List RF) (c : Nat) (k : Dk) (q : RK) (S : Nat → Prop) (s : ByteArray) (i : Int) (d : ByteArray) (hO : OpR k q E c) :
    CallOb Try.prog 51 [ptr 0, .string s, iv i, .string d] (opH 1 c k q E S) 3 (fun v hh m => ∃ z : WrX, WrOk k E s i d z ∧ v = iv (wrE z) ∧ hh = wrH E S i.toNat d z ∧ m = 100) := by
  refine call_spec tabOk mixed Try.call51 Try.func51 rfl [(10, [(0, true), (1, true), (2, true), (3, true), (4, true), (5, true), (6, true), (7, true), (8, true), (9, true), (10, true), (11, true), (12, true), (13, true), (14, true), (15, true), (17, true), (18, true), (19, true), (20, true), (16, false), (21, true), (22, true), (23, true)]), (23, [(0, true), (1, true), (2, true), (3, true), (4, true), (5, true), (6, true), (1007, false)])] (WrOk k E s i d) (fun z => iv (wrE z)) (fun z => wrH E S i.toNat d z) (fun _ => 100) ?_ ?_
  · exact (Nat.le_of_ble_eq_true rfl)
  dsimp only [opH, rdv]
  (repeat' ((try (conv => whnf)); first | (guard_target =~ ∃ (_ : Value), ∃ (_ : HP), ∃ (_ : HP), _; refine ⟨_, _, _, rnRefWrite2, ?_⟩; (try (dsimp only [Nat.reduceAdd, List.cons_append, List.nil_append]))) | (guard_target =~ CallOb _ 72 _ _ _ _; first | (guard_hyp hb : i < 0; refine call_q (rbegin_c E.length c k q s true (E.flatMap fileR) (files_still E) hO.fit hO.rk) [(0, some 0), (1, some 1)] cvRefWrite5 (by rfl) (by rfl) (by rfl) (fun v h1 n1 hp => ?_); obtain ⟨⟨e1, k1, q1⟩, ⟨hb1, hq1⟩, rfl, rfl, rfl⟩ := hp; dsimp only at hb1 hq1; have hne : e1 ≠ 0 := fun h => absurd (beg_yes hb1 h).2 (by decide); rw [right_t (i := i) (d := d) hb] at hb1) | (refine call_q (rbegin_c E.length c k q s (decide (((d.size : Nat) : Int) ≠ 256)) (E.flatMap fileR) (files_still E) hO.fit hO.rk) [(0, some 0), (1, some 1)] cvRefWrite5 (by rfl) (by rfl) (by rfl) (fun v h1 n1 hp => ?_); obtain ⟨⟨e1, k1, q1⟩, ⟨hb1, hq1⟩, rfl, rfl, rfl⟩ := hp; dsimp only at hb1 hq1; rw [right_d (i := i) (d := d) (by omega)] at hb1); (try (dsimp only [Nat.reduceAdd, List.cons_append, List.nil_append]))) | (guard_target =~ CallOb _ 60 _ _ _ _; refine call_q (rplace_c E c k1 q1 s hO.len) [(0, some 0), (1, some 1)] cvRefWrite5 (by rfl) (by rfl) (by rfl) (fun v h1 n1 hp => ?_); obtain ⟨z, hz, rfl, rfl, rfl⟩ := hp; obtain ⟨zv, hzv⟩ : ∃ y : Int, y = z := ⟨z, rfl⟩; have hlen := hO.len; rcases hz with ⟨hzn, hz⟩ | ⟨p, x, hx, hnx, hzp⟩; all_goals (rw [← hzv]); all_goals (first | (have hno := place_none hz) | (have hxm := List.mem_of_getElem? hx; have hfd := place_some hO.fs.sorted hx hnx; have hxl := (hO.ok hxm).len)); all_goals (try (dsimp only [Nat.reduceAdd, List.cons_append, List.nil_append]))) | (guard_hyp hx : E[p]? = some x; refine onS_in (v := rs x.a x.X.now.length x.ka) (by show (E.flatMap fileR)[0 + p * 5 + 1]? = _; exact cell_rf hx (by decide) rfl) ?_) | (guard_target =~ ∃ (k : Nat), (k : Int) = zv ∧ _; refine ⟨p, by omega, (List.getElem?_eq_some_iff.1 hx).1, ?_⟩) | (guard_target =~ CallOb _ 73 _ _ _ _; refine call_q (rtotal_c E c k1 q1 hO.len (fun e he => (hO.ok he).len)) [(0, some 0), (1, some 1)] cvRefWrite5 (by rfl) (by rfl) (by rfl) (fun v h1 n1 hp => ?_); obtain ⟨tv, htv, rfl, rfl, rfl⟩ := hp; (try (dsimp only [Nat.reduceAdd, List.cons_append, List.nil_append]))) | (guard_target =~ CallOb _ 74 _ _ _ _; refine call_q (rmade_c E c k1 q1 s hO.len hO.le) [(0, some 0), (1, some 1)] cvRefWrite5 (by rfl) (by rfl) (by rfl) (fun v h1 n1 hp => ?_); obtain ⟨⟨⟨p2, E2⟩, c2⟩, ⟨hm2, hc2⟩, rfl, rfl, rfl⟩ := hp; dsimp only at hm2 hc2; obtain ⟨y, hy⟩ := made_facts hO.fs.sorted hO.cap hm2; have hpl := (List.getElem?_eq_some_iff.1 hy.at1).1; have hym := List.mem_of_getElem? hy.at1; have hcy := hy.cap y hym; have hyo : y.X.Ok := (by rw [hy.X]; exact get_ok hO.fs s); have hyl := hyo.len; have hys := hyo.safe; have hyw := hyo.wait; have hyX := hy.X; (first | (rw [hno] at hyX; have hsz : y.X.now.length = 0 := (by rw [hyX]; rfl)) | (rw [hfd] at hyX; have hsz : y.X.now.length = x.X.now.length := (by rw [hyX]; rfl))); have hfy : ∀ w, FzP S E w → FzOk S w y := (fun w h => hy.fz S w h y hym); have mkR : 1 = 1 := rfl; (try (dsimp only [Nat.reduceAdd, List.cons_append, List.nil_append]))) | (guard_hyp mkR : 1 = 1; refine onS_in (v := fileR y) (by show subL (E2.flatMap fileR) (0 + p2 * 5) 5 = _; exact flat_sub (fun _ => rfl) hy.at1 (by omega)) ?_; clear mkR) | (guard_target =~ ∃ (k : Nat), (k : Int) = ((p2 : Nat) : Int) ∧ _; refine ⟨p2, rfl, ?_⟩) | (guard_target =~ ∃ (k : Nat), (k : Int) = i ∧ _; refine ⟨i.toNat, by omega, ?_⟩) | (guard_target =~ ∃ _, RigSrc _ _ _ _ _ ∧ _; first | refine ⟨_, src_now0 (i := 2) (S := S) (E := E) rfl hfy, ?_⟩ | refine ⟨_, src_safe0 (i := 2) (S := S) (E := E) rfl hfy, ?_⟩ | refine ⟨_, src_wait0 (i := 2) (S := S) (E := E) rfl hfy, ?_⟩) | (refine chk_in (one_now _) ?_) | (refine chk_in (one_safe _) ?_) | (refine chk_in (one_bool _) ?_) | (refine ⟨len_n1, ?_⟩) | (refine ⟨len_s1, ?_⟩) | (refine ⟨len_w1, ?_⟩) | (refine chk_in (Nat.ble_eq_true_of_le (row_le hpl)) ?_) | (refine chk_in (Nat.ble_eq_true_of_le (st_n1 (l := y.X.now) (j := i.toNat) (by omega))) ?_) | (refine chk_in (Nat.ble_eq_true_of_le (st_n2 (l := y.X.now) (j := i.toNat) (by omega) rfl)) ?_) | (refine chk_in (st_w1 (l := y.X.wait) (j := i.toNat) (by omega)) ?_) | (refine chk_in (st_w2 (l := y.X.wait) (j := i.toNat) (by omega) rfl) ?_) | (refine onS_in (sub_all (len_n2 (l := y.X.now) rfl)) ?_) | (refine onS_in (sub_all (len_w2 (l := y.X.wait) rfl)) ?_) | (refine chk_in (one_app (one_app rfl (one_now _)) rfl) ?_) | (refine chk_in (one_app (one_app rfl (one_bool _)) rfl) ?_) | (with_reducible refine chk_in (Nat.ble_eq_true_of_le (by omega)) ?_) | (with_reducible refine ifB_in ?_ ?_ <;> intro hb <;> (try simp only [decide_eq_true_eq, decide_eq_false_iff_not, Int.not_lt, Int.not_le, ne_eq, Decidable.not_not, Bool.not_eq_true', Bool.not_eq_false', gt_iff_lt, ge_iff_le] at hb) <;> (try (exfalso; omega))) | (with_reducible refine ⟨_, w64b _, ?_⟩) | (with_reducible refine ⟨_, w64 (by omega) (by omega), ?_⟩) | (with_reducible refine ⟨_, wu64 (by omega) (by omega), ?_⟩) | (with_reducible refine ⟨_, wu8 (by omega) (by omega), ?_⟩) | (with_reducible refine ⟨_, w64 (by (simp only [size_sfrom, ByteArray.size_extract, ByteArray.size_append, strOf_size, fixedL_length, lit_size, List.size_toArray, List.length_cons, List.length_nil, List.length_append, List.length_replicate]; omega)) (by (simp only [size_sfrom, ByteArray.size_extract, ByteArray.size_append, strOf_size, fixedL_length, lit_size, List.size_toArray, List.length_cons, List.length_nil, List.length_append, List.length_replicate]; omega)), ?_⟩) | (with_reducible refine ⟨_, rfl, ?_⟩) | (with_reducible refine ⟨rfl, ?_⟩) | (intro cap) | (with_reducible refine ⟨trivial, ?_⟩) | (guard_target =~ (planChk _ _ = true) ∧ _; refine ⟨by kernel_rfl, ?_⟩) | (guard_target =~ (_ ∧ _) ∧ _; refine ⟨by ((repeat (first | exact trivial | refine ⟨rfl, ?_⟩)); (first | done | fail)), ?_⟩) | (refine ⟨by omega, ?_⟩) | (refine ⟨by (simp only [size_sfrom, ByteArray.size_extract, ByteArray.size_append, strOf_size, fixedL_length, lit_size, List.size_toArray, List.length_cons, List.length_nil, List.length_append, List.length_replicate]; omega), ?_⟩) | (refine ⟨0, rfl, ?_⟩) | (refine ⟨1, rfl, ?_⟩) | (refine ⟨2, rfl, ?_⟩) | (refine ⟨3, rfl, ?_⟩) | (refine ⟨4, rfl, ?_⟩) | (refine ⟨5, rfl, ?_⟩) | (refine cell_at1 (by assumption) ?_) | (refine cell_in1 (by omega) (fun x hx => ?_)) | fail)) <;> (try (conv => whnf))
  all_goals first
    | (guard_hyp hb : ¬ e1 = 0; (refine Ends.go ((.ls ⟨e1, k1, q1, E, c⟩ : WrX)) ?_ [(31, some 1)] (Fit.q cvRefWrite5 (by rfl) (by rfl))); exact ⟨⟨write_1 hb1 hb, hb⟩, hq1, rfl, hO.le⟩)
    | (guard_target =~ Ends _ _ _ _ _ (packV [Value.int _ 14]) _; (refine Ends.go ((.ls ⟨14, k1, q1, E, c⟩ : WrX)) ?_ [(31, some 1)] (Fit.q cvRefWrite5 (by rfl) (by rfl))); first
        | (guard_hyp hno : findF (filesR E) s = none; exact ⟨⟨write_14 hb1 ‹e1 = 0› (X := fl0) (by rw [hno]; rfl) (by have : fl0.now.length = 0 := rfl; omega), (by dsimp only; omega)⟩, hq1, rfl, hO.le⟩)
        | exact ⟨⟨write_14 hb1 ‹e1 = 0› (X := x.X) (by rw [hfd]; rfl) ‹_›, (by dsimp only; omega)⟩, hq1, rfl, hO.le⟩)
    | (guard_target =~ Ends _ _ _ _ _ (packV [Value.int _ 12]) _; have h8 : (8 : Int) ≤ ((E.length : Nat) : Int) := hb; have h8' : 8 ≤ (filesR E).length := (by rw [filesR_len]; omega); (refine Ends.go ((.ls ⟨12, k1, q1, E, c⟩ : WrX)) ?_ [(31, some 1)] (Fit.q cvRefWrite5 (by rfl) (by rfl))); exact ⟨⟨write_12 hb1 ‹e1 = 0› (X := fl0) (by rw [hno]; rfl) (by have : fl0.now.length = 0 := rfl; omega) (.inl ⟨hno, h8'⟩), (by dsimp only; omega)⟩, hq1, rfl, hO.le⟩)
    | (guard_target =~ Ends _ _ _ _ _ (packV [Value.int _ 12]) _; have hrm : k1.room ≤ ((total (filesR E) : Nat) : Int) := (by rw [← htv]; assumption); (refine Ends.go ((.ls ⟨12, k1, q1, E, c⟩ : WrX)) ?_ [(31, some 1)] (Fit.q cvRefWrite5 (by rfl) (by rfl))); first
        | (guard_hyp hno : findF (filesR E) s = none; exact ⟨⟨write_12 hb1 ‹e1 = 0› (X := fl0) (by rw [hno]; rfl) (by have : fl0.now.length = 0 := rfl; omega) (.inr ⟨by have : fl0.now.length = 0 := rfl; omega, hrm⟩), (by dsimp only; omega)⟩, hq1, rfl, hO.le⟩)
        | exact ⟨⟨write_12 hb1 ‹e1 = 0› (X := x.X) (by rw [hfd]; rfl) (by omega) (.inr ⟨by omega, hrm⟩), (by dsimp only; omega)⟩, hq1, rfl, hO.le⟩)
    | (guard_hyp hb : (_ : Int) < _; rename_i b1 g1 a1 g2 cw; have hz0 : ¬ (findF (filesR E) s = none ∧ 8 ≤ (filesR E).length) := (by rw [filesR_len]; first | (intro h; omega) | (intro h; rw [hfd] at h; cases h.1)); have hrm : ¬ k1.room ≤ ((total (filesR E) : Nat) : Int) := (by rw [← htv]; omega); have hil : i.toNat = y.X.now.length := (by omega); have hnl : ¬ ((y.X.now.length : Nat) : Int) < i := (by omega); (refine Ends.go ((.grow ⟨k1, q1, E2, c2, p2, y, a1, b1, cw⟩ : WrX)) ?_ [(31, some 40), (32, some 63), (33, some 61), (34, some 65)] (Fit.q cvRefWrite5 (by rfl) (by rfl))); exact ⟨write_0 hb1 ‹e1 = 0› hy.X.symm hnl (fun h => h.elim hz0 (fun h => hrm h.2)), hq1, hy, hc2, (by dsimp only; omega), (by dsimp only; omega), (by dsimp only; omega), (by dsimp only; omega)⟩)
    | (rename_i a1 g1 cw; have hil : i.toNat < y.X.now.length := (by omega); have hnl : ¬ ((y.X.now.length : Nat) : Int) < i := (by omega); have hne : ¬ i = ((y.X.now.length : Nat) : Int) := (by omega); (refine Ends.go ((.over ⟨k1, q1, E2, c2, p2, y, a1, 0, cw⟩ : WrX)) ?_ [(31, some 38), (32, some 49), (34, some 51)] (Fit.q cvRefWrite5 (by rfl) (by rfl))); exact ⟨write_0 hb1 ‹e1 = 0› hy.X.symm hnl (fun h => h.elim (fun h => by rw [hfd] at h; cases h.1) (fun h => hne h.1)), hq1, hy, hc2, (by dsimp only; omega), (by dsimp only; omega), (by dsimp only; omega)⟩)
    | trace_state
end Go.Proofs.Ytdgmjjidkaafaaa
