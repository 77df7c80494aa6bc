/- The document's disk: a file is laid from bytes. -/
import Derived.Test.YtelolcagncgfpaaGreatRefApi
namespace Go.Proofs.YtelolcagncgfpaaGreat
open Go.RowKit
set_option linter.unusedSimpArgs false
set_option linter.unusedVariables false
theorem sub_row {E : List RF} {p : Nat} (hp : p < E.length) {vs : List Value} (hl : vs.length = 5) : subL (rowP E p vs) (0 + p * 5) 5 = some vs := by
 have h1 : ((E.take p).flatMap fileR).length = 0 + p * 5 := by rw [len_cells fileR 5 (fun _ => rfl), List.length_take]; omega
 refine subL_in ?_ hl (fun h => by cases h)
 unfold rowP
 rw [← h1, List.drop_left, List.take_append_of_le_length (by omega), List.take_of_length_le (by omega)]
theorem put_row {E : List RF} {p : Nat} (hp : p < E.length) {vs vs' : List Value} (hl : vs.length = 5) (hl' : vs'.length = 5) : putL (rowP E p vs) (0 + p * 5) vs' = rowP E p vs' := by
 unfold rowP
 rw [putL_app _ (by rw [len_cells fileR 5 (fun _ => rfl), List.length_take]; omega), putL_all (by rw [hl, hl'])]
theorem cov_row2 {np : Nat} {L : IdMap} {E : List RF} {p : Nat} (hp : p < E.length) {vs0 vs1 vs : List Value} (h : LR (cov1 np L) vs0 vs) (hl1 : vs1.length = 5) (hl : vs.length = 5) : covL np L (rowP E p vs0) (putL (rowP E p vs1) (0 + p * 5) vs) := by
 rw [put_row hp hl1 hl]
 exact .inr ((cov_rfs _).append (h.append (cov_rfs _)))
theorem rowP_le {E : List RF} {p : Nat} (hp : p < E.length) {vs : List Value} (hl : vs.length = 5) : 0 + p * 5 + 5 ≤ (rowP E p vs).length := by
 unfold rowP
 rw [List.length_append, List.length_append, len_cells fileR 5 (fun _ => rfl), List.length_take, hl]
 omega
theorem cells_snoc {l : List Cv} {t d : ByteArray} (h : d = partS t) : l.flatMap cellN ++ [.bool true, .string d, .bool false] = (l ++ [some (partS t)]).flatMap cellN := by
 rw [h, List.flatMap_append, List.flatMap_cons, List.flatMap_nil, List.append_nil]
 rfl
theorem part_short {t : ByteArray} (h : t.size ≤ 256) : t ++ strOf (List.replicate (256 - t.size) 0) = partS t := by
 have h1 := part_is t.size (s := t) (by omega)
 have h2 : t.extract 0 t.size = t := by
  apply bytesOf_inj.1
  rw [bytesOf_extract, List.drop_zero, List.take_of_length_le (by rw [bytesOf_length]; omega)]
 rw [h2] at h1
 rw [← h1]
 congr 3
 omega
theorem part_long {t : ByteArray} (h : 256 < t.size) : t.extract 0 256 ++ strOf (List.replicate 0 0) = partS t := by
 have h1 := part_is 256 (s := t) (by omega)
 rw [← h1]
 rfl
theorem sfrom_0 (s : ByteArray) : sfrom s 0 = s := bytesOf_inj.1 (by rw [bytesOf_sfrom, List.drop_zero])
theorem sfrom_next (s : ByteArray) (j : Nat) : bytesOf (sfrom s (256 * (j + 1))) = (bytesOf (sfrom s (256 * j))).drop 256 := by
 rw [bytesOf_sfrom, bytesOf_sfrom, List.drop_drop]
 congr 1
theorem zero_row' (n : Nat) : ((List.replicate n [Value.int .u8 0]).flatten.drop 0).take n = (List.replicate n (0 : UInt8)).map byteV' := by
 have : (List.replicate n [Value.int .u8 0]).flatten = (List.replicate n (0 : UInt8)).map byteV' := by
  induction n with
  | zero => rfl
  | succ n ih => rw [List.replicate_succ, List.flatten_cons, ih, List.replicate_succ, List.map_cons]; rfl
 rw [this, List.drop_zero, List.take_of_length_le (by rw [List.length_map, List.length_replicate]; exact Nat.le_refl _)]
structure LdS where
 j : Nat
 l : List Cv
 ka : Nat
structure LdI (data : ByteArray) (k : LdS) : Prop where
 len : k.l.length = k.j
 all : k.l ++ chunkS (sfrom data (256 * k.j)) = chunkS data
 le : 256 * k.j ≤ data.size + 255
 ka : k.l.length ≤ k.ka
theorem LdI.start (data : ByteArray) : LdI data ⟨0, [], 0⟩ := ⟨rfl, by dsimp only; rw [Nat.mul_zero, sfrom_0]; rfl, by dsimp only; omega, Nat.le_refl _⟩
theorem LdI.step {data : ByteArray} {j : Nat} {l : List Cv} {ka kb : Nat} (h : LdI data ⟨j, l, ka⟩) (hj : 256 * j < data.size) {t : ByteArray} (ht : t = sfrom data (256 * j)) (hb : j + 1 ≤ kb) : LdI data ⟨j + 1, l ++ [some (partS t)], kb⟩ := by
 have h1 : l.length = j := h.len
 have h2 : l ++ chunkS (sfrom data (256 * j)) = chunkS data := h.all
 have hs : 0 < t.size := by rw [ht, size_sfrom]; omega
 refine ⟨by dsimp only; rw [List.length_append, h1]; rfl, ?_, by dsimp only; omega, by dsimp only; rw [List.length_append, h1]; exact hb⟩
 dsimp only
 rw [← h2, ← ht, chunkS_cons hs (t := sfrom data (256 * (j + 1))) (by rw [ht]; exact sfrom_next data j), List.append_assoc, List.singleton_append]
theorem LdI.done {data : ByteArray} {j : Nat} {l : List Cv} {ka : Nat} (h : LdI data ⟨j, l, ka⟩) (hj : data.size ≤ 256 * j) : l = chunkS data := by
 have h2 : l ++ chunkS (sfrom data (256 * j)) = chunkS data := h.all
 rwa [chunkS_nil (by rw [size_sfrom]; omega), List.append_nil] at h2
structure LdR where
 E : List RF
 c : Nat
 p : Nat
 l : List Cv
 ka : Nat
 kb : Nat
 kc : Nat
abbrev ldV (s : ByteArray) (z : LdR) : List Value := [.string s, mslice 32 z.l.length z.ka, mslice 33 z.l.length z.kb, mslice 34 z.l.length z.kc, .bool true]
abbrev ldH (s : ByteArray) (k : Dk) (q : RK) (E : List RF) (c : Nat) (S : Nat → Prop) : Int ⊕ LdR → HP
 | .inl _ => [(0, .own 63 (rdv 31 E.length c k q)), (31, .lst 76 5 c (E.flatMap fileR)), (2, fzI S E)]
 | .inr z => [(0, .own 63 (rdv 31 z.E.length z.c k q)), (31, .lst 76 5 z.c (rowP z.E z.p (ldV s z))), (2, fzI S E), (32, .lst 78 3 z.ka (z.l.flatMap cellN)), (33, .lst 78 3 z.kb (z.l.flatMap cellN)), (34, .lst 4 1 z.kc ((List.replicate z.l.length false).map .bool))]
abbrev ldE : Int ⊕ LdR → Int
 | .inl e => e
 | .inr _ => 0
def LdOk (k : Dk) (E : List RF) (s data : ByteArray) : Int ⊕ LdR → Prop
 | .inl e => (e, ⟨k, filesR E⟩) = loadD ⟨k, filesR E⟩ s data
 | .inr z => ((0, (⟨k, putF (filesR E) s ⟨z.l, z.l.map some, List.replicate z.l.length false, true⟩⟩ : DM)) = loadD ⟨k, filesR E⟩ s data) ∧ (∃ x, MadeF E s z.p z.E x) ∧ z.E.length ≤ z.c ∧ z.l.length ≤ z.ka ∧ z.l.length ≤ z.kb ∧ z.l.length ≤ z.kc
theorem load_bad {k : Dk} {E : List RF} {s data : ByteArray} (h : goodName s = false ∨ 1048576 < data.size) : (1, (⟨k, filesR E⟩ : DM)) = loadD ⟨k, filesR E⟩ s data := by
 unfold loadD; rw [if_pos h]
theorem load_full {k : Dk} {E : List RF} {s data : ByteArray} (h1 : goodName s = true) (h2 : ¬ 1048576 < data.size) (hn : findF (filesR E) s = none) (h8 : 8 ≤ (filesR E).length) : (12, (⟨k, filesR E⟩ : DM)) = loadD ⟨k, filesR E⟩ s data := by
 unfold loadD
 rw [if_neg (by rintro (h | h)
                · rw [h1] at h; cases h
                · exact h2 h), if_pos ⟨hn, h8⟩]
theorem load_is {k : Dk} {E : List RF} {s data : ByteArray} {l : List Cv} (h1 : goodName s = true) (h2 : ¬ 1048576 < data.size) (hn : ¬ (findF (filesR E) s = none ∧ 8 ≤ (filesR E).length)) (hl : l = chunkS data) : (0, (⟨k, putF (filesR E) s ⟨l, l.map some, List.replicate l.length false, true⟩⟩ : DM)) = loadD ⟨k, filesR E⟩ s data := by
 unfold loadD
 rw [if_neg (by rintro (h | h)
                · rw [h1] at h; cases h
                · exact h2 h), if_neg hn, hl]
 rfl
attribute [local irreducible] bytesOf strOf strEq strLt sfrom begS goodName readD writeD syncD cutD dropD loadD chunkS partS
theorem cvRefLoad1 {p : Prop} (h : p := by have nw := True.intro; (repeat' (first | exact True.intro | (with_reducible exact rfl) | (with_reducible exact AbsLe.refl) | (guard_target =~ @Eq Nat _ _; first | exact rfl | omega) | (guard_target =~ List.map _ _ = []; exact rfl) | (first | (guard_target =~ @Eq Nat _ _; (try dsimp only); first | omega | ((simp only [List.length_append, List.length_cons, List.length_nil]) <;> omega)) | (guard_target =~ List.flatMap _ _ = []; exact rfl) | (guard_target =~ covL _ _ (rowP _ _ _) (putL (rowP _ _ _) _ _); refine cov_row2 hpl ?_ rfl rfl; (try clear nw) <;> have nw := True.intro) | exact covL_of (cells_snoc hpt) (fun v hv => cells_flat hv) | exact covL_of (bools_rep _) (fun v hv => bools_flat hv) | exact covL_of rfl (fun v hv => cells_flat hv) | exact covL_still rfl (files_still _) | exact congrArg (Value.int _) (by (try dsimp only); omega) | (guard_target =~ @Eq Value _ _; exact rfl)) | (exact congrArg (Value.int _) (by omega)) | (exact covL_flat (flat_map (fun _ => rfl) _)) | (exact covL_flat flat_nil) | (refine covP_all ?_; (try clear nw); have nw := True.intro) | (refine covL_each ?_; (try clear nw); have nw := True.intro) | (refine ⟨?_, ?_⟩ <;> (try clear nw) <;> have nw := True.intro) | (guard_hyp nw : True; ((conv => whnf) <;> clear nw)))); (first | done | fail)) : p := h
theorem rnRefLoad2 {p : Prop} (h : p := by refine ⟨?_, ?_, ?_⟩; (first | apply rR_tuple | apply rR_one rfl | exact rfl); all_goals (repeat' (first | (with_reducible (first | exact relH_nil | apply rn_lst | apply rn_own | apply rn_mp | apply rn_row | apply rn_abs | exact wo_nil)) | apply wo_keep rfl | apply wo_drop rfl | exact relH_nil | exact r1_flat rfl | exact r0_flat rfl | exact rl_nil | exact wo_nil | exact bk_old rfl | exact bk_new rfl | exact bk_nil rfl | apply rl_cons | (first | exact relL_still hvs | exact relL_still (files_still _)) | exact relL_flat (flat_map (fun _ => rfl) _) | exact relL_flat flat_nil | apply relL_to | apply rn_lst | apply rn_own | apply rn_mp | apply rn_row | apply relH_view rfl | apply relH_lview rfl | apply relH_fact rfl | exact r1_rig | exact r0_rig | exact r1_rigs | exact r0_rigs | apply wo_keep rfl | apply wo_drop rfl | apply r1_agg | apply rn_ptr | apply rn_slice | apply rn_slice0 | apply rn_iface | apply rn_map | apply rn_ifacem | apply r0_map | apply r0_ifacem | apply r0_ptr | apply r0_slice | apply r0_slice0 | apply r0_iface)); (first | done | fail)) : p := h
set_option maxRecDepth 100000 in
set_option maxHeartbeats 4000000 in
theorem rload_o (E : List RF) (c : Nat) (k0 : Dk) (q : RK) (S : Nat → Prop) (s data : ByteArray) (hO : OpR k0 q E c) :
 CallOb Tryz.prog 10 [ptr 0, .string s, .string data] (opH 1 c k0 q E S) 3 (fun v hh m => ∃ z : Int ⊕ LdR, LdOk k0 E s data z ∧ v = iv (ldE z) ∧ hh = ldH s k0 q E c S z ∧ m = 120) := by
 have hl8 := hO.len
 refine call_spec tabOk mixed Tryz.call10 Tryz.func10 rfl [(17, [(0, true), (1, true), (2, true), (3, true), (4, true), (5, true), (6, true), (1007, false)])] (LdOk k0 E s data) (fun z => iv (ldE z)) (fun z => ldH s k0 q E c S z) (fun _ => 120) ?_ ?_
 · exact (Nat.le_of_ble_eq_true rfl)
 dsimp only [opH, rdv]
 (repeat' ((try (conv => whnf)); first | (guard_target =~ ∃ (_ : Value), ∃ (_ : HP), ∃ (_ : HP), _; refine ⟨_, _, _, rnRefLoad2, ?_⟩; (try (dsimp only [Nat.reduceAdd, bC, bL]))) | (guard_target =~ CallOb _ 32 _ _ _ _; refine call_q (rplace_c E c k0 q s hO.len) [(0, some 0), (1, some 1)] cvRefLoad1 rfT rfT rfT (fun v h1 n1 hp => ?_); obtain ⟨z, hz, rfl, rfl, rfl⟩ := hp; obtain ⟨zv, hzv⟩ : ∃ y : Int, y = z := ⟨z, rfl⟩; rcases hz with ⟨hzn, hz⟩ | ⟨p, x, hx, hnx, hzp⟩; all_goals (rw [← hzv]); all_goals (first | (have hno := place_none hz) | (have hfd := place_some hO.fs.sorted hx hnx)); all_goals (try (dsimp only [Nat.reduceAdd, bC, bL]))) | (guard_target =~ CallOb _ 33 _ _ _ _; have hf8 : ¬ (findF (filesR E) s = none ∧ 8 ≤ (filesR E).length) := (by rw [filesR_len]; first | (intro h; omega) | (intro h; rw [hfd] at h; cases h.1)); refine call_q (rmade_c E c k0 q s hO.len hO.le) [(0, some 0), (1, some 1)] cvRefLoad1 rfT rfT rfT (fun v h1 n1 hp => ?_); obtain ⟨⟨⟨p2, E2⟩, c2⟩, ⟨hm2, hc2⟩, rfl, rfl, rfl⟩ := hp; dsimp only at hm2 hc2; obtain ⟨y, hy⟩ := made_facts hO.fs.sorted hO.cap hm2; have hpl := (List.getElem?_eq_some_iff.1 hy.at1).1; (try (dsimp only [Nat.reduceAdd, bC, bL]))) | (guard_target =~ LoopOb _ _ _ _ _ _ _ _; refine loop_rule tabOk mixed [(17, [(0, true), (1, true), (2, true), (3, true), (4, true), (5, true), (6, true), (1007, false)])] 6 (fun k : LdS => [(0, ptr 0), (2, .string data), (7, iv ((p2 : Nat) : Int)), (8, ptr 4), (9, iv ((256 * k.j : Nat) : Int))]) (fun k => [(0, .own 63 (rdv 3 E2.length c2 k0 q)), (3, .lst 76 5 c2 (E2.flatMap fileR)), (2, fzI S E), (4, .own 76 [.string s, mslice 5 k.l.length k.ka, .slice none 0 0, .slice none 0 0, .bool false]), (5, .lst 78 3 k.ka (k.l.flatMap cellN))]) (fun k => data.size + 256 - 256 * k.j) (fun k => LdI data k) ⟨0, [], 0⟩ (LdI.start data) ⟨[(3, some 36), (4, some 45), (5, none)], Sub.q cvRefLoad1 (by rfl) (by rfl)⟩ (fun k hk => ?_)) | (guard_hyp k : LdS; rcases k with ⟨j, l, ka⟩; have hjl := hk.len; have hjs := hk.le; have hjk := hk.ka; dsimp only at hjl hjs hjk ⊢; obtain ⟨t, ht⟩ : ∃ t, t = sfrom data (256 * j) := ⟨_, rfl⟩; have hts : t.size = data.size - 256 * j := (by rw [ht, size_sfrom]); have mkI : 1 = 1 := rfl) | (guard_target =~ ∃ (k : Nat), (k : Int) = ((256 * j : Nat) : Int) ∧ _; refine ⟨256 * j, rfl, omT, ?_⟩; rw [← ht]) | (guard_target =~ ∃ (k : Nat), (k : Int) = 256 ∧ _; have hxs : (t.extract 0 256).size = 256 := (by rw [ByteArray.size_extract]; omega); refine ⟨256, rfl, omT, ?_⟩) | (guard_target =~ ∃ (_ : Nat), ∃ (_ : Nat), _; guard_hyp mkI : 1 = 1; clear mkI; first | (guard_hyp hxs : _ = 256; have hpt := part_long (t := t) omT; have hss := (strOf_size (List.replicate 0 0)).trans (List.length_replicate ..); refine ⟨0, 0, by omega, by omega, Nat.le_refl _, by omega, by omega, ?_⟩) | (have hpt := part_short (t := t) omT; have hss : (strOf (List.replicate (256 - t.size) 0)).size = 256 - t.size := (strOf_size _).trans (List.length_replicate ..); refine ⟨256 - t.size, 256 - t.size, by omega, by omega, Nat.le_refl _, by omega, by omega, ?_⟩)) | (guard_target =~ ∃ (_ : Nat), ∃ (_ : Nat), _; refine ⟨l.length, l.length, rfl, rfl, Nat.le_refl _, by omega, by omega, ?_⟩) | (guard_target =~ ∃ (_ : List UInt8), _; first | (guard_hyp hxs : _ = 256; refine ⟨List.replicate 0 0, zero_row' 0, by rw [List.length_replicate], ?_⟩) | refine ⟨List.replicate (256 - t.size) 0, zero_row' _, by rw [List.length_replicate], ?_⟩) | (guard_target =~ CallOb _ 34 _ _ _ _; rw [put_rf hpl (by rfl)]; (with_reducible refine call_inline tabOk mixed Tryz.call34 Tryz.func34 ?_ [(4, [(0, true), (1, true), (2, true), (3, true), (4, true), (5, true), (6, true), (1007, false)])] ?_ ?_); exact rfl; exact Nat.le_of_ble_eq_true rfl) | (guard_hyp mkI : 1 = 1; first | (guard_target =~ ∃ (k : Nat), (k : Int) = ((p2 : Nat) : Int) ∧ _; refine ⟨p2, rfl, ?_⟩) | (refine onS_in (sub_row hpl rfl) ?_) | (refine onS_in (sub_all (n := l.length * 3) (len_cells cellN 3 (fun _ => rfl) l)) ?_) | (refine chk_in (one_now _) ?_) | (refine chk_in (Nat.ble_eq_true_of_le (row_le hpl)) ?_) | (refine chk_in (Nat.ble_eq_true_of_le (rowP_le hpl rfl)) ?_)) | (refine ⟨len_cells cellN 3 (fun _ => rfl) _, ?_⟩) | (with_reducible first | refine chk_in (Nat.ble_eq_true_of_le omT) ?_ | (refine ifB_in ?_ ?_ <;> intro hb <;> (try simp only [bN1, bN2, bN3, bN4, bN5, bN6, bN7, bN8, bN9, bN0] at hb) <;> (try (exfalso; omega))) | refine ⟨_, w64b _, ?_⟩ | refine ⟨_, w64 omT omT, ?_⟩ | refine ⟨_, wu64 omT omT, ?_⟩ | refine ⟨_, wu8 omT omT, ?_⟩ | refine ⟨_, w64 szT szT, ?_⟩ | refine ⟨_, rfl, ?_⟩ | refine ⟨rfl, ?_⟩) | intro cap | (with_reducible refine ⟨trivial, ?_⟩) | (guard_target =~ (planChk _ _ = true) ∧ _; refine ⟨by kernel_rfl, ?_⟩) | (guard_target =~ (_ ∧ _) ∧ _; refine ⟨by ((repeat (first | exact trivial | refine ⟨rfl, ?_⟩)); (first | done | fail)), ?_⟩) | refine ⟨by omega, ?_⟩ | refine ⟨szT, ?_⟩ | refine ⟨0, rfl, ?_⟩ | refine ⟨1, rfl, ?_⟩ | refine ⟨2, rfl, ?_⟩ | refine ⟨3, rfl, ?_⟩ | refine ⟨4, rfl, ?_⟩ | refine ⟨5, rfl, ?_⟩ | (refine cell_at1 (by assumption) ?_) | (refine cell_in1 omT (fun x hx => ?_)) | fail)) <;> (try (conv => whnf))
 all_goals first
  | (exfalso; omega)
  | (guard_target =~ Ends _ _ _ _ _ (packV [Value.int _ 1]) _; (refine Ends.go ((.inl 1 : Int ⊕ LdR)) ?_ [(31, some 1)] (Fit.q cvRefLoad1 (by rfl) (by rfl))); exact load_bad (by first | exact .inl (good_no (by omega)) | exact .inr (by omega)))
  | (guard_target =~ Ends _ _ _ _ _ (packV [Value.int _ 12]) _; (refine Ends.go ((.inl 12 : Int ⊕ LdR)) ?_ [(31, some 1)] (Fit.q cvRefLoad1 (by rfl) (by rfl))); exact load_full (good_yes (by omega) (by omega)) (by omega) hno (by rw [filesR_len]; omega))
  | (guard_hyp hpt : _ = partS t; rename_i c3; (refine Again.go ((⟨j + 1, l ++ [some (partS t)], c3⟩ : LdS)) ?_ (by (try dsimp only); omega) [(3, some 3), (4, some 4), (5, some 8)] (Sub.q cvRefLoad1 (by rfl) (by rfl))); exact hk.step (by omega) ht (by omega))
  | (guard_hyp mkI : 1 = 1; rename_i c3; have hdn := hk.done (by omega); (refine Ends.go ((.inr ⟨E2, c2, p2, l, ka, c3, l.length⟩ : Int ⊕ LdR)) ?_ [(31, some _), (32, some _), (33, some _), (34, some _)] (Fit.q cvRefLoad1 (by rfl) (by rfl))); exact ⟨load_is (good_yes (by omega) (by omega)) (by omega) hf8 hdn, ⟨y, hy⟩, hc2, hjk, (by dsimp only; omega), Nat.le_refl _⟩)
  | trace_state
theorem rload_c (S : Nat → Prop) (D : DM) (hD : D.Ok) (s data : ByteArray) :
 CallOb Tryz.prog 10 [ptr 0, .string s, .string data] [(0, refI S D)] 1 (RefP (fun a : Int => iv a) (fun a D' => (a, D') = loadD D s data)) :=
 of_ref Tryz.call10 fun E c q S' hO => (rload_o E c D.k q S' s data (open_op hD hO)).conv fun v h1 n1 ⟨z, hz, hv, hh, hm⟩ F B w0 m w cc H hc => by
  subst hv hh hm
  cases z with
  | inl e =>
   refine ref_end (a := e) (D := ⟨D.k, filesR E⟩) (by decide) hc ?_ (ref_same H (by decide) (fun _ h => h) ⟨rfl, hO.rk, hO.le, hO.cap⟩)
   have h1 : (e, (⟨D.k, filesR E⟩ : DM)) = loadD ⟨D.k, filesR E⟩ s data := hz
   rw [hO.fs] at h1 ⊢
   exact h1
  | inr z =>
   obtain ⟨hr, ⟨x, hy⟩, hc2, hka, hkb, hkc⟩ := hz
   have hx := hy.at1
   obtain ⟨p1, S1, hs1, K1, H1⟩ := keep_new H (a := 32) (f := 2) (l := z.l.length) rfl rfl (by decide) (fun v hv => cells_flat hv) (fun h => nil_len (f := cellN) (z := 3) (fun _ => rfl) (by decide) h)
   have H1' : HRel F B w0 m [(2, fzI S1 E), (0, .own 63 (rdv 31 z.E.length z.c D.k q)), (31, .lst 76 5 z.c (rowP z.E z.p (ldV s z))), (33, .lst 78 3 z.kb (z.l.flatMap cellN)), (34, .lst 4 1 z.kc ((List.replicate z.l.length false).map .bool))] 120 w := H1
   obtain ⟨p2, S2, hs2, K2, H2⟩ := keep_new H1' (a := 33) (f := 2) (l := z.l.length) rfl rfl (by decide) (fun v hv => cells_flat hv) (fun h => nil_len (f := cellN) (z := 3) (fun _ => rfl) (by decide) h)
   have H2' : HRel F B w0 m [(2, fzI S2 E), (0, .own 63 (rdv 31 z.E.length z.c D.k q)), (31, .lst 76 5 z.c (rowP z.E z.p (ldV s z))), (34, .lst 4 1 z.kc ((List.replicate z.l.length false).map .bool))] 120 w := H2
   obtain ⟨p3, S3, hs3, K3, H3⟩ := keep_new H2' (a := 34) (f := 2) (l := z.l.length) rfl rfl (by decide) (fun v hv => bools_flat hv) (fun h => by have := nil_map h; rwa [List.length_replicate] at this)
   have H3' : HRel F B w0 m [(0, .own 63 (rdv 31 z.E.length z.c D.k q)), (31, .lst 76 5 z.c ((z.E.take z.p).flatMap fileR ++ (ldV s z ++ (z.E.drop (z.p + 1)).flatMap fileR))), (2, fzI S3 E)] 120 w := H3.sub_of fun i it e => by
    have := lkH_mem e
    simp only [List.mem_cons, Prod.mk.injEq, List.not_mem_nil, or_false] at this
    rcases this with ⟨rfl, rfl⟩ | ⟨rfl, rfl⟩ | ⟨rfl, rfl⟩ <;> rfl
   have hsp := put_split (e := ⟨s, ⟨z.l, z.l.map some, List.replicate z.l.length false, true⟩, p1, p2, p3, z.ka, z.kb, z.kc⟩) hx
   have hfs := hy.put ⟨s, ⟨z.l, z.l.map some, List.replicate z.l.length false, true⟩, p1, p2, p3, z.ka, z.kb, z.kc⟩ rfl
   refine ref_end (a := 0) (D := ⟨D.k, filesR (z.E.set z.p ⟨s, ⟨z.l, z.l.map some, List.replicate z.l.length false, true⟩, p1, p2, p3, z.ka, z.kb, z.kc⟩)⟩) (show 120 ≤ 200 by decide) hc (by rw [hfs]; rw [hO.fs] at hr ⊢; exact hr) ?_
   rw [← hsp]
   refine ref_put (e := ⟨s, ⟨z.l, z.l.map some, List.replicate z.l.length false, true⟩, p1, p2, p3, z.ka, z.kb, z.kc⟩) H3' ?_ ?_ ?_ ?_ ?_ ?_
   · rw [hsp, List.length_set]
   · exact (K1.more hs2).more hs3
   · show Kept m w S3 p2 (z.l.map some).length z.kb (mslice 33 z.l.length z.kb) ((z.l.map some).flatMap cellS)
     rw [List.length_map, safe_now]
     exact K2.more hs3
   · show Kept m w S3 p3 (List.replicate z.l.length false).length z.kc (mslice 34 z.l.length z.kc) ((List.replicate z.l.length false).map .bool)
     rw [List.length_replicate]
     exact K3
   · intro w h x hx
     rcases List.mem_append.1 hx with hx | hx
     · exact hy.fz S3 w h x (List.mem_of_mem_take hx)
     · exact hy.fz S3 w h x (List.mem_of_mem_drop hx)
   · rw [hsp]
     refine ⟨rfl, hO.rk, by rw [List.length_set]; exact hc2, fun e he => ?_⟩
     rcases List.mem_or_eq_of_mem_set he with he | rfl
     · exact hy.cap e he
     · exact ⟨⟨hka, K1.plc⟩, ⟨by show (z.l.map some).length ≤ _; rw [List.length_map]; exact hkb, by show ((z.l.map some).length = 0 ∧ _) ∨ _; rw [List.length_map]; exact K2.plc⟩, ⟨by show (List.replicate z.l.length false).length ≤ _; rw [List.length_replicate]; exact hkc, by show ((List.replicate z.l.length false).length = 0 ∧ _) ∨ _; rw [List.length_replicate]; exact K3.plc⟩⟩
end Go.Proofs.YtelolcagncgfpaaGreat
