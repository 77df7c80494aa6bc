/- The disk: a file is laid from bytes. -/
import Derived.Test.YtelolcagncgfpaaGreatDiskFs
import Derived.Test.YtelolcagncgfpaaGreatEngW
import Derived.Test.YtelolcagncgfpaaGreatDiskWriteC
namespace Go.Proofs.YtelolcagncgfpaaGreat
open Go.RowKit
set_option linter.unusedSimpArgs false
set_option linter.unusedVariables false
theorem covL_snocm {np : Nat} {L : IdMap} {l : List Nat} {i j : Nat} (e : cov1 np L (ptr i) (ptr j)) : covL np L (l.map (fun p => rp p) ++ [ptr i]) (l.map (fun p => rp p) ++ [ptr j]) := .inr (LR.append (isP_cov (isP_map _)) ⟨e, trivial⟩)
theorem put_set {E : EL} (hn : (E.map fun e => e.1).Nodup) {q : Nat} {s : ByteArray} {L : LF} {X : Fl} (hq : E[q]? = some (s, L, X)) (v : Value) : PutOb (names E) (spots E) (.string s) v (names E) ((spots E).set q v) where
 kinds u hu := by obtain ⟨e, _, rfl⟩ := List.mem_map.1 hu; rfl
 len := by rw [List.length_map, List.length_map]
 old j hj := by
  obtain rfl := first_q hn hq hj
  exact ⟨rfl, rfl⟩
 new hN := absurd rfl (hN (.string s) (List.mem_map.2 ⟨_, List.mem_of_getElem? hq, rfl⟩))
structure LS where
 C : CM
 pn : List Nat
 now : List Cv
 ka : Nat
 data : ByteArray
structure LR0 (C0 : CM) (d0 : ByteArray) (k : LS) : Prop where
 c1 : All2 (fun p x => (p, x) ∈ k.C) k.pn k.now
 more : ∀ x ∈ C0, x ∈ k.C
 all : k.now ++ chunkS k.data = chunkS d0
 len : (0 < k.data.size → k.pn.length * 256 + k.data.size = d0.size) ∧ k.pn.length * 256 ≤ d0.size + 255
 sz : k.data.size ≤ d0.size
theorem round_one {F : Nat → Prop} {B : Nat} {w0 : World} {m : BM} {n : Nat} {w : World} {k0 : Dk} {E : EL} {C1 : CM} {pn : List Nat} {ka : Nat} {t : ByteArray}
 (H : HRel F B w0 m [(0, .own 58 (dkv 1 k0)), (1, .mp (names E) (spots E)), (2, restI E C1), (3, .own 69 [mslice 4 (pn.length + 1) ka, .slice none 0 0, .slice none 0 0, .bool false]), (4, .lst 70 1 ka (pn.map (fun p => rp p) ++ [ptr 5])), (5, .own 73 (cellv (some t)))] n w) :
 ∃ g, HRel F B w0 m [(0, .own 58 (dkv 1 k0)), (1, .mp (names E) (spots E)), (2, restI E ((g, some t) :: C1)), (3, .own 69 [mslice 4 (pn ++ [g]).length ka, .slice none 0 0, .slice none 0 0, .bool false]), (4, .lst 70 1 ka ((pn ++ [g]).map fun p => rp p))] n w := by
 obtain ⟨g, hg, H1⟩ := freeze H (q := 5) (r := 2) (c := some t) rfl rfl (by decide)
 have H2 := H1.re (i := 4) (it' := .lst 70 1 ka ((pn ++ [g]).map fun p => rp p)) rfl (fun _ => rfl) (fun _ _ _ hb => hb) (fun g' s' _ ok => lst_re ok fun l hl => nv_app (i := pn.length) H.fn hg rfl (by
  have e : (pn.map (fun p => rp p) ++ [Value.pointer none]).set pn.length (ptr 5) = pn.map (fun p => rp p) ++ [ptr 5] := by
   rw [show pn.length = (pn.map fun p => rp p).length by rw [List.length_map]]
   exact set_len _ _ _
  rw [e]; exact hl))
 refine ⟨g, H2.sub_of fun i it e => ?_⟩
 rw [show (pn ++ [g]).length = pn.length + 1 by rw [List.length_append]; rfl] at e
 have := lkH_mem e
 simp only [List.mem_cons, Prod.mk.injEq, List.not_mem_nil, or_false] at this
 rcases this with ⟨rfl, rfl⟩ | ⟨rfl, rfl⟩ | ⟨rfl, rfl⟩ | ⟨rfl, rfl⟩ | ⟨rfl, rfl⟩ <;> rfl
theorem not_empty {s : ByteArray} (h : strEq s ⟨#[]⟩ = false) : 0 < s.size := by
 rcases Nat.eq_zero_or_pos s.size with h0 | h0
 · have : s = ⟨#[]⟩ := by
    apply bytesOf_inj.1
    have := bytesOf_length s
    rw [h0] at this
    rw [List.eq_nil_of_length_eq_zero this]; rfl
   rw [this] at h
   exact absurd h (by decide)
 · exact h0
theorem chunkS_is (s : ByteArray) : chunks s.size (bytesOf s) = chunkS s := rfl
theorem sfrom_lt {s : ByteArray} {k : Nat} (hk : k = min s.size 256) (h : 0 < s.size) : (sfrom s k).size < s.size := by rw [size_sfrom]; omega
theorem step_of {C0 C1 : CM} {d0 : ByteArray} {pn : List Nat} {now : List Cv} {t : ByteArray} {pm : Nat} (c1 : All2 (fun p x => (p, x) ∈ C1) pn now) (more : ∀ x ∈ C0, x ∈ C1) (all : now ++ chunkS t = chunkS d0) (len : (0 < t.size → pn.length * 256 + t.size = d0.size) ∧ pn.length * 256 ≤ d0.size + 255) (sz : t.size ≤ d0.size)
 (hpm : pm = min t.size 256) (hxs : (t.extract 0 pm).size = pm) (h0 : 0 < t.size) (g ka : Nat) : LR0 C0 d0 ⟨(g, some (t.extract 0 pm ++ strOf (List.replicate (256 - ((t.extract 0 pm).size : Int)).toNat 0))) :: C1, pn ++ [g], now ++ [some (partS t)], ka, sfrom t pm⟩ := by
 refine ⟨?_, fun x hx => List.mem_cons_of_mem _ (more x hx), ?_, ?_, ?_⟩
 · have e : t.extract 0 pm ++ strOf (List.replicate (256 - ((t.extract 0 pm).size : Int)).toNat 0) = partS t := by rw [hxs]; exact part_is pm hpm
   dsimp only
   rw [e]
   exact (c1.mono fun _ _ h => List.mem_cons_of_mem _ h).app ⟨List.Mem.head _, trivial⟩
 · dsimp only
   rw [← all, chunkS_cons h0 (rest_is t pm hpm), List.append_assoc]
   rfl
 · have h1 : (sfrom t pm).size = t.size - pm := size_sfrom t pm
   have h2 : (pn ++ [g]).length = pn.length + 1 := by rw [List.length_append]; rfl
   have key : ∀ a b c d : Nat, d = min b 256 → a * 256 + b = c → 0 < b → (0 < b - d → (a + 1) * 256 + (b - d) = c) ∧ (a + 1) * 256 ≤ c + 255 := by intro a b c d h1 h2 h3; omega
   have h3 := key pn.length t.size d0.size pm hpm (len.1 h0) h0
   rw [← h1, ← h2] at h3
   exact h3
 · dsimp only
   rw [size_sfrom]
   omega
attribute [local irreducible] bytesOf strOf strEq strLt sfrom begS chunkS partS
theorem all_of {now : List Cv} {t d : ByteArray} (h : now ++ chunkS t = chunkS d) (hb : strEq t ⟨#[]⟩ = true) : now = chunkS d := by
 have : t.size = 0 := by
  have h1 := hb
  rw [strEq_true] at h1
  rw [bytesOf_inj.1 h1]; rfl
 rwa [chunkS_nil this, List.append_nil] at h
inductive LO where
 | raw (e : Int)
 | old (q : Nat) (L : LF) (X : Fl) (pn : List Nat) (now : List Cv) (C1 : CM) (ka kb kc : Nat)
 | new (pn : List Nat) (now : List Cv) (C1 : CM) (ka kb kc : Nat)
abbrev LO.e : LO → Int | .raw e => e | _ => 0
abbrev LO.n : LO → Nat | .raw _ => 3 | _ => 7
abbrev laidX (pn : List Nat) (ka kb kc : Nat) : Fx := settled ⟨pn, [], [], false, ka, 0, 0⟩ kb kc
abbrev LO.h (k0 : Dk) (s : ByteArray) (E : EL) (C : CM) : LO → HP
 | .raw _ => rawH k0 E C
 | .old q _ _ pn _ C1 ka kb kc => [(0, .own 58 (dkv 1 k0)), (1, .mp (names E) ((spots E).set q (ptr 3))), (2, restI E C1), (3, fileJ 4 5 6 (laidX pn ka kb kc)), (4, nowI (laidX pn ka kb kc)), (5, safeI (laidX pn ka kb kc)), (6, waitI (laidX pn ka kb kc))]
 | .new pn _ C1 ka kb kc => [(0, .own 58 (dkv 1 k0)), (1, .mp (names E ++ [.string s]) (spots E ++ [ptr 3])), (2, restI E C1), (3, fileJ 4 5 6 (laidX pn ka kb kc)), (4, nowI (laidX pn ka kb kc)), (5, safeI (laidX pn ka kb kc)), (6, waitI (laidX pn ka kb kc))]
structure LaidR (data : ByteArray) (C : CM) (pn : List Nat) (now : List Cv) (C1 : CM) : Prop where
 c1 : All2 (fun p x => (p, x) ∈ C1) pn now
 more : ∀ x ∈ C, x ∈ C1
 all : now = chunkS data
def LO.R (s data : ByteArray) (E : EL) (C : CM) : LO → Prop
 | .raw e => (e = 1 ∧ (goodName s = false ∨ 1048576 < data.size)) ∨ (e = 12 ∧ goodName s = true ∧ data.size ≤ 1048576 ∧ (∀ x ∈ E, x.1 ≠ s) ∧ 8 ≤ E.length)
 | .old q L X pn now C1 _ _ _ => goodName s = true ∧ data.size ≤ 1048576 ∧ E[q]? = some (s, L, X) ∧ LaidR data C pn now C1
 | .new pn now C1 _ _ _ => goodName s = true ∧ data.size ≤ 1048576 ∧ (∀ x ∈ E, x.1 ≠ s) ∧ E.length < 8 ∧ LaidR data C pn now C1
theorem cvDiskLoad1 {p : Prop} (h : p := by have nw := True.intro; (repeat' (first | exact True.intro | (with_reducible exact rfl) | (with_reducible exact AbsLe.refl) | (guard_target =~ @Eq Nat _ _; first | exact rfl | omega) | (guard_target =~ List.map _ _ = []; exact rfl) | (first | apply covL_snocm | apply covL_snocp | first | exact covL_still rfl hvs | exact covL_still rfl (still_map (fun _ => rfl) _) | exact covL_still rfl (still_map ro_still _) | (apply covL_set <;> (try clear nw) <;> have nw := True.intro) | exact congrArg (Value.int _) (by (try dsimp only); omega)) | (exact congrArg (Value.int _) (by omega)) | (exact covL_flat (flat_map (fun _ => rfl) _)) | (exact covL_flat flat_nil) | (refine covP_all ?_; (try clear nw); have nw := True.intro) | (refine covL_each ?_; (try clear nw); have nw := True.intro) | (refine ⟨?_, ?_⟩ <;> (try clear nw) <;> have nw := True.intro) | (guard_hyp nw : True; ((conv => whnf) <;> clear nw)))); (first | done | fail)) : p := h
theorem rnDiskLoad2 {p : Prop} (h : p := by refine ⟨?_, ?_, ?_⟩; (first | apply rR_tuple | apply rR_one rfl | exact rfl); all_goals (repeat' (first | (with_reducible (first | exact relH_nil | apply rn_lst | apply rn_own | apply rn_mp | apply rn_row | apply rn_abs | exact wo_nil)) | apply wo_keep rfl | apply wo_drop rfl | exact relH_nil | exact r1_flat rfl | exact r0_flat rfl | exact rl_nil | exact wo_nil | exact bk_old rfl | exact bk_new rfl | exact bk_nil rfl | apply rl_cons | (first | exact relL_still hvs | exact relL_still (still_map (fun _ => rfl) _) | exact relL_still (still_map ro_still _) | exact relL_flat (flat_map (fun _ => rfl) _) | apply relL_set) | exact relL_flat (flat_map (fun _ => rfl) _) | exact relL_flat flat_nil | apply relL_to | apply rn_lst | apply rn_own | apply rn_mp | apply rn_row | apply relH_view rfl | apply relH_lview rfl | apply relH_fact rfl | exact r1_rig | exact r0_rig | exact r1_rigs | exact r0_rigs | apply wo_keep rfl | apply wo_drop rfl | apply r1_agg | apply rn_ptr | apply rn_slice | apply rn_slice0 | apply rn_iface | apply rn_map | apply rn_ifacem | apply r0_map | apply r0_ifacem | apply r0_ptr | apply r0_slice | apply r0_slice0 | apply r0_iface)); (first | done | fail)) : p := h
set_option maxRecDepth 100000 in
set_option maxHeartbeats 4000000 in
theorem load_l (k0 : Dk) (s data : ByteArray) (E : EL) (C : CM) (he8 : E.length ≤ 1000000) (hn : (E.map fun e => e.1).Nodup) :
 CallOb Tryz.prog 9 [ptr 0, .string s, .string data] (rawH k0 E C) 3 (fun v hh m => ∃ z : LO, z.R s data E C ∧ v = iv z.e ∧ hh = z.h k0 s E C ∧ m = z.n) := by
 have hvs := spots_still E
 refine call_spec tabOk mixed Tryz.call9 Tryz.func9 rfl [(11, [(0, true), (1, true), (2, true), (3, true), (4, true), (5, true), (6, true), (7, true), (8, true), (9, false), (10, true), (11, true), (12, false), (13, false), (1014, false), (15, true), (16, true), (1017, false)])] (fun z : LO => z.R s data E C) (fun z => iv z.e) (fun z => z.h k0 s E C) (fun z => z.n) ?_ ?_
 · exact (Nat.le_of_ble_eq_true rfl)
 (repeat' ((try (conv => whnf)); first | (guard_target =~ ∃ (_ : Value), ∃ (_ : HP), ∃ (_ : HP), _; refine ⟨_, _, _, rnDiskLoad2, ?_⟩; (try (dsimp only [Nat.reduceAdd, bC, bL]))) | (guard_target =~ LookOb _ _ _ _ _; refine look_files (fun q L X hq => ?_) (fun hN => ?_)) | (guard_target =~ ∀ (_ : Nat), _ → _; intro c8 h8) | (guard_target =~ ∃ (_ : Int), _ ∧ _; refine ⟨(pm : Int), (by show (pm : Int) = min (data1.size : Int) 256; omega), ?_⟩) | (guard_target =~ ∃ (_ : Nat), _ ∧ _; refine ⟨pm, (by with_reducible rfl), omT, ?_⟩) | ((guard_target =~ CallOb _ 29 _ _ _ _; refine call_q (isName_c s) [] cvDiskLoad1 rfT rfT rfT (fun v h1 n1 hp => ?_); obtain ⟨g, hg, rfl, rfl, rfl⟩ := hp); (try (dsimp only [Nat.reduceAdd, bC, bL]))) | (guard_target =~ LoopOb _ _ _ _ _ _ _ _; refine loop_sem tabOk mixed [(11, [(0, true), (1, true), (2, true), (3, true), (4, true), (5, true), (6, true), (7, true), (8, true), (9, false), (10, true), (11, true), (12, false), (13, false), (1014, false), (15, true), (16, true), (1017, false)])] 6 (fun k : LS => [(0, ptr 0), (1, .string s), (2, .string k.data), (7, ptr 3)]) (fun k => [(0, .own 58 (dkv 1 k0)), (1, .mp (names E) (spots E)), (2, restI E k.C), (3, .own 69 [mslice 4 k.pn.length k.ka, .slice none 0 0, .slice none 0 0, .bool false]), (4, .lst 70 1 k.ka (k.pn.map fun p => rp p))]) (fun k => k.data.size) (LR0 C data) (sem_start ⟨C, [], [], 0, data⟩ ⟨trivial, fun _ h => h, rfl, ⟨fun _ => by dsimp only [List.length_nil]; omega, by dsimp only [List.length_nil]; omega⟩, Nat.le_refl _⟩ [(3, some _), (4, none)] (Sub.q cvDiskLoad1 (by rfl) (by rfl))) (fun k hk => ?_)) | (guard_hyp k : LS; rcases k with ⟨C1, pn, now, ka, data1⟩; obtain ⟨c1, more, hall, hlen, hsz⟩ := hk; dsimp only at c1 more hall hlen hsz ⊢; have hpl := c1.len; have hpz : pn.length ≤ 4097 := omT; obtain ⟨pm, hpm⟩ : ∃ pm : Nat, pm = min data1.size 256 := ⟨_, rfl⟩; have hxs : (data1.extract 0 pm).size = pm := (by rw [ByteArray.size_extract]; omega))  | (have hrs : (strOf (List.replicate (256 - ((data1.extract 0 pm).size : Int)).toNat 0)).size = 256 - pm := (by rw [strOf_size, List.length_replicate]; omega); (guard_target =~ CallOb _ 30 _ _ _ _; (with_reducible refine call_pure Tryz.call30 (c_noughts (256 - ((data1.extract 0 pm).size : Int)) omT omT) ?_ ?_ ?_); exact rfl; exact rfl)) | (guard_target =~ CallOb _ 31 _ _ _ _; refine call_q (settle_c ⟨pn, [], [], false, ka, 0, 0⟩ (by dsimp only; omega)) [(0, some 3), (1, some 4), (2, none), (3, none)] cvDiskLoad1 rfT rfT rfT (fun v h1 n1 hp => ?_); obtain ⟨kk, _, rfl, rfl, rfl⟩ := hp; (try (dsimp only [Nat.reduceAdd, bC, bL]))) | (guard_target =~ ∃ ks' vs', PutOb _ _ _ _ ks' vs' ∧ _; first | refine ⟨_, _, put_set hn hq _, ?_⟩ | refine ⟨_, _, put_new hN, ?_⟩) | (guard_target =~ (List.length _ = _) ∧ _; refine ⟨by (simp only [List.length_map, List.length_append, List.length_cons, List.length_nil]; omega), ?_⟩) | (with_reducible first | refine chk_in (Nat.ble_eq_true_of_le omT) ?_ | (refine ifB_in ?_ ?_ <;> intro hb <;> (try simp only [bN1, bN2, bN3, bN4, bN5, bN6, bN7, bN8, bN9, bN0] at hb) <;> (try (exfalso; omega))) | refine ⟨_, w64b _, ?_⟩ | refine ⟨_, w64 omT omT, ?_⟩ | refine ⟨_, wu64 omT omT, ?_⟩ | refine ⟨_, wu8 omT omT, ?_⟩ | refine ⟨_, w64 szT szT, ?_⟩ | refine ⟨_, rfl, ?_⟩ | refine ⟨rfl, ?_⟩) | intro cap | (with_reducible refine ⟨trivial, ?_⟩) | (guard_target =~ (planChk _ _ = true) ∧ _; refine ⟨by kernel_rfl, ?_⟩) | (guard_target =~ (_ ∧ _) ∧ _; refine ⟨by ((repeat (first | exact trivial | refine ⟨rfl, ?_⟩)); (first | done | fail)), ?_⟩) | refine ⟨by omega, ?_⟩ | refine ⟨szT, ?_⟩ | refine ⟨0, rfl, ?_⟩ | refine ⟨1, rfl, ?_⟩ | refine ⟨2, rfl, ?_⟩ | refine ⟨3, rfl, ?_⟩ | refine ⟨4, rfl, ?_⟩ | refine ⟨5, rfl, ?_⟩ | (refine cell_at1 (by assumption) ?_) | (refine cell_in1 omT (fun x hx => ?_)) | fail)) <;> (try (conv => whnf))
 all_goals first
  | ((refine Ends.go (LO.raw 1) ?_ [] (Fit.q cvDiskLoad1 (by rfl) (by rfl))); exact .inl ⟨rfl, .inl (hg.symm.trans (by assumption))⟩)
  | ((refine Ends.go (LO.raw 1) ?_ [] (Fit.q cvDiskLoad1 (by rfl) (by rfl))); exact .inl ⟨rfl, .inr (by omega)⟩)
  | ((refine Ends.go (LO.raw 12) ?_ [] (Fit.q cvDiskLoad1 (by rfl) (by rfl))); exact .inr ⟨rfl, hg.symm.trans (by assumption), by omega, hN, (by have h8 : (names E).length = E.length := List.length_map _; omega)⟩)
  | ((refine Ends.go (LO.old q L X pn now C1 ka kk.1 kk.2) ?_ [(3, some 3), (4, some 4), (5, some 10), (6, some 11)] (Fit.q cvDiskLoad1 (by rfl) (by rfl))); exact ⟨hg.symm.trans (by assumption), by omega, hq, c1, more, all_of hall (by assumption)⟩)
  | ((refine Ends.go (LO.new pn now C1 ka kk.1 kk.2) ?_ [(3, some 3), (4, some 4), (5, some 10), (6, some 11)] (Fit.q cvDiskLoad1 (by rfl) (by rfl))); exact ⟨hg.symm.trans (by assumption), by omega, hN, (by have h8 : (names E).length = E.length := List.length_map _; omega), c1, more, all_of hall (by assumption)⟩)
  | (refine sem_round [(0, ptr 0), (1, .string s), (2, .string (sfrom data1 pm)), (7, ptr 3)] [(0, .own 58 (dkv 1 k0)), (1, .mp (names E) (spots E)), (2, restI E C1), (3, .own 69 [mslice 4 (pn.length + 1) c8, .slice none 0 0, .slice none 0 0, .bool false]), (4, .lst 70 1 c8 (pn.map (fun p => rp p) ++ [ptr 5])), (5, .own 73 (cellv (some (data1.extract 0 pm ++ strOf (List.replicate (256 - ((data1.extract 0 pm).size : Int)).toNat 0)))))] [(3, some 3), (4, some 8), (5, some 6)] (Sub.q cvDiskLoad1 (by rfl) (by rfl)) (fun F B w0 m w H => ?_); obtain ⟨g, H2⟩ := round_one H; exact ⟨⟨_, pn ++ [g], now ++ [some (partS data1)], c8, sfrom data1 pm⟩, step_of c1 more hall hlen hsz hpm hxs (not_empty (by assumption)) g _, sfrom_lt hpm (not_empty (by assumption)), H2, rfl⟩)
  | trace_state
section
variable {F : Nat → Prop} {B : Nat} {w0 : World} {m : BM} {n : Nat} {w : World}
theorem leave_file {h : HP} {r q : Nat} {E : EL} {C : CM} {s : ByteArray} {L : LF} {X : Fl} (H : HRel F B w0 m h n w) (er : lkH h r = some (restI E C)) (hq : E[q]? = some (s, L, X)) : HRel F B w0 m (upH h r (restI (E.eraseIdx q) C)) n w := by
 have hp : ((s, L, X) :: E.eraseIdx q).Perm E := by exact perm_erase hq
 exact (H.shrink (S' := SR (E.eraseIdx q) C) (Φ' := fun _ => RestAt (E.eraseIdx q) C) er (fun b hb => (SR.perm hp).1 (hb.imp (fun hb => List.mem_append_right _ hb) id)) (fun g' s' hg' ok => by
  obtain ⟨a, b, c, _, d⟩ := ok
  have d' := d.perm hp.symm
  have nd : (L.own ++ owns (E.eraseIdx q)).Nodup := d'.nd
  refine ⟨a, fun x hx => b x ?_, fun _ x hx => c rfl x ?_, RestAt.stab _ _, (List.nodup_append.1 nd).2.1, fun x hx hb => d'.off x hx (List.mem_append_right _ hb), fun e he => d'.files e (List.Mem.tail _ he), d'.cells⟩
  · exact (SR.perm hp).1 (hx.imp (fun hb => List.mem_append_right _ hb) id)
  · exact (SR.perm hp).1 (hx.imp (fun hb => List.mem_append_right _ hb) id))).H
theorem close_add {k : Dk} {E : EL} {C : CM} {x : Fx} {s : ByteArray} {X' : Fl} {fs : Fs} (H : HRel F B w0 m [(0, .own 58 (dkv 1 k)), (1, .mp (names E ++ [.string s]) (spots E ++ [ptr 3])), (2, restI E C), (3, fileI 3 x), (4, nowI x), (5, safeI x), (6, waitI x)] n w) (ok : FxOk C x X')
 (hf : (filesOf E ++ [(s, X')]).Perm fs) : ∃ S, HRel F B w0 m [(0, diskI S ⟨k, fs⟩)] n w := by
 obtain ⟨X'1, X'2, X'3, X'4⟩ := X'
 obtain ⟨c1, c2, c3, c4⟩ := ok
 dsimp only at c1 c2 c3 c4
 obtain ⟨L', hm, H3⟩ := close_file H (f := 3) (a := 4) (b := 5) (c := 6) (r := 2) s rfl rfl rfl rfl rfl rfl rfl rfl (by simp) c1 c2
 have H3 : HRel F B w0 m [(2, restI ((s, L', ⟨X'1, X'2, x.ws, x.sure⟩) :: E) C), (0, .own 58 (dkv 1 k)), (1, .mp (names E ++ [.string s]) (spots E ++ [ptr 3]))] n w := H3
 rw [c3, c4] at H3
 let E' : EL := E ++ [(s, L', ⟨X'1, X'2, X'3, X'4⟩)]
 have H4 := H3.re (i := 1) (it' := .mp (names E') (spots E')) rfl (fun _ => rfl) (fun _ _ _ hb => hb) (fun g' s' _ okm => by
  obtain ⟨a, b, A, clk, y1, y2, y3⟩ := okm
  refine ⟨a, b, A, clk, y1, y2.trans (by show _ = (E ++ [_]).map _; rw [List.map_append]; rfl), spots_cps.2 ?_⟩
  have h2 : LR (V1 m) (spots E ++ [ptr 3]) (E.map (fun e => cp e.2.1.g) ++ [cp L'.g]) := LR.append (spots_cps.2 rfl) ⟨ptr_cp hm, trivial⟩
  rw [LR.fn (R := V1 m) (fun _ _ _ => V1.fn H.fn) y3 h2]
  show _ = (E ++ [_]).map _
  rw [List.map_append]
  rfl)
 obtain ⟨S, H5⟩ := close_disk H4 (i := 0) (j := 1) (r := 2) (E := E') rfl rfl rfl (by simp) (List.perm_append_singleton _ _).symm (by
  show ((E ++ [_]).map _).Perm fs
  rw [List.map_append]
  exact hf)
 exact ⟨S, H5⟩
end
theorem laid_ok {data : ByteArray} {C : CM} {pn : List Nat} {now : List Cv} {C1 : CM} (h : LaidR data C pn now C1) (ka kb kc : Nat) : FxOk C1 (laidX pn ka kb kc) ⟨chunkS data, (chunkS data).map some, List.replicate (chunkS data).length false, true⟩ := by
 obtain ⟨c1, _, rfl⟩ := h
 exact FxOk.settled (x := ⟨pn, [], [], false, ka, 0, 0⟩) (X := ⟨chunkS data, [], [], false⟩) ⟨c1, trivial, rfl, rfl⟩ kb kc
theorem load_c (S : Nat → Prop) (D : DM) (hD : D.Ok) (s data : ByteArray) :
 CallOb Tryz.prog 9 [ptr 0, .string s, .string data] [(0, diskI S D)] 1 (AbsP (fun a : Int => iv a) (fun a D' => (a, D') = loadD D s data)) := by
 refine of_raw Tryz.call9 fun E C hp => ?_
 have hs := hD.fs.sorted
 have hlen : E.length = D.fs.length := by rw [← hp.length_eq, List.length_map]
 refine (load_l D.k s data E C (by rw [hlen]; exact Nat.le_trans hD.fs.few (by decide)) (names_nodup hp hs)).conv ?_
 rintro v h1 n1 ⟨z, hz, rfl, rfl, rfl⟩ F B w0 m w c H hv
 have done : ∀ {n : Nat} {a : Int} {fs' : Fs}, n ≤ 20 → VR m (iv a) c → (a, (⟨D.k, fs'⟩ : DM)) = loadD D s data → (∃ S, HRel F B w0 m [(0, diskI S ⟨D.k, fs'⟩)] n w) → ∃ m' v' h2 n2, m.le m' ∧ VR m' v' c ∧ HRel F B w0 m' h2 n2 w ∧ AbsP (fun a : Int => iv a) (fun a D' => (a, D') = loadD D s data) v' h2 n2 := by
  rintro n a fs' hn hv hr ⟨S, H'⟩
  exact ⟨m, iv a, _, 20, BM.le_refl m, hv, H'.up (BM.le_refl m) H'.fn (fun i g s x => Nat.lt_of_lt_of_le (H'.fresh i g s x) hn), a, _, S, hr, rfl, rfl, rfl⟩
 have nofs : (∀ e ∈ E, e.1 ≠ s) → findF D.fs s = none := fun h => find_no hp h
 have hck := chunkS_is data
 cases z with
 | raw e =>
  refine done (n := 3) (a := e) (fs' := D.fs) (by decide) hv ?_ (close_raw H hp)
  unfold loadD
  rcases hz with ⟨rfl, h⟩ | ⟨rfl, h1, h2, h3, h4⟩
  · rw [if_pos h]
  · rw [if_neg (by rintro (h | h); · rw [h1] at h; cases h
                   · omega), if_pos ⟨nofs h3, by omega⟩]
 | old q L X pn now C1 ka kb kc =>
  obtain ⟨h1, h2, hq, h3⟩ := hz
  have hl : (filesOf E)[q]? = some (s, X) := by rw [List.getElem?_map, hq]; rfl
  have hlt : q < (filesOf E).length := by
   rcases Nat.lt_or_ge q (filesOf E).length with y | y
   · exact y
   · rw [List.getElem?_eq_none y] at hl; cases hl
  have H2 : HRel F B w0 m (focH D.k E q C1 (laidX pn ka kb kc)) 7 w := leave_file H (r := 2) rfl hq
  refine done (n := 7) (a := 0) (by decide) hv ?_ (close_foc H2 hq (laid_ok h3 ka kb kc) (put_perm hp hs hl (perm_erase hl) (erase_set_perm _ hlt)))
  unfold loadD
  rw [if_neg (by rintro (h | h); · rw [h1] at h; cases h
                 · omega), if_neg (by rintro ⟨h, _⟩; rw [find_perm hp hs hq] at h; cases h)]
  dsimp only
  rw [hck]
 | new pn now C1 ka kb kc =>
  obtain ⟨h1, h2, h3, h4, h5⟩ := hz
  refine done (n := 7) (a := 0) (by decide) hv ?_ (close_add H (laid_ok h5 ka kb kc) (put_snoc hp (nofs h3)))
  unfold loadD
  rw [if_neg (by rintro (h | h); · rw [h1] at h; cases h
                 · omega), if_neg (by rintro ⟨_, h⟩; omega)]
  dsimp only
  rw [hck]
end Go.Proofs.YtelolcagncgfpaaGreat
