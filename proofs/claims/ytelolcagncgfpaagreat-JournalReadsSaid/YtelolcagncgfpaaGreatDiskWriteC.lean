/- The disk: a sector is written: the ways out. The disk: a sector is written. -/
import Derived.Test.YtelolcagncgfpaaGreatDiskTotal
namespace Go.Proofs.YtelolcagncgfpaaGreat
open Go.RowKit
set_option linter.unusedSimpArgs false
set_option linter.unusedVariables false
attribute [local irreducible] bytesOf strOf strEq strLt sfrom begS
def P13 : PT := (.yes 0 (.yes 1 (.yes 2 (.yes 3 (.yes 4 (.yes 5 (.yes 6 (.yes 9 (.yes 10 (.yes 11 (.yes 12 (.yes 15 (.yes 16 (.yes 17 (.yes 18 (.three 7 false 13 false 19 false (.three 8 false 13 false 19 false (.two 13 false 19 false (.two 14 false 19 false (.one 19 false (.one 20 true (.yes 21 (.yes 22 (.one 23 true (.yes 24 (.yes 25 (.one 26 true (.yes 27 (.yes 28 (.one 29 true .nil))))))))))) (.one 14 false (.one 20 true (.yes 21 (.yes 22 (.one 23 true (.yes 24 (.yes 25 (.one 26 true (.yes 27 (.yes 28 (.one 29 true .nil)))))))))))) (.one 13 false (.one 14 false (.one 20 true (.yes 21 (.yes 22 (.one 23 true (.yes 24 (.yes 25 (.one 26 true (.yes 27 (.yes 28 (.one 29 true .nil))))))))))))) (.two 8 false 19 false (.two 14 false 19 false (.one 19 false (.one 20 true (.yes 21 (.yes 22 (.one 23 true (.yes 24 (.yes 25 (.one 26 true (.yes 27 (.yes 28 (.one 29 true .nil))))))))))) (.one 14 false (.one 20 true (.yes 21 (.yes 22 (.one 23 true (.yes 24 (.yes 25 (.one 26 true (.yes 27 (.yes 28 (.one 29 true .nil)))))))))))) (.one 8 false (.one 14 false (.one 20 true (.yes 21 (.yes 22 (.one 23 true (.yes 24 (.yes 25 (.one 26 true (.yes 27 (.yes 28 (.one 29 true .nil))))))))))))) (.two 8 false 13 false (.one 13 false (.one 14 false (.one 20 true (.yes 21 (.yes 22 (.one 23 true (.yes 24 (.yes 25 (.one 26 true (.yes 27 (.yes 28 (.one 29 true .nil)))))))))))) (.one 8 false (.one 14 false (.one 20 true (.yes 21 (.yes 22 (.one 23 true (.yes 24 (.yes 25 (.one 26 true (.yes 27 (.yes 28 (.one 29 true .nil)))))))))))))) (.two 7 false 19 false (.two 8 false 19 false (.two 14 false 19 false (.one 19 false (.one 20 true (.yes 21 (.yes 22 (.one 23 true (.yes 24 (.yes 25 (.one 26 true (.yes 27 (.yes 28 (.one 29 true .nil))))))))))) (.one 14 false (.one 20 true (.yes 21 (.yes 22 (.one 23 true (.yes 24 (.yes 25 (.one 26 true (.yes 27 (.yes 28 (.one 29 true .nil)))))))))))) (.one 8 false (.one 14 false (.one 20 true (.yes 21 (.yes 22 (.one 23 true (.yes 24 (.yes 25 (.one 26 true (.yes 27 (.yes 28 (.one 29 true .nil))))))))))))) (.one 7 false (.one 8 false (.one 14 false (.one 20 true (.yes 21 (.yes 22 (.one 23 true (.yes 24 (.yes 25 (.one 26 true (.yes 27 (.yes 28 (.one 29 true .nil)))))))))))))) (.two 7 false 13 false (.two 8 false 13 false (.one 13 false (.one 14 false (.one 20 true (.yes 21 (.yes 22 (.one 23 true (.yes 24 (.yes 25 (.one 26 true (.yes 27 (.yes 28 (.one 29 true .nil)))))))))))) (.one 8 false (.one 14 false (.one 20 true (.yes 21 (.yes 22 (.one 23 true (.yes 24 (.yes 25 (.one 26 true (.yes 27 (.yes 28 (.one 29 true .nil))))))))))))) (.one 7 false (.one 8 false (.one 14 false (.one 20 true (.yes 21 (.yes 22 (.one 23 true (.yes 24 (.yes 25 (.one 26 true (.yes 27 (.yes 28 (.one 29 true .nil))))))))))))))))))))))))))))))
theorem still_snoc {l : List Value} {u : Value} (h : ∀ v ∈ l, still1 v = true) (hu : still1 u = true) : ∀ v ∈ l ++ [u], still1 v = true := fun v hv => by
 rcases List.mem_append.1 hv with hv | hv
 · exact h v hv
 · rw [List.mem_singleton.1 hv]; exact hu
theorem still_nil : ∀ v ∈ ([] : List Value), still1 v = true := fun v hv => by cases hv
theorem still_cons {l : List Value} {u : Value} (hu : still1 u = true) (h : ∀ v ∈ l, still1 v = true) : ∀ v ∈ u :: l, still1 v = true := fun v hv => by
 rcases List.mem_cons.1 hv with rfl | hv
 · exact hu
 · exact h v hv
theorem still_setb {l : List Value} (h : ∀ v ∈ l, still1 v = true) (i : Nat) (b : Bool) : ∀ v ∈ l.set i (.bool b), still1 v = true := fun v hv => by
 rcases List.mem_or_eq_of_mem_set hv with hv | rfl
 · exact h v hv
 · rfl
def isP (v : Value) : Prop := v = .pointer none ∨ ∃ g, v = rp g
theorem isP_map (l : List Nat) : ∀ v ∈ l.map (fun p => rp p), isP v := fun v hv => by obtain ⟨g, _, rfl⟩ := List.mem_map.1 hv; exact .inr ⟨g, rfl⟩
theorem isP_snoc (l : List Nat) : ∀ v ∈ l.map (fun p => rp p) ++ [.pointer none], isP v := fun v hv => by
 rcases List.mem_append.1 hv with hv | hv
 · exact isP_map l v hv
 · rw [List.mem_singleton.1 hv]; exact .inl rfl
theorem isP_one : ∀ v ∈ [Value.pointer none], isP v := fun v hv => by rw [List.mem_singleton.1 hv]; exact .inl rfl
theorem isP_cov {np : Nat} {L : IdMap} : ∀ {l : List Value}, (∀ v ∈ l, isP v) → LR (cov1 np L) l l
 | [], _ => trivial
 | v :: l, h => by
  refine ⟨?_, isP_cov fun u hu => h u (List.mem_cons_of_mem _ hu)⟩
  rcases h v List.mem_cons_self with rfl | ⟨g, rfl⟩
  · exact rfl
  · exact ⟨rfl, rfl, rfl⟩
theorem covL_setp {np : Nat} {L : IdMap} {l : List Value} (h : ∀ v ∈ l, isP v) {q i j : Nat} (e : cov1 np L (ptr i) (ptr j)) : covL np L (l.set q (ptr i)) (l.set q (ptr j)) := .inr (LR.set q (isP_cov h) e)
theorem covL_snocp {np : Nat} {L : IdMap} {E : EL} {i j : Nat} (e : cov1 np L (ptr i) (ptr j)) : covL np L (spots E ++ [ptr i]) (spots E ++ [ptr j]) :=
 .inr (LR.append (isP_cov fun v hv => by obtain ⟨x, _, rfl⟩ := List.mem_map.1 hv; exact .inr ⟨_, rfl⟩) ⟨e, trivial⟩)
theorem found_new {k k' : Dk} {s : ByteArray} {r : Bool} {E : EL} {e : Int} (h : FoundR k s r E (e, k', none)) (he : e = 14) : ∀ x ∈ E, x.1 ≠ s := by
 rcases h.2 with ⟨h1, _, _⟩ | ⟨_, _, _, hN⟩ | ⟨_, _, q, L, X, _, hc⟩
 · exact absurd (h1.symm.trans he) (begS_n14 _ _ _)
 · exact hN
 · cases hc
theorem put_new {E : EL} {s : ByteArray} {v : Value} (hN : ∀ x ∈ E, x.1 ≠ s) : PutOb (names E) (spots E) (.string s) v (names E ++ [.string s]) (spots E ++ [v]) where
 kinds u hu := by obtain ⟨e, _, rfl⟩ := List.mem_map.1 hu; rfl
 len := by rw [List.length_map, List.length_map]
 old j hj := by
  obtain ⟨u, hu, rfl⟩ := hj.mem
  obtain ⟨e, he, hv⟩ := List.mem_map.1 hu
  simp only [Value.string.injEq] at hv
  exact absurd hv (hN e he)
 new _ := ⟨rfl, rfl⟩
theorem put_foc {E : EL} (hn : (E.map fun e => e.1).Nodup) {q i : Nat} {s : ByteArray} {L : LF} {X : Fl} (hq : E[q]? = some (s, L, X)) : PutOb (names E) ((spots E).set q (ptr i)) (.string s) (ptr i) (names E) ((spots E).set q (ptr i)) where
 kinds u hu := by obtain ⟨e, _, rfl⟩ := List.mem_map.1 hu; rfl
 len := by rw [List.length_set, List.length_map, List.length_map]
 old j hj := by
  obtain rfl := first_q hn hq hj
  refine ⟨rfl, ?_⟩
  rw [List.set_set]
 new hN := absurd rfl (hN (.string s) (List.mem_map.2 ⟨_, List.mem_of_getElem? hq, rfl⟩))
inductive WO where
 | raw (e : Int) (k : Dk)
 | foc (e : Int) (k : Dk) (q : Nat) (L : LF) (X : Fl)
 | old (e : Int) (k : Dk) (q : Nat) (nl ka : Nat) (nv : List Value) (sl kb : Nat) (sv : List Value) (wl kc : Nat) (wv : List Value) (sure : Bool)
 | new (e : Int) (k : Dk) (ka kb kc : Nat)
abbrev WO.e : WO → Int | .raw e _ => e | .foc e _ _ _ _ => e | .old e _ _ _ _ _ _ _ _ _ _ _ _ => e | .new e _ _ _ _ => e
abbrev WO.h (s data : ByteArray) (E : EL) (C : CM) : WO → HP
 | .raw _ k => rawH k E C
 | .foc _ k q L X => focH k E q C (fxOf L X)
 | .old _ k q nl ka nv sl kb sv wl kc wv sure => [(0, .own 58 (dkv 1 k)), (1, .mp (names E) ((spots E).set q (ptr 3))), (2, restI (E.eraseIdx q) C), (3, .own 69 [mslice 4 nl ka, mslice 5 sl kb, mslice 6 wl kc, .bool sure]),
  (4, .lst 70 1 ka nv), (5, .lst 70 1 kb sv), (6, .lst 4 1 kc wv), (7, .own 73 (cellv (some data)))]
 | .new _ k ka kb kc => [(0, .own 58 (dkv 1 k)), (1, .mp (names E ++ [.string s]) (spots E ++ [ptr 3])), (2, restI E C), (3, .own 69 [mslice 4 1 ka, mslice 5 1 kb, mslice 6 1 kc, .bool false]),
  (4, .lst 70 1 ka [ptr 7]), (5, .lst 70 1 kb [.pointer none]), (6, .lst 4 1 kc [.bool true]), (7, .own 73 (cellv (some data)))]
abbrev WO.n : WO → Nat | .raw .. => 3 | .foc .. => 7 | _ => 8
def WO.R (k : Dk) (s : ByteArray) (i : Int) (data : ByteArray) (E : EL) (C : CM) : WO → Prop
 | .raw e k' => ∃ f, FoundR k s (decide (0 ≤ i) && decide (data.size = 256)) E (f, k', none) ∧ f ≠ 0 ∧ (((f ≠ 14 ∨ 0 < i) ∧ e = f) ∨ (f = 14 ∧ i ≤ 0 ∧ (8 ≤ E.length ∨ k'.room ≤ total (filesOf E)) ∧ e = 12))
 | .foc e k' q L X => FoundR k s (decide (0 ≤ i) && decide (data.size = 256)) E (0, k', some L) ∧ E[q]? = some (s, L, X) ∧ FxOk C (fxOf L X) X ∧ (((X.now.length : Int) < i ∧ e = 14) ∨ (i = X.now.length ∧ k'.room ≤ total (filesOf E) ∧ e = 12))
 | .old e k' q nl ka nv sl kb sv wl kc wv sure => e = 0 ∧ ∃ (L : LF) (X : Fl), FoundR k s (decide (0 ≤ i) && decide (data.size = 256)) E (0, k', some L) ∧ E[q]? = some (s, L, X) ∧ FxOk C (fxOf L X) X ∧ sure = X.sure ∧
  ((0 ≤ i ∧ i < X.now.length ∧ nl = X.now.length ∧ nv = (L.pn.map fun p => rp p).set i.toNat (ptr 7) ∧ sl = X.now.length ∧ sv = L.ps.map ro ∧ wl = X.now.length ∧ wv = (X.wait.map Value.bool).set i.toNat (Value.bool true)) ∨
   (i = X.now.length ∧ ¬ k'.room ≤ total (filesOf E) ∧ nl = X.now.length + 1 ∧ nv = (L.pn.map (fun p => rp p) ++ [Value.pointer none]).set i.toNat (ptr 7) ∧ sl = X.now.length + 1 ∧ sv = L.ps.map ro ++ [Value.pointer none] ∧ wl = X.now.length + 1 ∧ wv = (X.wait.map Value.bool ++ [Value.bool false]).set i.toNat (Value.bool true)))
 | .new e k' _ _ _ => e = 0 ∧ ∃ f, FoundR k s (decide (0 ≤ i) && decide (data.size = 256)) E (f, k', none) ∧ f = 14 ∧ i = 0 ∧ ¬ 8 ≤ E.length ∧ ¬ k'.room ≤ total (filesOf E)
theorem right_yes {i : Int} {d : ByteArray} (h : 0 ≤ i) : decide ((d.size : Int) = 256) = (decide (0 ≤ i) && decide (d.size = 256)) := by
 rw [decide_eq_true h, Bool.true_and]
 exact Bool.eq_iff_iff.2 (by rw [decide_eq_true_iff, decide_eq_true_iff]; omega)
theorem right_no {i : Int} {d : ByteArray} (h : i < 0) : false = (decide (0 ≤ i) && decide (d.size = 256)) := by
 rw [decide_eq_false (by omega), Bool.false_and]
theorem found_neg {k k' : Dk} {s : ByteArray} {E : EL} {e : Int} (h : FoundR k s false E (e, k', none)) : e = 1 := by
 have hb : (begS k s false).1 = 1 := by unfold begS; rw [if_pos (.inr rfl)]
 rcases h.2 with ⟨h1, _, _⟩ | ⟨h1, _, _⟩ | ⟨h1, _⟩
 · exact h1.trans hb
 · rw [hb] at h1; exact absurd h1 (by decide)
 · rw [hb] at h1; exact absurd h1 (by decide)
theorem putL_one (l : List Value) (i : Nat) (v : Value) : putL l (0 + i * 1) [v] = l.set i v := by simp [putL]
theorem cvDiskWriteC1 {p : Prop} (h : p := by have nw := True.intro; (repeat' (first | exact True.intro | (with_reducible exact rfl) | (with_reducible exact AbsLe.refl) | (guard_target =~ @Eq Nat _ _; first | exact rfl | omega) | (guard_target =~ List.map _ _ = []; exact rfl) | (first | exact covL_still rfl (still_snoc (still_map (fun _ => rfl) _) rfl) | exact covL_still rfl (still_snoc (still_map ro_still _) rfl) | exact covL_still rfl (still_cons rfl still_nil) | exact covL_still rfl (still_setb (still_map (fun _ => rfl) _) _ _) | exact covL_still rfl (still_setb (still_snoc (still_map (fun _ => rfl) _) rfl) _ _) | exact covL_still rfl (still_setb (still_cons rfl still_nil) _ _) | apply covL_setp (isP_map _) | apply covL_setp (isP_snoc _) | apply covL_setp isP_one | apply covL_snocp | first | exact covL_still rfl hvs | exact covL_still rfl (still_map (fun _ => rfl) _) | exact covL_still rfl (still_map ro_still _) | (apply covL_set <;> (try clear nw) <;> have nw := True.intro) | exact congrArg (Value.int _) (by (try dsimp only); omega)) | (exact congrArg (Value.int _) (by omega)) | (exact covL_flat (flat_map (fun _ => rfl) _)) | (exact covL_flat flat_nil) | (refine covP_all ?_; (try clear nw); have nw := True.intro) | (refine covL_each ?_; (try clear nw); have nw := True.intro) | (refine ⟨?_, ?_⟩ <;> (try clear nw) <;> have nw := True.intro) | (guard_hyp nw : True; ((conv => whnf) <;> clear nw)))); (first | done | fail)) : p := h
set_option maxRecDepth 100000 in
theorem leafA (k k' : Dk) (s : ByteArray) (i e : Int) (data : ByteArray) (E : EL) (C : CM) (hR : FoundR k s (decide ((data.size : Int) = 256)) E (e, k', none)) (he : e ≠ 0) (h0 : 0 ≤ i) (hb : ¬ e = 14) :
 Ends 3 (fun z : WO => WO.R k s i data E C z) (fun z => iv z.e) (fun z => WO.h s data E C z) (fun z => z.n) (packV [iv e]) [(0, .own 58 [Value.map (some 1), iv k'.room, Value.bool k'.down, iv k'.ops, iv k'.life, iv k'.at', iv k'.kind, iv k'.more]), (1, Itm.mp (names E) (spots E)), (2, Itm.abs true (SR E C) fun x => RestAt E C)] := by
 have hvs := spots_still E
 try simp only [putL_one]
 (refine Ends.go (WO.raw e k') ?_ [] (Fit.q cvDiskWriteC1 (by rfl) (by rfl)))
 (have hR2 := hR; first | rw [right_yes (i := i) (by omega)] at hR2 | rw [right_no (i := i) (by omega)] at hR2)
 exact ⟨e, hR2, he, .inl ⟨by omega, rfl⟩⟩
set_option maxRecDepth 100000 in
theorem leafB (k k' : Dk) (s : ByteArray) (i e : Int) (data : ByteArray) (E : EL) (C : CM) (hR : FoundR k s (decide ((data.size : Int) = 256)) E (e, k', none)) (he : e ≠ 0) (h0 : 0 ≤ i) (h1 : e = 14) (hb : 0 < i) :
 Ends 3 (fun z : WO => WO.R k s i data E C z) (fun z => iv z.e) (fun z => WO.h s data E C z) (fun z => z.n) (packV [iv e]) [(0, .own 58 [Value.map (some 1), iv k'.room, Value.bool k'.down, iv k'.ops, iv k'.life, iv k'.at', iv k'.kind, iv k'.more]), (1, Itm.mp (names E) (spots E)), (2, Itm.abs true (SR E C) fun x => RestAt E C)] := by
 have hvs := spots_still E
 try simp only [putL_one]
 (refine Ends.go (WO.raw e k') ?_ [] (Fit.q cvDiskWriteC1 (by rfl) (by rfl)))
 (have hR2 := hR; first | rw [right_yes (i := i) (by omega)] at hR2 | rw [right_no (i := i) (by omega)] at hR2)
 exact ⟨e, hR2, he, .inl ⟨by omega, rfl⟩⟩
set_option maxRecDepth 100000 in
theorem leafCc (k k' : Dk) (s : ByteArray) (i e : Int) (data : ByteArray) (E : EL) (C : CM) (hR : FoundR k s (decide ((data.size : Int) = 256)) E (e, k', none)) (he : e ≠ 0) (h0 : 0 ≤ i) (h1 : e = 14) (h2 : i ≤ 0) (hb : 8 ≤ ((names E).length : Int)) :
 Ends 3 (fun z : WO => WO.R k s i data E C z) (fun z => iv z.e) (fun z => WO.h s data E C z) (fun z => z.n) (packV [.int .i64 12]) [(6, .own 69 [Value.slice none 0 0, Value.slice none 0 0, Value.slice none 0 0, Value.bool false]), (0, .own 58 [Value.map (some 1), iv k'.room, Value.bool k'.down, iv k'.ops, iv k'.life, iv k'.at', iv k'.kind, iv k'.more]), (1, Itm.mp (names E) (spots E)), (2, Itm.abs true (SR E C) fun x => RestAt E C)] := by
 have hvs := spots_still E
 try simp only [putL_one]
 (refine Ends.go (WO.raw 12 k') ?_ [] (Fit.q cvDiskWriteC1 (by rfl) (by rfl)))
 (have hR2 := hR; first | rw [right_yes (i := i) (by omega)] at hR2 | rw [right_no (i := i) (by omega)] at hR2)
 refine ⟨e, hR2, he, .inr ⟨by omega, by omega, ?_, rfl⟩⟩
 left; simp only [List.length_map] at *; omega
set_option maxRecDepth 100000 in
theorem leafD (k k' : Dk) (s : ByteArray) (i e : Int) (data : ByteArray) (E : EL) (C : CM) (hR : FoundR k s (decide ((data.size : Int) = 256)) E (e, k', none)) (he : e ≠ 0) (h0 : 0 ≤ i) (h1 : e = 14) (h2 : i ≤ 0) (h3 : ((names E).length : Int) < 8) (h4 : i = ((0 : Nat) : Int)) (z : Int) (hz : z = total (filesOf E)) (hb : k'.room ≤ z) :
 Ends 3 (fun z : WO => WO.R k s i data E C z) (fun z => iv z.e) (fun z => WO.h s data E C z) (fun z => z.n) (packV [.int .i64 12]) [(6, .own 69 [Value.slice none 0 0, Value.slice none 0 0, Value.slice none 0 0, Value.bool false]), (0, .own 58 [Value.map (some 1), iv k'.room, Value.bool k'.down, iv k'.ops, iv k'.life, iv k'.at', iv k'.kind, iv k'.more]), (1, Itm.mp (names E) (spots E)), (2, Itm.abs true (SR E C) fun x => RestAt E C)] := by
 have hvs := spots_still E
 try simp only [putL_one]
 (refine Ends.go (WO.raw 12 k') ?_ [] (Fit.q cvDiskWriteC1 (by rfl) (by rfl)))
 (have hR2 := hR; first | rw [right_yes (i := i) (by omega)] at hR2 | rw [right_no (i := i) (by omega)] at hR2)
 exact ⟨e, hR2, he, .inr ⟨by omega, by omega, .inr (by omega), rfl⟩⟩
set_option maxRecDepth 100000 in
theorem leafEe (k k' : Dk) (s : ByteArray) (i e : Int) (data : ByteArray) (E : EL) (C : CM) (hR : FoundR k s (decide ((data.size : Int) = 256)) E (e, k', none)) (he : e ≠ 0) (h0 : 0 ≤ i) (h1 : e = 14) (h2 : i ≤ 0) (h3 : ((names E).length : Int) < 8) (h4 : i = ((0 : Nat) : Int)) (z : Int) (hz : z = total (filesOf E)) (h5 : z < k'.room) (hb : i = ((0 : Nat) : Int)) (x : Nat × Nat × Nat) :
 Ends 3 (fun z : WO => WO.R k s i data E C z) (fun z => iv z.e) (fun z => WO.h s data E C z) (fun z => z.n) (packV [.int .i64 0]) [(7, .own 73 [Value.string data, Value.bool false]), (0, .own 58 (dkv 1 k')), (1, Itm.mp (names E ++ [Value.string s]) (spots E ++ [ptr 3])), (2, restI E C), (3, .own 69 [mslice 4 1 x.1, mslice 5 1 x.2.1, mslice 6 1 x.2.2, .bool false]), (4, .lst 70 1 x.1 (putL [Value.pointer none] (0 + i.toNat * 1) [Value.pointer (some { block := 7, off := 0 })])), (5, .lst 70 1 x.2.1 [.pointer none]), (6, .lst 4 1 x.2.2 (putL [Value.bool false] (0 + i.toNat * 1) [Value.bool true]))] := by
 have hvs := spots_still E
 try simp only [putL_one]
 obtain rfl : i = 0 := (by omega)
 (refine Ends.go (WO.new 0 k' x.1 x.2.1 x.2.2) ?_ [(3, some 3), (4, some 4), (5, some 5), (6, some 6), (7, some 7)] (Fit.q cvDiskWriteC1 (by rfl) (by rfl)))
 (have hR2 := hR; rw [right_yes (i := 0) (by omega)] at hR2)
 exact ⟨rfl, e, hR2, by omega, rfl, by simp only [List.length_map] at *; omega, by omega⟩
set_option maxRecDepth 100000 in
theorem leafF (k k' : Dk) (s : ByteArray) (i e : Int) (data : ByteArray) (E : EL) (C : CM) (q : Nat) (L : LF) (X : Fl) (hR : FoundR k s (decide ((data.size : Int) = 256)) E (e, k', some L)) (he : e = 0) (hq : E[q]? = some (s, L, X)) (hok : FxOk C (fxOf L X) X) (hcp : FxCap (fxOf L X)) (h0 : 0 ≤ i) (hb : (L.pn.length : Int) < i) :
 Ends 3 (fun z : WO => WO.R k s i data E C z) (fun z => iv z.e) (fun z => WO.h s data E C z) (fun z => z.n) (packV [.int .i64 14]) [(0, .own 58 [Value.map (some 1), iv k'.room, Value.bool k'.down, iv k'.ops, iv k'.life, iv k'.at', iv k'.kind, iv k'.more]), (1, Itm.mp (names E) ((spots E).set q (ptr 6))), (2, Itm.abs true (SR (List.eraseIdx E q) C) fun x => RestAt (List.eraseIdx E q) C), (6, .own 69 [mslice 7 L.pn.length L.a.k, mslice 8 L.ps.length L.b.k, mslice 9 X.wait.length L.c.k, .bool X.sure]), (7, .lst 70 1 L.a.k (L.pn.map fun p => rp p)), (8, .lst 70 1 L.b.k (L.ps.map ro)), (9, .lst 4 1 L.c.k (X.wait.map Value.bool))] := by
 have hvs := spots_still E
 try simp only [putL_one]
 (refine Ends.go (WO.foc 14 k' q L X) ?_ [(3, some 6), (4, some 7), (5, some 8), (6, some 9)] (Fit.q cvDiskWriteC1 (by rfl) (by rfl)))
 (have hR2 := hR; first | rw [right_yes (i := i) (by omega)] at hR2 | rw [right_no (i := i) (by omega)] at hR2)
 subst he
 exact ⟨hR2, hq, hok, .inl ⟨by have h1 := hok.c1.len; dsimp only at h1; omega, rfl⟩⟩
set_option maxRecDepth 100000 in
theorem leafG (k k' : Dk) (s : ByteArray) (i e : Int) (data : ByteArray) (E : EL) (C : CM) (q : Nat) (L : LF) (X : Fl) (hR : FoundR k s (decide ((data.size : Int) = 256)) E (e, k', some L)) (he : e = 0) (hq : E[q]? = some (s, L, X)) (hok : FxOk C (fxOf L X) X) (hcp : FxCap (fxOf L X)) (h0 : 0 ≤ i) (h1 : i = (L.pn.length : Int)) (z : Int) (hz : z = total (filesOf E)) (hb : k'.room ≤ z) :
 Ends 3 (fun z : WO => WO.R k s i data E C z) (fun z => iv z.e) (fun z => WO.h s data E C z) (fun z => z.n) (packV [.int .i64 12]) [(0, .own 58 [Value.map (some 1), iv k'.room, Value.bool k'.down, iv k'.ops, iv k'.life, iv k'.at', iv k'.kind, iv k'.more]), (1, Itm.mp (names E) ((spots E).set q (ptr 6))), (2, Itm.abs true (SR (List.eraseIdx E q) C) fun x => RestAt (List.eraseIdx E q) C), (6, .own 69 [mslice 7 L.pn.length L.a.k, mslice 8 L.ps.length L.b.k, mslice 9 X.wait.length L.c.k, .bool X.sure]), (7, .lst 70 1 L.a.k (L.pn.map fun p => rp p)), (8, .lst 70 1 L.b.k (L.ps.map ro)), (9, .lst 4 1 L.c.k (X.wait.map Value.bool))] := by
 have hvs := spots_still E
 try simp only [putL_one]
 (refine Ends.go (WO.foc 12 k' q L X) ?_ [(3, some 6), (4, some 7), (5, some 8), (6, some 9)] (Fit.q cvDiskWriteC1 (by rfl) (by rfl)))
 (have hR2 := hR; first | rw [right_yes (i := i) (by omega)] at hR2 | rw [right_no (i := i) (by omega)] at hR2)
 subst he
 exact ⟨hR2, hq, hok, .inr ⟨by have h1 := hok.c1.len; dsimp only at h1; omega, by omega, rfl⟩⟩
set_option maxRecDepth 100000 in
theorem leafH (k k' : Dk) (s : ByteArray) (i e : Int) (data : ByteArray) (E : EL) (C : CM) (q : Nat) (L : LF) (X : Fl) (hR : FoundR k s (decide ((data.size : Int) = 256)) E (e, k', some L)) (he : e = 0) (hq : E[q]? = some (s, L, X)) (hok : FxOk C (fxOf L X) X) (hcp : FxCap (fxOf L X)) (e1 : L.pn.length = X.now.length) (e2 : L.ps.length = X.safe.length) (e3 : X.safe.length = X.now.length) (e4 : X.wait.length = X.now.length) (h0 : 0 ≤ i) (h1 : i = (L.pn.length : Int)) (z : Int) (hz : z = total (filesOf E)) (h5 : z < k'.room) (x : Nat × Nat × Nat) :
 Ends 3 (fun z : WO => WO.R k s i data E C z) (fun z => iv z.e) (fun z => WO.h s data E C z) (fun z => z.n) (packV [.int .i64 0]) [(7, .own 73 [Value.string data, Value.bool false]), (0, .own 58 (dkv 1 k')), (1, Itm.mp (names E) ((spots E).set q (ptr 3))), (2, restI (List.eraseIdx E q) C), (3, .own 69 [mslice 4 (L.pn.length + 1) x.1, mslice 5 (L.ps.length + 1) x.2.1, mslice 6 (X.wait.length + 1) x.2.2, .bool X.sure]), (4, .lst 70 1 x.1 (putL (L.pn.map (fun p => rp p) ++ [Value.pointer none]) (0 + i.toNat * 1) [Value.pointer (some { block := 7, off := 0 })])), (5, .lst 70 1 x.2.1 (L.ps.map ro ++ [.pointer none])), (6, .lst 4 1 x.2.2 (putL (X.wait.map Value.bool ++ [Value.bool false]) (0 + i.toNat * 1) [Value.bool true]))] := by
 have hvs := spots_still E
 try simp only [putL_one]
 (refine Ends.go (WO.old 0 k' q (L.pn.length + 1) x.1 ((L.pn.map (fun p => rp p) ++ [Value.pointer none]).set i.toNat (ptr 7)) (L.ps.length + 1) x.2.1 (L.ps.map ro ++ [Value.pointer none]) (X.wait.length + 1) x.2.2 ((X.wait.map Value.bool ++ [Value.bool false]).set i.toNat (.bool true)) X.sure) ?_ [(3, some 3), (4, some 4), (5, some 5), (6, some 6), (7, some 7)] (Fit.q cvDiskWriteC1 (by rfl) (by rfl)))
 (have hR2 := hR; first | rw [right_yes (i := i) (by omega)] at hR2 | rw [right_no (i := i) (by omega)] at hR2)
 subst he
 exact ⟨rfl, L, X, hR2, hq, hok, rfl, .inr ⟨by omega, by omega, by omega, rfl, by omega, rfl, by omega, rfl⟩⟩
set_option maxRecDepth 100000 in
theorem leafI (k k' : Dk) (s : ByteArray) (i e : Int) (data : ByteArray) (E : EL) (C : CM) (q : Nat) (L : LF) (X : Fl) (hR : FoundR k s (decide ((data.size : Int) = 256)) E (e, k', some L)) (he : e = 0) (hq : E[q]? = some (s, L, X)) (hok : FxOk C (fxOf L X) X) (hcp : FxCap (fxOf L X)) (e1 : L.pn.length = X.now.length) (e2 : L.ps.length = X.safe.length) (e3 : X.safe.length = X.now.length) (e4 : X.wait.length = X.now.length) (h0 : 0 ≤ i) (h1 : i ≤ (L.pn.length : Int)) (hb : ¬ i = (L.pn.length : Int)) :
 Ends 3 (fun z : WO => WO.R k s i data E C z) (fun z => iv z.e) (fun z => WO.h s data E C z) (fun z => z.n) (packV [.int .i64 0]) [(10, .own 73 [Value.string data, Value.bool false]), (0, .own 58 [Value.map (some 1), iv k'.room, Value.bool k'.down, iv k'.ops, iv k'.life, iv k'.at', iv k'.kind, iv k'.more]), (1, Itm.mp (names E) ((spots E).set q (ptr 6))), (2, Itm.abs true (SR (List.eraseIdx E q) C) fun x => RestAt (List.eraseIdx E q) C), (6, .own 69 [mslice 7 L.pn.length L.a.k, mslice 8 L.ps.length L.b.k, mslice 9 X.wait.length L.c.k, .bool X.sure]), (7, .lst 70 1 L.a.k (putL (L.pn.map fun p => rp p) (0 + i.toNat * 1) [Value.pointer (some { block := 10, off := 0 })])), (8, .lst 70 1 L.b.k (L.ps.map ro)), (9, .lst 4 1 L.c.k (putL (X.wait.map Value.bool) (0 + i.toNat * 1) [Value.bool true]))] := by
 have hvs := spots_still E
 try simp only [putL_one]
 (refine Ends.go (WO.old 0 k' q L.pn.length L.a.k ((L.pn.map fun p => rp p).set i.toNat (ptr 7)) L.ps.length L.b.k (L.ps.map ro) X.wait.length L.c.k ((X.wait.map Value.bool).set i.toNat (.bool true)) X.sure) ?_ [(3, some 6), (4, some 7), (5, some 8), (6, some 9), (7, some 10)] (Fit.q cvDiskWriteC1 (by rfl) (by rfl)))
 (have hR2 := hR; first | rw [right_yes (i := i) (by omega)] at hR2 | rw [right_no (i := i) (by omega)] at hR2)
 subst he
 exact ⟨rfl, L, X, hR2, hq, hok, rfl, .inl ⟨by omega, by omega, by omega, rfl, by omega, rfl, by omega, rfl⟩⟩
set_option maxRecDepth 100000 in
theorem leafJ (k k' : Dk) (s : ByteArray) (i e : Int) (data : ByteArray) (E : EL) (C : CM) (hR : FoundR k s false E (e, k', none)) (he : e ≠ 0) (h0 : i < 0) (hb : ¬ e = 14) :
 Ends 3 (fun z : WO => WO.R k s i data E C z) (fun z => iv z.e) (fun z => WO.h s data E C z) (fun z => z.n) (packV [iv e]) [(0, .own 58 [Value.map (some 1), iv k'.room, Value.bool k'.down, iv k'.ops, iv k'.life, iv k'.at', iv k'.kind, iv k'.more]), (1, Itm.mp (names E) (spots E)), (2, Itm.abs true (SR E C) fun x => RestAt E C)] := by
 have hvs := spots_still E
 try simp only [putL_one]
 (refine Ends.go (WO.raw e k') ?_ [] (Fit.q cvDiskWriteC1 (by rfl) (by rfl)))
 (have hR2 := hR; first | rw [right_yes (i := i) (by omega)] at hR2 | rw [right_no (i := i) (by omega)] at hR2)
 exact ⟨e, hR2, he, .inl ⟨by omega, rfl⟩⟩
end Go.Proofs.YtelolcagncgfpaaGreat
namespace Go.Proofs.YtelolcagncgfpaaGreat
open Go.RowKit
set_option linter.unusedSimpArgs false
set_option linter.unusedVariables false
attribute [local irreducible] bytesOf strOf strEq strLt sfrom begS
theorem rnDiskWriteC2 {p : Prop} (h : p := by refine ⟨?_, ?_, ?_⟩; (first | apply rR_tuple | apply rR_one rfl | exact rfl); all_goals (repeat' (first | (with_reducible (first | exact relH_nil | apply rn_lst | apply rn_own | apply rn_mp | apply rn_row | apply rn_abs | exact wo_nil)) | apply wo_keep rfl | apply wo_drop rfl | exact relH_nil | exact r1_flat rfl | exact r0_flat rfl | exact rl_nil | exact wo_nil | exact bk_old rfl | exact bk_new rfl | exact bk_nil rfl | apply rl_cons | (first | exact relL_still hvs | exact relL_still (still_map (fun _ => rfl) _) | exact relL_still (still_map ro_still _) | exact relL_flat (flat_map (fun _ => rfl) _) | apply relL_set) | exact relL_flat (flat_map (fun _ => rfl) _) | exact relL_flat flat_nil | apply relL_to | apply rn_lst | apply rn_own | apply rn_mp | apply rn_row | apply relH_view rfl | apply relH_lview rfl | apply relH_fact rfl | exact r1_rig | exact r0_rig | exact r1_rigs | exact r0_rigs | apply wo_keep rfl | apply wo_drop rfl | apply r1_agg | apply rn_ptr | apply rn_slice | apply rn_slice0 | apply rn_iface | apply rn_map | apply rn_ifacem | apply r0_map | apply r0_ifacem | apply r0_ptr | apply r0_slice | apply r0_slice0 | apply r0_iface)); (first | done | fail)) : p := h
set_option maxRecDepth 100000 in
set_option maxHeartbeats 0 in
theorem write_l (k : Dk) (s : ByteArray) (i : Int) (data : ByteArray) (E : EL) (C : CM) (hk : k.Fit) (hi : -9223372036854775808 ≤ i ∧ i ≤ 9223372036854775807) (hl : ∀ e ∈ E, e.2.2.Ok) (hs : total (filesOf E) ≤ 4611686018427387904) (hn : (E.map fun e => e.1).Nodup) (he8 : E.length ≤ 1000000) :
 CallOb Tryz.prog 74 [ptr 0, .string s, iv i, .string data] (rawH k E C) 3 (fun v hh m => ∃ z : WO, z.R k s i data E C ∧ v = iv z.e ∧ hh = z.h s data E C ∧ m = z.n) := by
 have hvs := spots_still E
 refine call_spec tabOk mixed Tryz.call74 Tryz.func74 rfl [(9, [(0, true), (1, true), (2, true), (3, true), (4, true), (5, true), (6, true), (7, true), (8, true), (10, true), (11, true), (12, true), (13, true), (9, false), (14, true), (15, true), (16, true)]), (14, [(0, true), (1, true), (2, true), (3, true), (4, true), (5, true), (6, true), (7, true), (8, true), (9, true), (10, true), (11, true), (12, false), (13, true), (1014, false), (15, true), (1016, false)])] (fun z : WO => z.R k s i data E C) (fun z => iv z.e) (fun z => z.h s data E C) (fun z => z.n) ?_ ?_
 · exact (Nat.le_of_ble_eq_true rfl)
 (repeat' ((try (conv => whnf)); first | (guard_target =~ ∃ (_ : Value), ∃ (_ : HP), ∃ (_ : HP), _; refine ⟨_, _, _, rnDiskWriteC2, ?_⟩; (try (dsimp only [Nat.reduceAdd, bC, bL]))) | (guard_target =~ CallOb _ 61 [_, _, .bool false] _ _ _; refine call_q (found_f k s false E C hk) [(0, some 0), (1, some 1), (2, some 2)] cvDiskWriteC1 rfT rfT rfT (fun v h1 n1 hp => ?_); rcases hp with ⟨e, k', hR, he, rfl, rfl, rfl⟩ | ⟨e, k', q, L, X, hR, he, hq, hok, hcp, rfl, rfl, rfl⟩) | (guard_target =~ CallOb _ 61 _ _ _ _; refine call_q (found_f k s (decide ((data.size : Int) = 256)) E C hk) [(0, some 0), (1, some 1), (2, some 2)] cvDiskWriteC1 rfT rfT rfT (fun v h1 n1 hp => ?_); rcases hp with ⟨e, k', hR, he, rfl, rfl, rfl⟩ | ⟨e, k', q, L, X, hR, he, hq, hok, hcp, rfl, rfl, rfl⟩) | (exfalso; exact Bool.noConfusion (found_true hR); done) | (guard_target =~ CallOb _ 95 _ _ _ _; first | refine total_raw (E := E) (C := C) rfl rfl rfl hs (fun z hz => ?_) | refine total_foc (E := E) (C := C) (q := q) (f := 6) hq rfl rfl rfl rfl hok.c1.len hs (fun z hz => ?_)) | (guard_target =~ ∃ ks' vs', PutOb _ _ _ _ ks' vs' ∧ _; first | (have hX := hl _ (List.mem_of_getElem? hq); have e0 : X.now.length ≤ 16384 := hX.len; have e1 : L.pn.length = X.now.length := hok.c1.len; have e2 : L.ps.length = X.safe.length := hok.c2.len; have e3 : X.safe.length = X.now.length := hX.safe; have e4 : X.wait.length = X.now.length := hX.wait; refine ⟨_, _, put_foc hn hq, ?_⟩) | refine ⟨_, _, put_new (found_new hR omT), ?_⟩) | (guard_target =~ RegOb _ _ _ _ _ _ _ _ _; refine reg_join tabOk mixed [7, 8, 9] P13 (by kernel_rfl) 7 (fun x : Nat × Nat × Nat => [(0, ptr 0), (1, .string s), (2, iv i), (3, .string data), (9, ptr 3)]) (fun x => [(0, .own 58 (dkv 1 k')), (1, .mp (names E) ((spots E).set q (ptr 3))), (2, restI (E.eraseIdx q) C), (3, .own 69 [mslice 4 (L.pn.length + 1) x.1, mslice 5 (L.ps.length + 1) x.2.1, mslice 6 (X.wait.length + 1) x.2.2, .bool X.sure]), (4, .lst 70 1 x.1 (L.pn.map (fun p => rp p) ++ [.pointer none])), (5, .lst 70 1 x.2.1 (L.ps.map ro ++ [.pointer none])), (6, .lst 4 1 x.2.2 (X.wait.map .bool ++ [.bool false]))]) (fun x => True) ?_ (fun x hx => ?_)) | (guard_target =~ RegOb _ _ _ _ _ _ _ _ _; refine reg_join tabOk mixed [] P13 (by kernel_rfl) 7 (fun x : Nat × Nat × Nat => [(0, ptr 0), (1, .string s), (2, iv i), (3, .string data), (9, ptr 3)]) (fun x => [(0, .own 58 (dkv 1 k')), (1, .mp (names E ++ [.string s]) (spots E ++ [ptr 3])), (2, restI E C), (3, .own 69 [mslice 4 1 x.1, mslice 5 1 x.2.1, mslice 6 1 x.2.2, .bool false]), (4, .lst 70 1 x.1 [.pointer none]), (5, .lst 70 1 x.2.1 [.pointer none]), (6, .lst 4 1 x.2.2 [.bool false])]) (fun x => True) ?_ (fun x hx => ?_)) | (guard_target =~ extH _ _ _ ∧ _; refine ⟨by (repeat' ((try (conv => whnf)); first | exact True.intro | exact trivial | (refine ⟨rfl, ?_⟩))); (first | done | fail), ?_⟩) | (guard_target =~ vcEff1 _ _ _ _ _ _ _ _ _ _ _ ∧ _; refine ⟨?_, ?_⟩) | (guard_target =~ ∀ (_ : Nat), _ → _; first | (have _h := c14; intro c20 h20) | (have _h := c8; intro c14 h14) | (intro c8 h8)) | (guard_target =~ Gone _ _ _ _ _ _ _; (first | (guard_target =~ Gone _ _ _ _ _ _ ((_, Itm.lst _ _ _ _) :: (_, Itm.row _ _ _ _) :: (_, Itm.lst _ _ _ _) :: (_, Itm.row _ _ _ _) :: (_, Itm.lst _ _ _ _) :: (_, Itm.row _ _ _ _) :: _); first | (have _q := hq; (refine Gone.go ((c8, c14, c20)) ?_ [(3, some 6), (4, some 11), (5, some 13), (6, some 15)] (Sub.q cvDiskWriteC1 (by rfl) (by rfl)))) | (first | (refine Gone.go ((c8, c14, c20)) ?_ [(3, some 6), (4, some 8), (5, some 10), (6, some 12)] (Sub.q cvDiskWriteC1 (by rfl) (by rfl))))) | (guard_target =~ Gone _ _ _ _ _ _ ((_, Itm.lst _ _ _ _) :: (_, Itm.lst _ _ _ _) :: (_, Itm.row _ _ _ _) :: (_, Itm.row _ _ _ _) :: (_, Itm.lst _ _ _ _) :: (_, Itm.row _ _ _ _) :: _); first | (have _q := hq; (refine Gone.go ((c8, c14, c20)) ?_ [(3, some 6), (4, some 11), (5, some 14), (6, some 15)] (Sub.q cvDiskWriteC1 (by rfl) (by rfl)))) | (first | (refine Gone.go ((c8, c14, c20)) ?_ [(3, some 6), (4, some 8), (5, some 11), (6, some 12)] (Sub.q cvDiskWriteC1 (by rfl) (by rfl))))) | (guard_target =~ Gone _ _ _ _ _ _ ((_, Itm.lst _ _ _ _) :: (_, Itm.row _ _ _ _) :: (_, Itm.lst _ _ _ _) :: (_, Itm.lst _ _ _ _) :: (_, Itm.row _ _ _ _) :: (_, Itm.row _ _ _ _) :: _); first | (have _q := hq; (refine Gone.go ((c8, c14, c20)) ?_ [(3, some 6), (4, some 12), (5, some 13), (6, some 15)] (Sub.q cvDiskWriteC1 (by rfl) (by rfl)))) | (first | (refine Gone.go ((c8, c14, c20)) ?_ [(3, some 6), (4, some 9), (5, some 10), (6, some 12)] (Sub.q cvDiskWriteC1 (by rfl) (by rfl))))) | (guard_target =~ Gone _ _ _ _ _ _ ((_, Itm.lst _ _ _ _) :: (_, Itm.lst _ _ _ _) :: (_, Itm.row _ _ _ _) :: (_, Itm.lst _ _ _ _) :: (_, Itm.row _ _ _ _) :: (_, Itm.row _ _ _ _) :: _); first | (have _q := hq; (refine Gone.go ((c8, c14, c20)) ?_ [(3, some 6), (4, some 12), (5, some 14), (6, some 15)] (Sub.q cvDiskWriteC1 (by rfl) (by rfl)))) | (first | (refine Gone.go ((c8, c14, c20)) ?_ [(3, some 6), (4, some 9), (5, some 11), (6, some 12)] (Sub.q cvDiskWriteC1 (by rfl) (by rfl))))) | (guard_target =~ Gone _ _ _ _ _ _ ((_, Itm.lst _ _ _ _) :: (_, Itm.lst _ _ _ _) :: (_, Itm.lst _ _ _ _) :: (_, Itm.row _ _ _ _) :: (_, Itm.row _ _ _ _) :: (_, Itm.row _ _ _ _) :: _); first | (have _q := hq; (refine Gone.go ((c8, c14, c20)) ?_ [(3, some 6), (4, some 13), (5, some 14), (6, some 15)] (Sub.q cvDiskWriteC1 (by rfl) (by rfl)))) | (first | (refine Gone.go ((c8, c14, c20)) ?_ [(3, some 6), (4, some 10), (5, some 11), (6, some 12)] (Sub.q cvDiskWriteC1 (by rfl) (by rfl)))))); exact True.intro) | (guard_target =~ (List.length _ = _) ∧ _; refine ⟨by (simp only [List.length_map, List.length_append, List.length_cons, List.length_nil, List.length_set]; omega), ?_⟩) | (refine ⟨i.toNat, by omega, by omega, ?_⟩) | (refine chk_in (Nat.ble_eq_true_of_le (by simp only [List.length_map, List.length_append, List.length_cons, List.length_nil, Itm.cells, List.length_set]; omega)) ?_) | (with_reducible first | refine chk_in (Nat.ble_eq_true_of_le omT) ?_ | (refine ifB_in ?_ ?_ <;> intro hb <;> (try simp only [bN1, bN2, bN3, bN4, bN5, bN6, bN7, bN8, bN9, bN0] at hb) <;> (try (exfalso; omega))) | refine ⟨_, w64b _, ?_⟩ | refine ⟨_, w64 omT omT, ?_⟩ | refine ⟨_, wu64 omT omT, ?_⟩ | refine ⟨_, wu8 omT omT, ?_⟩ | refine ⟨_, w64 szT szT, ?_⟩ | refine ⟨_, rfl, ?_⟩ | refine ⟨rfl, ?_⟩) | intro cap | (with_reducible refine ⟨trivial, ?_⟩) | (guard_target =~ (planChk _ _ = true) ∧ _; refine ⟨by kernel_rfl, ?_⟩) | (guard_target =~ (_ ∧ _) ∧ _; refine ⟨by ((repeat (first | exact trivial | refine ⟨rfl, ?_⟩)); (first | done | fail)), ?_⟩) | refine ⟨by omega, ?_⟩ | refine ⟨szT, ?_⟩ | refine ⟨0, rfl, ?_⟩ | refine ⟨1, rfl, ?_⟩ | refine ⟨2, rfl, ?_⟩ | refine ⟨3, rfl, ?_⟩ | refine ⟨4, rfl, ?_⟩ | refine ⟨5, rfl, ?_⟩ | (refine cell_at1 (by assumption) ?_) | (refine cell_in1 omT (fun x hx => ?_)) | fail)) <;> (try (conv => whnf))
 all_goals first
  | (exfalso; have hneg := found_neg hR; omega)
  | exact leafA k k' s i e data E C hR he (by omega) (by omega)
  | exact leafB k k' s i e data E C hR he (by omega) (by omega) (by omega)
  | exact leafJ k k' s i e data E C hR he (by omega) (by omega)
  | exact leafCc k k' s i e data E C hR he (by omega) (by omega) (by omega) (by omega)
  | exact leafD k k' s i e data E C hR he (by omega) (by omega) (by omega) (by omega) (by omega) z hz (by omega)
  | exact leafEe k k' s i e data E C hR he (by omega) (by omega) (by omega) (by omega) (by omega) z hz (by omega) (by omega) x
  | exact leafF k k' s i e data E C q L X hR he hq hok hcp (by omega) (by omega)
  | exact leafG k k' s i e data E C q L X hR he hq hok hcp (by omega) (by omega) z hz (by omega)
  | exact leafH k k' s i e data E C q L X hR he hq hok hcp e1 e2 e3 e4 (by omega) (by omega) z hz (by omega) x
  | exact leafI k k' s i e data E C q L X hR he hq hok hcp e1 e2 e3 e4 (by omega) (by omega) (by omega)
  | trace_state
end Go.Proofs.YtelolcagncgfpaaGreat
namespace Go.Proofs.YtelolcagncgfpaaGreat
open Go.RowKit
set_option linter.unusedSimpArgs false
set_option linter.unusedVariables false
attribute [local irreducible] bytesOf strOf strEq strLt sfrom begS
theorem total_perm {a b : Fs} (h : a.Perm b) : total a = total b := by
 unfold total
 exact (h.map _).sum_nat
theorem total_le {fs : Fs} (h : fs.Ok) : total fs ≤ 131072 := by
 have key : ∀ l : Fs, (∀ p ∈ l, p.2.Ok) → total l ≤ l.length * 16384 := by
  intro l
  induction l with
  | nil => intro _; exact Nat.zero_le _
  | cons p l ih =>
   intro hl
   have h1 := ih fun q hq => hl q (List.mem_cons_of_mem _ hq)
   have h2 := (hl p List.mem_cons_self).len
   unfold total at h1 ⊢
   rw [List.map_cons, List.sum_cons, List.length_cons]
   omega
 have h1 := key fs h.files
 have h2 := h.few
 omega
theorem write_c (S : Nat → Prop) (D : DM) (hD : D.Ok) (s : ByteArray) (i : Int) (data : ByteArray) (hi : -9223372036854775808 ≤ i ∧ i ≤ 9223372036854775807) :
 CallOb Tryz.prog 74 [ptr 0, .string s, iv i, .string data] [(0, diskI S D)] 1 (AbsP (fun a : Int => iv a) (fun a D' => (a, D') = writeD D s i data)) := by
 refine of_raw Tryz.call74 fun E C hp => ?_
 have hlen : E.length = D.fs.length := by have := hp.length_eq; rwa [List.length_map] at this
 have htot : total (filesOf E) = total D.fs := total_perm hp
 have hle := total_le hD.fs
 have hfew := hD.fs.few
 have hs := hD.fs.sorted
 refine (write_l D.k s i data E C hD.k hi (ok_files hp hD.fs) (by omega) (names_nodup hp hs) (by omega)).conv ?_
 rintro v h1 n1 ⟨z, hz, rfl, rfl, rfl⟩ F B w0 m w c H hv
 have done : ∀ {n : Nat} {D' : DM} {a : Int}, n ≤ 20 → VR m (iv a) c → (∃ S, HRel F B w0 m [(0, diskI S D')] n w) → (a, D') = writeD D s i data → ∃ m' v' h2 n2, m.le m' ∧ VR m' v' c ∧ HRel F B w0 m' h2 n2 w ∧ AbsP (fun a : Int => iv a) (fun a D' => (a, D') = writeD D s i data) v' h2 n2 := by
  rintro n D' a hn hv ⟨S, H'⟩ hr
  exact ⟨m, iv a, _, 20, BM.le_refl m, hv, H'.up (BM.le_refl m) H'.fn (fun i g s x => Nat.lt_of_lt_of_le (H'.fresh i g s x) hn), a, _, S, hr, rfl, rfl, rfl⟩
 -- a file that is there
 have foc : ∀ {k' : Dk} {q : Nat} {L : LF} {X : Fl}, FoundR D.k s (decide (0 ≤ i) && decide (data.size = 256)) E (0, k', some L) → E[q]? = some (s, L, X) →
  foundD D s (decide (0 ≤ i) && decide (data.size = 256)) = (0, ⟨k', D.fs⟩) ∧ findF D.fs s = some X ∧ ∀ X', ((filesOf E).set q (s, X')).Perm (putF D.fs s X') := by
  intro k' q L X hR hq
  obtain ⟨hf, hx⟩ := found_some hp hs hR hq
  have hl : (filesOf E)[q]? = some (s, X) := by rw [List.getElem?_map, hq]; rfl
  have hlt : q < (filesOf E).length := by
   rcases Nat.lt_or_ge q (filesOf E).length with y | y
   · exact y
   · rw [List.getElem?_eq_none y] at hl; cases hl
  exact ⟨hf, hx, fun X' => put_perm hp hs hl (perm_erase hl) (erase_set_perm _ hlt)⟩
 cases z with
 | raw e k' =>
  obtain ⟨f, hR, h0, hr⟩ := hz
  have hf := found_none hp hs hR
  refine done (n := 3) (a := e) (by decide) hv (close_raw H hp) ?_
  unfold writeD
  rw [hf]
  dsimp only
  rcases hr with ⟨h1, rfl⟩ | ⟨rfl, h1, h2, rfl⟩
  · rw [if_pos ⟨h0, h1⟩]
  · have hno := found_n14 hp hR rfl (begS_n14 _ _ _)
    have hge : 0 ≤ i := by
     rcases Int.lt_or_le i 0 with h | h
     · have hR2 := hR
       rw [← right_no h] at hR2
       exact absurd (found_neg hR2) (by decide)
     · exact h
    have h0 : i = 0 := by omega
    subst h0
    have e0 : (findF D.fs s).getD fl0 = fl0 := by rw [hno]; rfl
    rw [if_neg (by omega), e0, if_neg (show ¬ ((fl0.now.length : Int) < 0) by decide), if_pos]
    rcases h2 with h2 | h2
    · exact .inl ⟨rfl, by omega⟩
    · exact .inr ⟨rfl, by rw [← htot]; exact h2⟩
 | foc e k' q L X =>
  obtain ⟨hR, hq, hok, hr⟩ := hz
  obtain ⟨hf, hx, hput⟩ := foc hR hq
  refine done (n := 7) (a := e) (by decide) hv (close_foc H hq hok (hput X)) ?_
  rw [put_same hs hx]
  unfold writeD
  rw [hf, hx]
  dsimp only [Option.getD_some]
  rw [if_neg (by simp)]
  rcases hr with ⟨h1, rfl⟩ | ⟨h1, h2, rfl⟩
  · rw [if_pos h1]
  · rw [if_neg (by omega), if_pos (.inr ⟨h1, by rw [← htot]; exact h2⟩)]
 | old e k' q nl ka nv sl kb sv wl kc wv sure =>
  obtain ⟨rfl, L, X, hR, hq, hok, rfl, hr⟩ := hz
  obtain ⟨hf, hx, hput⟩ := foc hR hq
  have hX := ok_files hp hD.fs _ (List.mem_of_getElem? hq)
  have e1 : L.pn.length = X.now.length := hok.c1.len
  have e2 : L.ps.length = X.safe.length := hok.c2.len
  have e3 : X.safe.length = X.now.length := hX.safe
  have e4 : X.wait.length = X.now.length := hX.wait
  have m1 : ∀ g, All2 (fun p x => (p, x) ∈ (g, some data) :: C) L.pn X.now := fun g => hok.c1.mono fun _ _ h => List.mem_cons_of_mem _ h
  rcases hr with ⟨h0, h1, rfl, rfl, rfl, rfl, rfl, rfl⟩ | ⟨h1, h2, rfl, rfl, rfl, rfl, rfl, rfl⟩
  · refine done (n := 8) (a := 0) (by decide) hv (close_old H hq (X' := writeF X i.toNat data) (fun g => L.pn.set i.toNat g) L.ps (fun g hg l hl => nv_set H.fn hg hl) rfl ?_ ?_ ?_ ?_ ?_ ?_ ?_ (hput _)) ?_
    all_goals (try (unfold writeF; rw [if_neg (by omega)]; dsimp only))
    · rw [List.map_set]
    · unfold writeF; split <;> rfl
    · intro g; rw [List.length_set]; omega
    · omega
    · rw [List.length_set]; omega
    · exact fun g => (m1 g).set _ (List.Mem.head _)
    · exact hok.c2
    · unfold writeD
      rw [hf, hx]
      dsimp only [Option.getD_some]
      rw [if_neg (by simp), if_neg (by omega), if_neg]
      · rintro (⟨h, _⟩ | ⟨h, _⟩) <;> omega
  · refine done (n := 8) (a := 0) (by decide) hv (close_old H hq (X' := writeF X i.toNat data) (fun g => L.pn ++ [g]) (L.ps ++ [none]) (fun g hg l hl => nv_app H.fn hg (by omega) hl) ?_ ?_ ?_ ?_ ?_ ?_ ?_ ?_ (hput _)) ?_
    all_goals (try (unfold writeF; rw [if_pos (by omega)]; dsimp only))
    · rw [List.map_append]; rfl
    · have e : i.toNat = (X.wait.map Value.bool).length := by rw [List.length_map]; omega
      rw [e, set_len, List.map_append]; rfl
    · unfold writeF; split <;> rfl
    · intro g; rw [List.length_append, List.length_singleton]; omega
    · rw [List.length_append, List.length_singleton]; omega
    · rw [List.length_append, List.length_singleton]; omega
    · exact fun g => (m1 g).app ⟨List.Mem.head _, trivial⟩
    · exact hok.c2.app ⟨trivial, trivial⟩
    · unfold writeD
      rw [hf, hx]
      dsimp only [Option.getD_some]
      rw [if_neg (by simp), if_neg (by omega), if_neg]
      · rintro (⟨h, _⟩ | ⟨_, h⟩)
        · omega
        · rw [← htot] at h; omega
 | new e k' ka kb kc =>
  obtain ⟨rfl, f, hR, rfl, rfl, h1, h2⟩ := hz
  have hf := found_none hp hs hR
  have hno := found_n14 hp hR rfl (begS_n14 _ _ _)
  refine done (n := 8) (a := 0) (by decide) hv (close_new H (put_snoc hp hno)) ?_
  have e0 : (findF D.fs s).getD fl0 = fl0 := by rw [hno]; rfl
  unfold writeD
  rw [hf, e0]
  dsimp only
  rw [if_neg (by omega), if_neg (show ¬ ((fl0.now.length : Int) < 0) by decide), if_neg]
  · rfl
  · rintro (⟨_, h⟩ | ⟨_, h⟩)
    · omega
    · rw [← htot] at h; omega
end Go.Proofs.YtelolcagncgfpaaGreat
