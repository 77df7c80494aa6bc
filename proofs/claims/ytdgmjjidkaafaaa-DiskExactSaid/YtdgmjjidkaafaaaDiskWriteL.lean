/- The disk: a sector is written: the ways out. -/
import Derived.Test.YtdgmjjidkaafaaaDiskTotal
namespace Go.Proofs.Ytdgmjjidkaafaaa
open Go.RowKit
set_option linter.unusedSimpArgs false
set_option linter.unusedVariables false
attribute [local irreducible] bytesOf strOf strEq strLt sfrom begS
def P13 : PT := (.yes 0 (.yes 1 (.yes 2 (.yes 3 (.yes 4 (.yes 5 (.yes 6 (.yes 9 (.yes 10 (.yes 11 (.yes 12 (.yes 15 (.yes 16 (.yes 17 (.yes 18 (.three 7 false 13 false 19 false (.three 8 false 13 false 19 false (.two 13 false 19 false (.two 14 false 19 false (.one 19 false (.one 20 true (.yes 21 (.yes 22 (.one 23 true (.yes 24 (.yes 25 (.one 26 true (.yes 27 (.yes 28 (.one 29 true .nil))))))))))) (.one 14 false (.one 20 true (.yes 21 (.yes 22 (.one 23 true (.yes 24 (.yes 25 (.one 26 true (.yes 27 (.yes 28 (.one 29 true .nil)))))))))))) (.one 13 false (.one 14 false (.one 20 true (.yes 21 (.yes 22 (.one 23 true (.yes 24 (.yes 25 (.one 26 true (.yes 27 (.yes 28 (.one 29 true .nil))))))))))))) (.two 8 false 19 false (.two 14 false 19 false (.one 19 false (.one 20 true (.yes 21 (.yes 22 (.one 23 true (.yes 24 (.yes 25 (.one 26 true (.yes 27 (.yes 28 (.one 29 true .nil))))))))))) (.one 14 false (.one 20 true (.yes 21 (.yes 22 (.one 23 true (.yes 24 (.yes 25 (.one 26 true (.yes 27 (.yes 28 (.one 29 true .nil)))))))))))) (.one 8 false (.one 14 false (.one 20 true (.yes 21 (.yes 22 (.one 23 true (.yes 24 (.yes 25 (.one 26 true (.yes 27 (.yes 28 (.one 29 true .nil))))))))))))) (.two 8 false 13 false (.one 13 false (.one 14 false (.one 20 true (.yes 21 (.yes 22 (.one 23 true (.yes 24 (.yes 25 (.one 26 true (.yes 27 (.yes 28 (.one 29 true .nil)))))))))))) (.one 8 false (.one 14 false (.one 20 true (.yes 21 (.yes 22 (.one 23 true (.yes 24 (.yes 25 (.one 26 true (.yes 27 (.yes 28 (.one 29 true .nil)))))))))))))) (.two 7 false 19 false (.two 8 false 19 false (.two 14 false 19 false (.one 19 false (.one 20 true (.yes 21 (.yes 22 (.one 23 true (.yes 24 (.yes 25 (.one 26 true (.yes 27 (.yes 28 (.one 29 true .nil))))))))))) (.one 14 false (.one 20 true (.yes 21 (.yes 22 (.one 23 true (.yes 24 (.yes 25 (.one 26 true (.yes 27 (.yes 28 (.one 29 true .nil)))))))))))) (.one 8 false (.one 14 false (.one 20 true (.yes 21 (.yes 22 (.one 23 true (.yes 24 (.yes 25 (.one 26 true (.yes 27 (.yes 28 (.one 29 true .nil))))))))))))) (.one 7 false (.one 8 false (.one 14 false (.one 20 true (.yes 21 (.yes 22 (.one 23 true (.yes 24 (.yes 25 (.one 26 true (.yes 27 (.yes 28 (.one 29 true .nil)))))))))))))) (.two 7 false 13 false (.two 8 false 13 false (.one 13 false (.one 14 false (.one 20 true (.yes 21 (.yes 22 (.one 23 true (.yes 24 (.yes 25 (.one 26 true (.yes 27 (.yes 28 (.one 29 true .nil)))))))))))) (.one 8 false (.one 14 false (.one 20 true (.yes 21 (.yes 22 (.one 23 true (.yes 24 (.yes 25 (.one 26 true (.yes 27 (.yes 28 (.one 29 true .nil))))))))))))) (.one 7 false (.one 8 false (.one 14 false (.one 20 true (.yes 21 (.yes 22 (.one 23 true (.yes 24 (.yes 25 (.one 26 true (.yes 27 (.yes 28 (.one 29 true .nil))))))))))))))))))))))))))))))
theorem still_snoc {l : List Value} {u : Value} (h : ∀ v ∈ l, still1 v = true) (hu : still1 u = true) : ∀ v ∈ l ++ [u], still1 v = true := fun v hv => by
  rcases List.mem_append.1 hv with hv | hv
  · exact h v hv
  · rw [List.mem_singleton.1 hv]; exact hu
theorem still_nil : ∀ v ∈ ([] : List Value), still1 v = true := fun v hv => by cases hv
theorem still_cons {l : List Value} {u : Value} (hu : still1 u = true) (h : ∀ v ∈ l, still1 v = true) : ∀ v ∈ u :: l, still1 v = true := fun v hv => by
  rcases List.mem_cons.1 hv with rfl | hv
  · exact hu
  · exact h v hv
theorem still_setb {l : List Value} (h : ∀ v ∈ l, still1 v = true) (i : Nat) (b : Bool) : ∀ v ∈ l.set i (.bool b), still1 v = true := fun v hv => by
  rcases List.mem_or_eq_of_mem_set hv with hv | rfl
  · exact h v hv
  · rfl
/-- A place of the world's itself, or none. -/
def isP (v : Value) : Prop := v = .pointer none ∨ ∃ g, v = rp g
theorem isP_map (l : List Nat) : ∀ v ∈ l.map (fun p => rp p), isP v := fun v hv => by obtain ⟨g, _, rfl⟩ := List.mem_map.1 hv; exact .inr ⟨g, rfl⟩
theorem isP_snoc (l : List Nat) : ∀ v ∈ l.map (fun p => rp p) ++ [.pointer none], isP v := fun v hv => by
  rcases List.mem_append.1 hv with hv | hv
  · exact isP_map l v hv
  · rw [List.mem_singleton.1 hv]; exact .inl rfl
theorem isP_one : ∀ v ∈ [Value.pointer none], isP v := fun v hv => by rw [List.mem_singleton.1 hv]; exact .inl rfl
theorem isP_cov {np : Nat} {L : IdMap} : ∀ {l : List Value}, (∀ v ∈ l, isP v) → LR (cov1 np L) l l
  | [], _ => trivial
  | v :: l, h => by
    refine ⟨?_, isP_cov fun u hu => h u (List.mem_cons_of_mem _ hu)⟩
    rcases h v List.mem_cons_self with rfl | ⟨g, rfl⟩
    · exact rfl
    · exact ⟨rfl, rfl, rfl⟩
theorem covL_setp {np : Nat} {L : IdMap} {l : List Value} (h : ∀ v ∈ l, isP v) {q i j : Nat} (e : cov1 np L (ptr i) (ptr j)) : covL np L (l.set q (ptr i)) (l.set q (ptr j)) := .inr (LR.set q (isP_cov h) e)
theorem covL_snocp {np : Nat} {L : IdMap} {E : EL} {i j : Nat} (e : cov1 np L (ptr i) (ptr j)) : covL np L (spots E ++ [ptr i]) (spots E ++ [ptr j]) :=
  .inr (LR.append (isP_cov fun v hv => by obtain ⟨x, _, rfl⟩ := List.mem_map.1 hv; exact .inr ⟨_, rfl⟩) ⟨e, trivial⟩)
theorem found_new {k k' : Dk} {s : ByteArray} {r : Bool} {E : EL} {e : Int} (h : FoundR k s r E (e, k', none)) (he : e = 14) : ∀ x ∈ E, x.1 ≠ s := by
  rcases h.2 with ⟨h1, _, _⟩ | ⟨_, _, _, hN⟩ | ⟨_, _, q, L, X, _, hc⟩
  · exact absurd (h1.symm.trans he) (begS_n14 _ _ _)
  · exact hN
  · cases hc
theorem put_new {E : EL} {s : ByteArray} {v : Value} (hN : ∀ x ∈ E, x.1 ≠ s) : PutOb (names E) (spots E) (.string s) v (names E ++ [.string s]) (spots E ++ [v]) where
  kinds u hu := by obtain ⟨e, _, rfl⟩ := List.mem_map.1 hu; rfl
  len := by rw [List.length_map, List.length_map]
  old j hj := by
    obtain ⟨u, hu, rfl⟩ := hj.mem
    obtain ⟨e, he, hv⟩ := List.mem_map.1 hu
    simp only [Value.string.injEq] at hv
    exact absurd hv (hN e he)
  new _ := ⟨rfl, rfl⟩
theorem put_foc {E : EL} (hn : (E.map fun e => e.1).Nodup) {q i : Nat} {s : ByteArray} {L : LF} {X : Fl} (hq : E[q]? = some (s, L, X)) : PutOb (names E) ((spots E).set q (ptr i)) (.string s) (ptr i) (names E) ((spots E).set q (ptr i)) where
  kinds u hu := by obtain ⟨e, _, rfl⟩ := List.mem_map.1 hu; rfl
  len := by rw [List.length_set, List.length_map, List.length_map]
  old j hj := by
    obtain rfl := first_q hn hq hj
    refine ⟨rfl, ?_⟩
    rw [List.set_set]
  new hN := absurd rfl (hN (.string s) (List.mem_map.2 ⟨_, List.mem_of_getElem? hq, rfl⟩))
/-- What a write comes to. -/
inductive WO where
  | raw (e : Int) (k : Dk)
  | foc (e : Int) (k : Dk) (q : Nat) (L : LF) (X : Fl)
  | old (e : Int) (k : Dk) (q : Nat) (nl ka : Nat) (nv : List Value) (sl kb : Nat) (sv : List Value) (wl kc : Nat) (wv : List Value) (sure : Bool)
  | new (e : Int) (k : Dk) (ka kb kc : Nat)
abbrev WO.e : WO → Int | .raw e _ => e | .foc e _ _ _ _ => e | .old e _ _ _ _ _ _ _ _ _ _ _ _ => e | .new e _ _ _ _ => e
abbrev WO.h (s data : ByteArray) (E : EL) (C : CM) : WO → HP
  | .raw _ k => rawH k E C
  | .foc _ k q L X => focH k E q C (fxOf L X)
  | .old _ k q nl ka nv sl kb sv wl kc wv sure => [(0, .own 58 (dkv 1 k)), (1, .mp (names E) ((spots E).set q (ptr 3))), (2, restI (E.eraseIdx q) C), (3, .own 65 [mslice 4 nl ka, mslice 5 sl kb, mslice 6 wl kc, .bool sure]),
      (4, .lst 66 1 ka nv), (5, .lst 66 1 kb sv), (6, .lst 4 1 kc wv), (7, .own 68 (cellv (some data)))]
  | .new _ k ka kb kc => [(0, .own 58 (dkv 1 k)), (1, .mp (names E ++ [.string s]) (spots E ++ [ptr 3])), (2, restI E C), (3, .own 65 [mslice 4 1 ka, mslice 5 1 kb, mslice 6 1 kc, .bool false]),
      (4, .lst 66 1 ka [ptr 7]), (5, .lst 66 1 kb [.pointer none]), (6, .lst 4 1 kc [.bool true]), (7, .own 68 (cellv (some data)))]
abbrev WO.n : WO → Nat | .raw .. => 3 | .foc .. => 7 | _ => 8
/-- When it comes to that. -/
def WO.R (k : Dk) (s : ByteArray) (i : Int) (data : ByteArray) (E : EL) (C : CM) : WO → Prop
  | .raw e k' => ∃ f, FoundR k s (decide (0 ≤ i) && decide (data.size = 256)) E (f, k', none) ∧ f ≠ 0 ∧ (((f ≠ 14 ∨ 0 < i) ∧ e = f) ∨ (f = 14 ∧ i ≤ 0 ∧ (8 ≤ E.length ∨ k'.room ≤ total (filesOf E)) ∧ e = 12))
  | .foc e k' q L X => FoundR k s (decide (0 ≤ i) && decide (data.size = 256)) E (0, k', some L) ∧ E[q]? = some (s, L, X) ∧ FxOk C (fxOf L X) X ∧ (((X.now.length : Int) < i ∧ e = 14) ∨ (i = X.now.length ∧ k'.room ≤ total (filesOf E) ∧ e = 12))
  | .old e k' q nl ka nv sl kb sv wl kc wv sure => e = 0 ∧ ∃ (L : LF) (X : Fl), FoundR k s (decide (0 ≤ i) && decide (data.size = 256)) E (0, k', some L) ∧ E[q]? = some (s, L, X) ∧ FxOk C (fxOf L X) X ∧ sure = X.sure ∧
      ((0 ≤ i ∧ i < X.now.length ∧ nl = X.now.length ∧ nv = (L.pn.map fun p => rp p).set i.toNat (ptr 7) ∧ sl = X.now.length ∧ sv = L.ps.map ro ∧ wl = X.now.length ∧ wv = (X.wait.map Value.bool).set i.toNat (Value.bool true)) ∨
        (i = X.now.length ∧ ¬ k'.room ≤ total (filesOf E) ∧ nl = X.now.length + 1 ∧ nv = (L.pn.map (fun p => rp p) ++ [Value.pointer none]).set i.toNat (ptr 7) ∧ sl = X.now.length + 1 ∧ sv = L.ps.map ro ++ [Value.pointer none] ∧ wl = X.now.length + 1 ∧ wv = (X.wait.map Value.bool ++ [Value.bool false]).set i.toNat (Value.bool true)))
  | .new e k' _ _ _ => e = 0 ∧ ∃ f, FoundR k s (decide (0 ≤ i) && decide (data.size = 256)) E (f, k', none) ∧ f = 14 ∧ i = 0 ∧ ¬ 8 ≤ E.length ∧ ¬ k'.room ≤ total (filesOf E)
theorem right_yes {i : Int} {d : ByteArray} (h : 0 ≤ i) : decide ((d.size : Int) = 256) = (decide (0 ≤ i) && decide (d.size = 256)) := by
  rw [decide_eq_true h, Bool.true_and]
  exact Bool.eq_iff_iff.2 (by rw [decide_eq_true_iff, decide_eq_true_iff]; omega)
theorem right_no {i : Int} {d : ByteArray} (h : i < 0) : false = (decide (0 ≤ i) && decide (d.size = 256)) := by
  rw [decide_eq_false (by omega), Bool.false_and]
theorem found_neg {k k' : Dk} {s : ByteArray} {E : EL} {e : Int} (h : FoundR k s false E (e, k', none)) : e = 1 := by
  have hb : (begS k s false).1 = 1 := by unfold begS; rw [if_pos (.inr rfl)]
  rcases h.2 with ⟨h1, _, _⟩ | ⟨h1, _, _⟩ | ⟨h1, _⟩
  · exact h1.trans hb
  · rw [hb] at h1; exact absurd h1 (by decide)
  · rw [hb] at h1; exact absurd h1 (by decide)
theorem putL_one (l : List Value) (i : Nat) (v : Value) : putL l (0 + i * 1) [v] = l.set i v := by simp [putL]
theorem cvDiskWriteL1 {p : Prop} (h : p := by have nw := True.intro; (repeat' (first | exact True.intro | (with_reducible exact rfl) | (with_reducible exact AbsLe.refl) | (guard_target =~ @Eq Nat _ _; first | exact rfl | omega) | (guard_target =~ List.map _ _ = []; exact rfl) | (first | exact covL_still rfl (still_snoc (still_map (fun _ => rfl) _) rfl) | exact covL_still rfl (still_snoc (still_map ro_still _) rfl) | exact covL_still rfl (still_cons rfl still_nil) | exact covL_still rfl (still_setb (still_map (fun _ => rfl) _) _ _) | exact covL_still rfl (still_setb (still_snoc (still_map (fun _ => rfl) _) rfl) _ _) | exact covL_still rfl (still_setb (still_cons rfl still_nil) _ _) | apply covL_setp (isP_map _) | apply covL_setp (isP_snoc _) | apply covL_setp isP_one | apply covL_snocp | first | exact covL_still rfl hvs | exact covL_still rfl (still_map (fun _ => rfl) _) | exact covL_still rfl (still_map ro_still _) | (apply covL_set <;> (try clear nw) <;> have nw := True.intro) | exact congrArg (Value.int _) (by (try dsimp only); omega)) | (exact congrArg (Value.int _) (by omega)) | (exact covL_flat (flat_map (fun _ => rfl) _)) | (exact covL_flat flat_nil) | (refine covP_all ?_; (try clear nw); have nw := True.intro) | (refine covL_each ?_; (try clear nw); have nw := True.intro) | (refine ⟨?_, ?_⟩ <;> (try clear nw) <;> have nw := True.intro) | (guard_hyp nw : True; ((conv => whnf) <;> clear nw)))); (first | done | fail)) : p := h
set_option maxRecDepth 100000 in
theorem leafA (k k' : Dk) (s : ByteArray) (i e : Int) (data : ByteArray) (E : EL) (C : CM) (hR : FoundR k s (decide ((data.size : Int) = 256)) E (e, k', none)) (he : e ≠ 0) (h0 : 0 ≤ i) (hb : ¬ e = 14) :
  Ends 3 (fun z : WO => WO.R k s i data E C z) (fun z => iv z.e) (fun z => WO.h s data E C z) (fun z => z.n) (packV [iv e]) [(0, .own 58 [Value.map (some 1), iv k'.room, Value.bool k'.down, iv k'.ops, iv k'.life, iv k'.at', iv k'.kind, iv k'.more]), (1, Itm.mp (names E) (spots E)), (2, Itm.abs true (SR E C) fun x => RestAt E C)] := by
  have hvs := spots_still E
  try simp only [putL_one]
  (refine Ends.go (WO.raw e k') ?_ [] (Fit.q cvDiskWriteL1 (by rfl) (by rfl)))
  (have hR2 := hR; first | rw [right_yes (i := i) (by omega)] at hR2 | rw [right_no (i := i) (by omega)] at hR2)
  exact ⟨e, hR2, he, .inl ⟨by omega, rfl⟩⟩
set_option maxRecDepth 100000 in
theorem leafB (k k' : Dk) (s : ByteArray) (i e : Int) (data : ByteArray) (E : EL) (C : CM) (hR : FoundR k s (decide ((data.size : Int) = 256)) E (e, k', none)) (he : e ≠ 0) (h0 : 0 ≤ i) (h1 : e = 14) (hb : 0 < i) :
  Ends 3 (fun z : WO => WO.R k s i data E C z) (fun z => iv z.e) (fun z => WO.h s data E C z) (fun z => z.n) (packV [iv e]) [(0, .own 58 [Value.map (some 1), iv k'.room, Value.bool k'.down, iv k'.ops, iv k'.life, iv k'.at', iv k'.kind, iv k'.more]), (1, Itm.mp (names E) (spots E)), (2, Itm.abs true (SR E C) fun x => RestAt E C)] := by
  have hvs := spots_still E
  try simp only [putL_one]
  (refine Ends.go (WO.raw e k') ?_ [] (Fit.q cvDiskWriteL1 (by rfl) (by rfl)))
  (have hR2 := hR; first | rw [right_yes (i := i) (by omega)] at hR2 | rw [right_no (i := i) (by omega)] at hR2)
  exact ⟨e, hR2, he, .inl ⟨by omega, rfl⟩⟩
set_option maxRecDepth 100000 in
theorem leafCc (k k' : Dk) (s : ByteArray) (i e : Int) (data : ByteArray) (E : EL) (C : CM) (hR : FoundR k s (decide ((data.size : Int) = 256)) E (e, k', none)) (he : e ≠ 0) (h0 : 0 ≤ i) (h1 : e = 14) (h2 : i ≤ 0) (hb : 8 ≤ ((names E).length : Int)) :
  Ends 3 (fun z : WO => WO.R k s i data E C z) (fun z => iv z.e) (fun z => WO.h s data E C z) (fun z => z.n) (packV [.int .i64 12]) [(6, .own 65 [Value.slice none 0 0, Value.slice none 0 0, Value.slice none 0 0, Value.bool false]), (0, .own 58 [Value.map (some 1), iv k'.room, Value.bool k'.down, iv k'.ops, iv k'.life, iv k'.at', iv k'.kind, iv k'.more]), (1, Itm.mp (names E) (spots E)), (2, Itm.abs true (SR E C) fun x => RestAt E C)] := by
  have hvs := spots_still E
  try simp only [putL_one]
  (refine Ends.go (WO.raw 12 k') ?_ [] (Fit.q cvDiskWriteL1 (by rfl) (by rfl)))
  (have hR2 := hR; first | rw [right_yes (i := i) (by omega)] at hR2 | rw [right_no (i := i) (by omega)] at hR2)
  refine ⟨e, hR2, he, .inr ⟨by omega, by omega, ?_, rfl⟩⟩
  left; simp only [List.length_map] at *; omega
set_option maxRecDepth 100000 in
theorem leafD (k k' : Dk) (s : ByteArray) (i e : Int) (data : ByteArray) (E : EL) (C : CM) (hR : FoundR k s (decide ((data.size : Int) = 256)) E (e, k', none)) (he : e ≠ 0) (h0 : 0 ≤ i) (h1 : e = 14) (h2 : i ≤ 0) (h3 : ((names E).length : Int) < 8) (h4 : i = ((0 : Nat) : Int)) (z : Int) (hz : z = total (filesOf E)) (hb : k'.room ≤ z) :
  Ends 3 (fun z : WO => WO.R k s i data E C z) (fun z => iv z.e) (fun z => WO.h s data E C z) (fun z => z.n) (packV [.int .i64 12]) [(6, .own 65 [Value.slice none 0 0, Value.slice none 0 0, Value.slice none 0 0, Value.bool false]), (0, .own 58 [Value.map (some 1), iv k'.room, Value.bool k'.down, iv k'.ops, iv k'.life, iv k'.at', iv k'.kind, iv k'.more]), (1, Itm.mp (names E) (spots E)), (2, Itm.abs true (SR E C) fun x => RestAt E C)] := by
  have hvs := spots_still E
  try simp only [putL_one]
  (refine Ends.go (WO.raw 12 k') ?_ [] (Fit.q cvDiskWriteL1 (by rfl) (by rfl)))
  (have hR2 := hR; first | rw [right_yes (i := i) (by omega)] at hR2 | rw [right_no (i := i) (by omega)] at hR2)
  exact ⟨e, hR2, he, .inr ⟨by omega, by omega, .inr (by omega), rfl⟩⟩
set_option maxRecDepth 100000 in
theorem leafEe (k k' : Dk) (s : ByteArray) (i e : Int) (data : ByteArray) (E : EL) (C : CM) (hR : FoundR k s (decide ((data.size : Int) = 256)) E (e, k', none)) (he : e ≠ 0) (h0 : 0 ≤ i) (h1 : e = 14) (h2 : i ≤ 0) (h3 : ((names E).length : Int) < 8) (h4 : i = ((0 : Nat) : Int)) (z : Int) (hz : z = total (filesOf E)) (h5 : z < k'.room) (hb : i = ((0 : Nat) : Int)) (x : Nat × Nat × Nat) :
  Ends 3 (fun z : WO => WO.R k s i data E C z) (fun z => iv z.e) (fun z => WO.h s data E C z) (fun z => z.n) (packV [.int .i64 0]) [(7, .own 68 [Value.string data, Value.bool false]), (0, .own 58 (dkv 1 k')), (1, Itm.mp (names E ++ [Value.string s]) (spots E ++ [ptr 3])), (2, restI E C), (3, .own 65 [mslice 4 1 x.1, mslice 5 1 x.2.1, mslice 6 1 x.2.2, .bool false]), (4, .lst 66 1 x.1 (putL [Value.pointer none] (0 + i.toNat * 1) [Value.pointer (some { block := 7, off := 0 })])), (5, .lst 66 1 x.2.1 [.pointer none]), (6, .lst 4 1 x.2.2 (putL [Value.bool false] (0 + i.toNat * 1) [Value.bool true]))] := by
  have hvs := spots_still E
  try simp only [putL_one]
  obtain rfl : i = 0 := (by omega)
  (refine Ends.go (WO.new 0 k' x.1 x.2.1 x.2.2) ?_ [(3, some 3), (4, some 4), (5, some 5), (6, some 6), (7, some 7)] (Fit.q cvDiskWriteL1 (by rfl) (by rfl)))
  (have hR2 := hR; rw [right_yes (i := 0) (by omega)] at hR2)
  exact ⟨rfl, e, hR2, by omega, rfl, by simp only [List.length_map] at *; omega, by omega⟩
set_option maxRecDepth 100000 in
theorem leafF (k k' : Dk) (s : ByteArray) (i e : Int) (data : ByteArray) (E : EL) (C : CM) (q : Nat) (L : LF) (X : Fl) (hR : FoundR k s (decide ((data.size : Int) = 256)) E (e, k', some L)) (he : e = 0) (hq : E[q]? = some (s, L, X)) (hok : FxOk C (fxOf L X) X) (hcp : FxCap (fxOf L X)) (h0 : 0 ≤ i) (hb : (L.pn.length : Int) < i) :
  Ends 3 (fun z : WO => WO.R k s i data E C z) (fun z => iv z.e) (fun z => WO.h s data E C z) (fun z => z.n) (packV [.int .i64 14]) [(0, .own 58 [Value.map (some 1), iv k'.room, Value.bool k'.down, iv k'.ops, iv k'.life, iv k'.at', iv k'.kind, iv k'.more]), (1, Itm.mp (names E) ((spots E).set q (ptr 6))), (2, Itm.abs true (SR (List.eraseIdx E q) C) fun x => RestAt (List.eraseIdx E q) C), (6, .own 65 [mslice 7 L.pn.length L.a.k, mslice 8 L.ps.length L.b.k, mslice 9 X.wait.length L.c.k, .bool X.sure]), (7, .lst 66 1 L.a.k (L.pn.map fun p => rp p)), (8, .lst 66 1 L.b.k (L.ps.map ro)), (9, .lst 4 1 L.c.k (X.wait.map Value.bool))] := by
  have hvs := spots_still E
  try simp only [putL_one]
  (refine Ends.go (WO.foc 14 k' q L X) ?_ [(3, some 6), (4, some 7), (5, some 8), (6, some 9)] (Fit.q cvDiskWriteL1 (by rfl) (by rfl)))
  (have hR2 := hR; first | rw [right_yes (i := i) (by omega)] at hR2 | rw [right_no (i := i) (by omega)] at hR2)
  subst he
  exact ⟨hR2, hq, hok, .inl ⟨by have h1 := hok.c1.len; dsimp only at h1; omega, rfl⟩⟩
set_option maxRecDepth 100000 in
theorem leafG (k k' : Dk) (s : ByteArray) (i e : Int) (data : ByteArray) (E : EL) (C : CM) (q : Nat) (L : LF) (X : Fl) (hR : FoundR k s (decide ((data.size : Int) = 256)) E (e, k', some L)) (he : e = 0) (hq : E[q]? = some (s, L, X)) (hok : FxOk C (fxOf L X) X) (hcp : FxCap (fxOf L X)) (h0 : 0 ≤ i) (h1 : i = (L.pn.length : Int)) (z : Int) (hz : z = total (filesOf E)) (hb : k'.room ≤ z) :
  Ends 3 (fun z : WO => WO.R k s i data E C z) (fun z => iv z.e) (fun z => WO.h s data E C z) (fun z => z.n) (packV [.int .i64 12]) [(0, .own 58 [Value.map (some 1), iv k'.room, Value.bool k'.down, iv k'.ops, iv k'.life, iv k'.at', iv k'.kind, iv k'.more]), (1, Itm.mp (names E) ((spots E).set q (ptr 6))), (2, Itm.abs true (SR (List.eraseIdx E q) C) fun x => RestAt (List.eraseIdx E q) C), (6, .own 65 [mslice 7 L.pn.length L.a.k, mslice 8 L.ps.length L.b.k, mslice 9 X.wait.length L.c.k, .bool X.sure]), (7, .lst 66 1 L.a.k (L.pn.map fun p => rp p)), (8, .lst 66 1 L.b.k (L.ps.map ro)), (9, .lst 4 1 L.c.k (X.wait.map Value.bool))] := by
  have hvs := spots_still E
  try simp only [putL_one]
  (refine Ends.go (WO.foc 12 k' q L X) ?_ [(3, some 6), (4, some 7), (5, some 8), (6, some 9)] (Fit.q cvDiskWriteL1 (by rfl) (by rfl)))
  (have hR2 := hR; first | rw [right_yes (i := i) (by omega)] at hR2 | rw [right_no (i := i) (by omega)] at hR2)
  subst he
  exact ⟨hR2, hq, hok, .inr ⟨by have h1 := hok.c1.len; dsimp only at h1; omega, by omega, rfl⟩⟩
set_option maxRecDepth 100000 in
theorem leafH (k k' : Dk) (s : ByteArray) (i e : Int) (data : ByteArray) (E : EL) (C : CM) (q : Nat) (L : LF) (X : Fl) (hR : FoundR k s (decide ((data.size : Int) = 256)) E (e, k', some L)) (he : e = 0) (hq : E[q]? = some (s, L, X)) (hok : FxOk C (fxOf L X) X) (hcp : FxCap (fxOf L X)) (e1 : L.pn.length = X.now.length) (e2 : L.ps.length = X.safe.length) (e3 : X.safe.length = X.now.length) (e4 : X.wait.length = X.now.length) (h0 : 0 ≤ i) (h1 : i = (L.pn.length : Int)) (z : Int) (hz : z = total (filesOf E)) (h5 : z < k'.room) (x : Nat × Nat × Nat) :
  Ends 3 (fun z : WO => WO.R k s i data E C z) (fun z => iv z.e) (fun z => WO.h s data E C z) (fun z => z.n) (packV [.int .i64 0]) [(7, .own 68 [Value.string data, Value.bool false]), (0, .own 58 (dkv 1 k')), (1, Itm.mp (names E) ((spots E).set q (ptr 3))), (2, restI (List.eraseIdx E q) C), (3, .own 65 [mslice 4 (L.pn.length + 1) x.1, mslice 5 (L.ps.length + 1) x.2.1, mslice 6 (X.wait.length + 1) x.2.2, .bool X.sure]), (4, .lst 66 1 x.1 (putL (L.pn.map (fun p => rp p) ++ [Value.pointer none]) (0 + i.toNat * 1) [Value.pointer (some { block := 7, off := 0 })])), (5, .lst 66 1 x.2.1 (L.ps.map ro ++ [.pointer none])), (6, .lst 4 1 x.2.2 (putL (X.wait.map Value.bool ++ [Value.bool false]) (0 + i.toNat * 1) [Value.bool true]))] := by
  have hvs := spots_still E
  try simp only [putL_one]
  (refine Ends.go (WO.old 0 k' q (L.pn.length + 1) x.1 ((L.pn.map (fun p => rp p) ++ [Value.pointer none]).set i.toNat (ptr 7)) (L.ps.length + 1) x.2.1 (L.ps.map ro ++ [Value.pointer none]) (X.wait.length + 1) x.2.2 ((X.wait.map Value.bool ++ [Value.bool false]).set i.toNat (.bool true)) X.sure) ?_ [(3, some 3), (4, some 4), (5, some 5), (6, some 6), (7, some 7)] (Fit.q cvDiskWriteL1 (by rfl) (by rfl)))
  (have hR2 := hR; first | rw [right_yes (i := i) (by omega)] at hR2 | rw [right_no (i := i) (by omega)] at hR2)
  subst he
  exact ⟨rfl, L, X, hR2, hq, hok, rfl, .inr ⟨by omega, by omega, by omega, rfl, by omega, rfl, by omega, rfl⟩⟩
set_option maxRecDepth 100000 in
theorem leafI (k k' : Dk) (s : ByteArray) (i e : Int) (data : ByteArray) (E : EL) (C : CM) (q : Nat) (L : LF) (X : Fl) (hR : FoundR k s (decide ((data.size : Int) = 256)) E (e, k', some L)) (he : e = 0) (hq : E[q]? = some (s, L, X)) (hok : FxOk C (fxOf L X) X) (hcp : FxCap (fxOf L X)) (e1 : L.pn.length = X.now.length) (e2 : L.ps.length = X.safe.length) (e3 : X.safe.length = X.now.length) (e4 : X.wait.length = X.now.length) (h0 : 0 ≤ i) (h1 : i ≤ (L.pn.length : Int)) (hb : ¬ i = (L.pn.length : Int)) :
  Ends 3 (fun z : WO => WO.R k s i data E C z) (fun z => iv z.e) (fun z => WO.h s data E C z) (fun z => z.n) (packV [.int .i64 0]) [(10, .own 68 [Value.string data, Value.bool false]), (0, .own 58 [Value.map (some 1), iv k'.room, Value.bool k'.down, iv k'.ops, iv k'.life, iv k'.at', iv k'.kind, iv k'.more]), (1, Itm.mp (names E) ((spots E).set q (ptr 6))), (2, Itm.abs true (SR (List.eraseIdx E q) C) fun x => RestAt (List.eraseIdx E q) C), (6, .own 65 [mslice 7 L.pn.length L.a.k, mslice 8 L.ps.length L.b.k, mslice 9 X.wait.length L.c.k, .bool X.sure]), (7, .lst 66 1 L.a.k (putL (L.pn.map fun p => rp p) (0 + i.toNat * 1) [Value.pointer (some { block := 10, off := 0 })])), (8, .lst 66 1 L.b.k (L.ps.map ro)), (9, .lst 4 1 L.c.k (putL (X.wait.map Value.bool) (0 + i.toNat * 1) [Value.bool true]))] := by
  have hvs := spots_still E
  try simp only [putL_one]
  (refine Ends.go (WO.old 0 k' q L.pn.length L.a.k ((L.pn.map fun p => rp p).set i.toNat (ptr 7)) L.ps.length L.b.k (L.ps.map ro) X.wait.length L.c.k ((X.wait.map Value.bool).set i.toNat (.bool true)) X.sure) ?_ [(3, some 6), (4, some 7), (5, some 8), (6, some 9), (7, some 10)] (Fit.q cvDiskWriteL1 (by rfl) (by rfl)))
  (have hR2 := hR; first | rw [right_yes (i := i) (by omega)] at hR2 | rw [right_no (i := i) (by omega)] at hR2)
  subst he
  exact ⟨rfl, L, X, hR2, hq, hok, rfl, .inl ⟨by omega, by omega, by omega, rfl, by omega, rfl, by omega, rfl⟩⟩
set_option maxRecDepth 100000 in
theorem leafJ (k k' : Dk) (s : ByteArray) (i e : Int) (data : ByteArray) (E : EL) (C : CM) (hR : FoundR k s false E (e, k', none)) (he : e ≠ 0) (h0 : i < 0) (hb : ¬ e = 14) :
  Ends 3 (fun z : WO => WO.R k s i data E C z) (fun z => iv z.e) (fun z => WO.h s data E C z) (fun z => z.n) (packV [iv e]) [(0, .own 58 [Value.map (some 1), iv k'.room, Value.bool k'.down, iv k'.ops, iv k'.life, iv k'.at', iv k'.kind, iv k'.more]), (1, Itm.mp (names E) (spots E)), (2, Itm.abs true (SR E C) fun x => RestAt E C)] := by
  have hvs := spots_still E
  try simp only [putL_one]
  (refine Ends.go (WO.raw e k') ?_ [] (Fit.q cvDiskWriteL1 (by rfl) (by rfl)))
  (have hR2 := hR; first | rw [right_yes (i := i) (by omega)] at hR2 | rw [right_no (i := i) (by omega)] at hR2)
  exact ⟨e, hR2, he, .inl ⟨by omega, rfl⟩⟩
end Go.Proofs.Ytdgmjjidkaafaaa
