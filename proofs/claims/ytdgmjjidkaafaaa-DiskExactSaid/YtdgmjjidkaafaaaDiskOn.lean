/- The disk: all names, rising; the power is there again. -/
import Derived.Test.YtdgmjjidkaafaaaDiskOps
import Derived.Test.YtdgmjjidkaafaaaIter
import Derived.Shelf.SlIter.Nil
import Derived.Shelf.SortM.Plain
import Derived.Shelf.SortM.SortNone
import Derived.Test.YtdgmjjidkaafaaaDiskFated
namespace Go.Proofs.Ytdgmjjidkaafaaa
open Go.RowKit Go.Maps Go.Sort Go.Shelf
set_option linter.unusedSimpArgs false
set_option linter.unusedVariables false
/-- What a map's values read as, where only its keys are asked for. -/
def anyV : Value → Option (DataW Unit × List MemPlace) := fun _ => some (.nil, [])
def keyB (x : MapEntry) : List UInt8 := match x.key with | .string s => bytesOf s | _ => []
theorem keyB_rd {x : MapEntry} (hx : ∃ s : ByteArray, x.key = .string s ∧ s.size ≤ maxLen) : WideElems.rd Try.prog 9 anyV x = some (.string (keyB x), .nil) := by
  obtain ⟨s, hk, hs⟩ := hx
  have h : keyOf Try.prog 9 (.string s) = some (.string s.data.toList) := Go.WideMaps.keyOf_string_mk Try.underlying9 hs
  unfold WideElems.rd keyB
  rw [hk, h]
  rfl
set_option maxRecDepth 100000 in
theorem keys_own {w : World} {bm clock : Nat} {es : Array MapEntry} (hb : w.heap[bm]? = some (.map es clock)) (hst : MapKept.Stamped es clock) (hk : ∀ x ∈ es.toList, ∃ s : ByteArray, x.key = .string s ∧ s.size ≤ maxLen) (hn : es.size ≤ maxLen) :
    w.ownsMap Try.prog 9 anyV bm es.size (.map ((es.toList.map (WideElems.rg Try.prog 9 anyV)).foldr DataW.insert [])) ∧
      (strKeys (.map ((es.toList.map (WideElems.rg Try.prog 9 anyV)).foldr DataW.insert []))).Perm (es.toList.map keyB) ∧ Maps.size (.map ((es.toList.map (WideElems.rg Try.prog 9 anyV)).foldr DataW.insert [])) = es.size := by
  refine ⟨⟨es, clock, hb, ⟨hn, hst, fun x hx => ⟨_, keyB_rd (hk x hx)⟩⟩, Nat.le_refl _, rfl⟩, ?_, ?_⟩
  · refine ((WideShapes.sorted_perm _).map _).trans ?_
    rw [List.map_map]
    refine List.Perm.of_eq (List.map_congr_left fun x hx => ?_)
    show Go.strOf (WideElems.rg _ _ _ x).1 = keyB x
    unfold WideElems.rg
    rw [keyB_rd (hk x hx)]
    rfl
  · show List.length (List.foldr DataW.insert [] _) = _
    rw [(WideShapes.sorted_perm _).length_eq, List.length_map, Array.length_toList]
theorem sorts_in (m : Nat) : AnyZ.SortsIn Try.prog Try.iterS39_ren Fence.wide m :=
  ⟨fun blk off cap ss W hH hblk hsz => callsIn_wide.2 (AnyM.slices_Sort_string Try.iterO64 blk off cap ss W hH hblk hsz),
   fun p cap W => callsIn_wide.2 (AnyM.slices_Sort_string_none Try.iterO64 p cap W)⟩
set_option maxHeartbeats 1000000 in
set_option maxRecDepth 100000 in
theorem names_w (w : World) (g bm : Nat) (k : Dk) (es : Array MapEntry) (clock : Nat) (hd : Blk w g 58 (dkv bm k).toArray) (hb : w.heap[bm]? = some (.map es clock)) (hst : MapKept.Stamped es clock)
    (hk : ∀ x ∈ es.toList, ∃ s : ByteArray, x.key = .string s ∧ s.size ≤ maxLen) (hn : es.size ≤ 1000000) :
    Calls Try.prog 17 #[.pointer (some ⟨g, 0, none⟩)] w fun e w' => ∃ (v : Value) (ss : List (List UInt8)), e = .returned v ∧ ss.Perm (es.toList.map keyB) ∧
      w'.ownsRow w.heap.size 9 1 v ss.length ((ss.mergeSort leB).map encStr) ∧ Below w.heap.size w w' := by
  refine (callsIn_wide (n := 6)).1 ?_
  obtain ⟨hown, hperm, hsize⟩ := keys_own hb hst hk (Nat.le_trans hn (by unfold maxLen; decide))
  have hbl := hown.lt
  generalize (.map ((es.toList.map (WideElems.rg Try.prog 9 anyV)).foldr DataW.insert []) : DataW Unit) = D0 at hown hperm hsize
  have hc0 : w.cell? ⟨g, 0, none⟩ = some (.map (some bm)) := by rw [hd.cell]; rfl
  have hseq : SeqGives Fence.wide 2 Try.prog 65 #[.pointer (some ⟨w.heap.size, 0, none⟩)] encStr (fun ss => ss.Perm (strKeys D0)) (Maps.size D0) (w.alloc (.cells #[.map (some bm)] 56)) :=
    AnyZ.keys_gives (ρ := Try.iterK40_ren) { Try.iterK40 with } Fence.wide _ trivial rfl (by omega) w.heap.size bm es.size D0 _ (by simp) (by simp) (by
      obtain ⟨es, clock, hb, Ft, hs, hD⟩ := hown
      exact ⟨es, clock, (Below.heap_alloc _ _ bm hbl).trans hb, Ft, hs, hD⟩)
  have cK : ∀ mb W, CallsIn Fence.wide 5 Try.prog 40 #[.map mb] W fun e w' => e = .returned (.func (.func 65) #[] #[.pointer (some ⟨W.heap.size, 0, none⟩)]) ∧ w' = W.alloc (.cells #[.map mb] 56) := fun mb W => AnyZ.keys_in Try.iterK40 Fence.wide 5 trivial rfl mb W
  have cS := AnyZ.sorted_in Try.iterS39 Fence.wide 5 trivial trivial trivial trivial rfl (by omega) (sorts_in _) (enters_of Try.func64 (by kernel_rfl) rfl) 65 #[.pointer (some ⟨w.heap.size, 0, none⟩)] trivial (enters_of Try.func65 (by kernel_rfl) rfl) _ _ (by rw [hsize]; unfold maxLen; omega) (by rw [hsize]; omega) _ hseq
  change CallsIn _ _ Try.prog 39 _ _ _ at cS
  have hfK : Fence.wide.fn 40 := trivial
  have hfS : Fence.wide.fn 39 := trivial
  refine callsIn_of_wp Try.func17 rfl trivial ?_ rfl
  simp only [Try.ntmps17, List.size_toArray, List.length_cons, List.length_nil, Nat.reduceAdd, Nat.reduceSub, Array.replicate_succ, Array.replicate_zero, List.push_toArray, List.append_toArray, List.nil_append, List.cons_append]
  gi_wp2_with (first
    | (gi_at_call 40; refine (cK _ _).mono ?_; rintro e w' ⟨rfl, rfl⟩)
    | (gi_at_call 39; refine cS.mono ?_; rintro e w' ⟨v, ss, rfl, hS, hrow, hnil, hb⟩)
    | gi_in)
  go_ret
  exact ⟨v, ss, rfl, hS.trans hperm, ownsRow_base_a hrow (by simp), ((Below.refl _ w).alloc (Nat.le_refl _) _).trans (hb.mono (by simp))⟩
abbrev nmL (fs : Fs) : List Value := fs.map fun p => .string p.1
theorem nm_sorted {fs : Fs} (hs : Sorted fs) {ss : List (List UInt8)} (hp : ss.Perm (fs.map fun p => bytesOf p.1)) : (ss.mergeSort leB).map encStr = nmL fs := by
  have e : ss.mergeSort leB = fs.map fun p => bytesOf p.1 := by
    have tr : ∀ a b c : List UInt8, leB a b = true → leB b c = true → leB a c = true := fun a b c h1 h2 => by simp only [leB, decide_eq_true_eq] at *; exact List.le_trans h1 h2
    have tt : ∀ a b : List UInt8, (leB a b || leB b a) = true := fun a b => by simp only [leB, Bool.or_eq_true, decide_eq_true_eq]; exact List.le_total a b
    refine List.Perm.eq_of_pairwise (le := fun a b => leB a b = true) (fun a b _ _ h1 h2 => ?_) (List.pairwise_mergeSort tr tt ss) ?_ ((List.mergeSort_perm ss leB).trans hp)
    · simp only [leB, decide_eq_true_eq] at h1 h2
      exact List.le_antisymm h1 h2
    · rw [List.pairwise_map]
      exact hs.imp fun h => by
        have := (strLt_iff _ _).1 h
        simp only [leB, decide_eq_true_eq]
        exact List.le_of_lt this
  rw [e, List.map_map]
  rfl
theorem flat_names (l : Fs) : ∀ u ∈ nmL l, flat1 u = true := fun u hu => by obtain ⟨x, _, rfl⟩ := List.mem_map.1 hu; rfl
set_option maxRecDepth 100000 in
theorem names_l (k : Dk) (E : EL) (C : CM) (fs : Fs) (hp : (filesOf E).Perm fs) (hs : Sorted fs) (hn : ∀ p ∈ fs, goodName p.1 = true) (hE : fs.length ≤ 1000000) :
    CallOb Try.prog 17 [ptr 0] (rawH k E C) 3 (fun v h n => ∃ cap : Nat, fs.length ≤ cap ∧ v = mslice 3 fs.length cap ∧ h = (3, .lst 9 1 cap (nmL fs)) :: rawH k E C ∧ n = 4) := by
  refine ⟨Try.call17, fun F B w0 m w cs H ha => ?_⟩
  match cs, ha with
  | [c], ⟨hc, _⟩ =>
    obtain ⟨b, hb, rfl⟩ := VR.ptr hc
    obtain ⟨g, s, hg, hs0, rfl⟩ := hb.old
    obtain ⟨rfl, _, l, hl, hblk⟩ := H.at (i := 0) rfl hg
    obtain ⟨gj, sj, hgj, rfl, _, A, clk, h1, h2, h3⟩ := H.dom 1 _ rfl
    have hl' : l = dkv gj k := by
      match l, hl with
      | [v1, v2, v3, v4, v5, v6, v7, v8], ⟨q1, q2, q3, q4, q5, q6, q7, q8, _⟩ =>
        obtain ⟨b, hb, rfl⟩ : ∃ b, A0 m ⟨1, 0, none⟩ b ∧ v1 = .map (some b.block) := (V1.of0 rfl).1 q1
        obtain ⟨g', s', hm, _, rfl⟩ := hb.old
        obtain ⟨rfl, rfl⟩ := H.fn _ _ _ _ _ hm hgj
        rw [(V1.flat rfl).1 q2, (V1.flat rfl).1 q3, (V1.flat rfl).1 q4, (V1.flat rfl).1 q5, (V1.flat rfl).1 q6, (V1.flat rfl).1 q7, (V1.flat rfl).1 q8]
    subst hl'
    have hsz : A.size = fs.length := by
      have := congrArg List.length h2
      rw [List.length_map, List.length_map, Array.length_toList] at this
      rw [this, ← hp.length_eq, List.length_map]
    have hkeys : A.toList.map keyB = E.map fun e => bytesOf e.1 := by
      have := congrArg (List.map fun v : Value => match v with | .string s => bytesOf s | _ => []) h2
      rw [List.map_map, List.map_map] at this
      exact this
    have hk : ∀ x ∈ A.toList, ∃ s : ByteArray, x.key = .string s ∧ s.size ≤ maxLen := fun x hx => by
      have hx' : x.key ∈ names E := h2 ▸ List.mem_map_of_mem hx
      obtain ⟨e, he, hxe⟩ := List.mem_map.1 hx'
      refine ⟨e.1, hxe.symm, ?_⟩
      have hgood := hn (e.1, e.2.2) (hp.mem_iff.1 (List.mem_map.2 ⟨e, he, rfl⟩))
      unfold goodName at hgood
      rw [Bool.and_eq_true, decide_eq_true_eq] at hgood
      exact Nat.le_trans hgood.2 (by unfold maxLen; decide)
    rw [show (⟨g, 0 + sh 0, none⟩ : Addr) = ⟨g, 0, none⟩ by rw [sh_zero]]
    refine (names_w w g gj k A clk hblk h1.1 h1.2 hk (by omega)).mono ?_
    rintro e w' ⟨v, ss, rfl, hperm, hrow, hbel⟩
    have hss : ss.Perm (fs.map fun p => bytesOf p.1) := by
      rw [hkeys] at hperm
      refine hperm.trans ?_
      have := hp.map fun p : ByteArray × Fl => bytesOf p.1
      rwa [List.map_map] at this
    have hlen : ss.length = fs.length := by rw [hss.length_eq, List.length_map]
    rw [nm_sorted hs hss, hlen] at hrow
    rcases hrow.2 with ⟨rfl, h0⟩ | ⟨gb, c, cur, rfl, hge, hcur, r1, r2, r3, r4⟩
    · have hf0 : fs = [] := List.eq_nil_of_length_eq_zero h0
      subst hf0
      have H2 := (H.later hbel).pushNilA 9 1 (wcode none)
      exact ⟨_, _, _, _, _, rfl, BM.le_put _ _ _ _, VR.nilA m 3 none, H2, 0, Nat.le_refl _, rfl, rfl, rfl⟩
    · have H2 := H.push hbel (it := .lst 9 1 c (nmL fs)) hge (.inr ⟨rfl, .inl (Nat.le_trans H.base' hge), r2, nmL fs, cur, LR.refl_of (fun u hu => (V1.flat (flat_names _ u hu)).2 rfl), hcur, r3, by rw [List.length_map]; simpa using r4, by rw [List.length_map, r3]; omega⟩) rfl
      exact ⟨_, _, _, _, _, rfl, BM.le_add _ _ _, VR.newM _ _ _ _ _, H2, c, r1, rfl, rfl, rfl⟩
end Go.Proofs.Ytdgmjjidkaafaaa
namespace Go.Proofs.Ytdgmjjidkaafaaa
open Go.RowKit
set_option linter.unusedSimpArgs false
set_option linter.unusedVariables false
theorem sem_round2 {N np n0 : Nat} {ι : Type} {I : ι → TM} {J : ι → HP} {μ : ι → Nat} {R : ι → Prop} {i : ι} {t : TM} {h : HP} {n : Nat} (n1 : Nat) (T' : TM) (H' : HP) (L : IdMap) (s : Sub np T' H' n1 t h L)
    (k : ∀ F B w0 m w, HRel F B w0 m H' n1 w → ∃ i' m', R i' ∧ μ i' < μ i ∧ m.le m' ∧ HRel F B w0 m' (J i') n0 w ∧ I i' = T') : AgainS N np n0 I J μ R i t h n :=
  .go fun F B w0 m w a H ht => let ⟨i', m', h1, h2, hle, h3, h4⟩ := k F B w0 _ w (H.sub s.ok s.oki s.hp); ⟨i', m', h1, h2, fun _ _ _ hi x => hle _ _ _ (via_leN m np L _ _ _ hi x), h3, h4 ▸ (ht.sub s.tm).mono hle⟩
theorem sem_start2 {N np n0 : Nat} {ι : Type} {I : ι → TM} {J : ι → HP} {R : ι → Prop} {t : TM} {h : HP} {n : Nat} (n1 : Nat) (T' : TM) (H' : HP) (L : IdMap) (s : Sub np T' H' n1 t h L)
    (k : ∀ F B w0 m w, HRel F B w0 m H' n1 w → ∃ i' m', R i' ∧ m.le m' ∧ HRel F B w0 m' (J i') n0 w ∧ I i' = T') :
    ∀ F B w0 m w a, HRel F B w0 m h n w → TRel m N t a → ∃ i0 m', R i0 ∧ BM.leN np m m' ∧ HRel F B w0 m' (J i0) n0 w ∧ TRel m' N (I i0) a := fun F B w0 m w a H ht =>
  let ⟨i', m', h1, hle, h3, h4⟩ := k F B w0 _ w (H.sub s.ok s.oki s.hp); ⟨i', m', h1, fun _ _ _ hi x => hle _ _ _ (via_leN m np L _ _ _ hi x), h3, h4 ▸ (ht.sub s.tm).mono hle⟩
/-! The files that are left, one by one. -/
def onX (l : List Int) (X : Fl) (u : Nat) : Fl := { (fatedF l X u).1 with sure := true }
theorem onF_cons (l : List Int) (s : ByteArray) (X : Fl) (r : Fs) (u : Nat) : onF l ((s, X) :: r) u = if (fatedF l X u).1.now = [] ∧ X.sure = false then onF l r (fatedF l X u).2 else (s, onX l X u) :: onF l r (fatedF l X u).2 := rfl
structure OnQ (l : List Int) (fs0 : Fs) (i u : Nat) (E : EL) : Prop where
  ex : ∃ dn : Fs, onF l fs0 0 = dn ++ onF l (fs0.drop i) u ∧ (filesOf E).Perm (dn ++ fs0.drop i) ∧ (dn.map fun p => p.1).Sublist ((fs0.take i).map fun p => p.1)
  le : i ≤ fs0.length
  used : u ≤ 16384 * i
theorem OnQ.start {l : List Int} {fs0 : Fs} {E : EL} (h : (filesOf E).Perm fs0) : OnQ l fs0 0 0 E := ⟨⟨[], rfl, h, List.Sublist.refl _⟩, Nat.zero_le _, Nat.zero_le _⟩
theorem OnQ.done {l : List Int} {fs0 : Fs} {i u : Nat} {E : EL} (h : OnQ l fs0 i u E) (hi : fs0.length ≤ i) : (filesOf E).Perm (onF l fs0 0) := by
  obtain ⟨dn, h1, h2, _⟩ := h.ex
  rw [List.drop_of_length_le hi] at h1 h2
  rw [h1]
  exact h2
theorem names_nd {fs : Fs} (hs : Sorted fs) : (fs.map fun p => p.1).Nodup := by
  rw [List.Nodup, List.pairwise_map]
  exact hs.imp fun h e => by rw [e] at h; exact strLt_irrefl _ h
theorem OnQ.nd {l : List Int} {fs0 : Fs} {i u : Nat} {E : EL} (h : OnQ l fs0 i u E) (hs : Sorted fs0) : (E.map fun e => e.1).Nodup := by
  obtain ⟨dn, _, h2, h3⟩ := h.ex
  have e : (E.map fun e => e.1) = (filesOf E).map fun p => p.1 := by rw [List.map_map]; rfl
  rw [e, (h2.map fun p => p.1).nodup_iff, List.map_append]
  refine List.Sublist.nodup ?_ (names_nd hs)
  have h4 : (fs0.map fun p => p.1) = (fs0.take i).map (fun p => p.1) ++ (fs0.drop i).map (fun p => p.1) := by rw [← List.map_append, List.take_append_drop]
  rw [h4]
  exact List.Sublist.append h3 (List.Sublist.refl _)
theorem OnQ.at {l : List Int} {fs0 : Fs} {i u : Nat} {E : EL} (h : OnQ l fs0 i u E) {s : ByteArray} {X : Fl} (hi : fs0[i]? = some (s, X)) : ∃ (q : Nat) (L : LF), E[q]? = some (s, L, X) := by
  obtain ⟨dn, _, h2, _⟩ := h.ex
  have hm : (s, X) ∈ filesOf E := h2.mem_iff.2 (List.mem_append_right _ (by rw [drop_at hi]; exact List.Mem.head _))
  obtain ⟨e, he, h3⟩ := List.mem_map.1 hm
  obtain ⟨q, hq⟩ := List.mem_iff_getElem?.1 he
  obtain ⟨t, L, Y⟩ := e
  cases h3
  exact ⟨q, L, hq⟩
section
variable {l : List Int} {fs0 : Fs} {i u : Nat} {E : EL} {s : ByteArray} {X : Fl} {q : Nat} {L : LF}
theorem OnQ.rest (h : OnQ l fs0 i u E) (hi : fs0[i]? = some (s, X)) (hq : E[q]? = some (s, L, X)) : ∃ dn : Fs, onF l fs0 0 = dn ++ onF l ((s, X) :: fs0.drop (i + 1)) u ∧ (filesOf (E.eraseIdx q)).Perm (dn ++ fs0.drop (i + 1)) ∧ (dn.map fun p => p.1).Sublist ((fs0.take i).map fun p => p.1) ∧ i < fs0.length := by
  obtain ⟨dn, h1, h2, h3⟩ := h.ex
  rw [drop_at hi] at h1 h2
  have hl : (filesOf E)[q]? = some (s, X) := by rw [List.getElem?_map, hq]; rfl
  have he : filesOf (E.eraseIdx q) = (filesOf E).eraseIdx q := map_eraseIdx _ _ _
  refine ⟨dn, h1, ?_, h3, (List.getElem?_eq_some_iff.1 hi).1⟩
  rw [he]
  exact (((perm_erase hl).trans h2).trans List.perm_middle).cons_inv
theorem fated_used (hX : X.Ok) : (fatedF l X u).2 ≤ u + 16384 := by
  have key : ∀ (ns : List Cv) (ss : List (Option Cv)) (ws : List Bool) (u : Nat), (fates l ns ss ws u).2 ≤ u + ns.length := by
    intro ns
    induction ns with
    | nil => intro ss ws u; exact Nat.le_refl _
    | cons n ns ih =>
      intro ss ws u
      cases ss with
      | nil => simp [fates]
      | cons s ss =>
        cases ws with
        | nil => simp [fates]
        | cons w ws =>
          cases w with
          | true => have := ih ss ws (u + 1); simp only [fates, List.length_cons]; omega
          | false => have := ih ss ws u; simp only [fates, List.length_cons]; omega
  have h1 := key X.now X.safe X.wait u
  have h2 := hX.len
  show (fates l X.now X.safe X.wait u).2 ≤ _
  omega
theorem OnQ.gone (h : OnQ l fs0 i u E) (hi : fs0[i]? = some (s, X)) (hq : E[q]? = some (s, L, X)) (hX : X.Ok) (h1 : (fatedF l X u).1.now = []) (h2 : X.sure = false) : OnQ l fs0 (i + 1) (fatedF l X u).2 (E.eraseIdx q) := by
  obtain ⟨dn, e1, e2, e3, hlt⟩ := h.rest hi hq
  rw [onF_cons, if_pos ⟨h1, h2⟩] at e1
  refine ⟨⟨dn, e1, e2, ?_⟩, hlt, ?_⟩
  · rw [List.take_add_one, hi, List.map_append]
    exact e3.trans (List.sublist_append_left _ _)
  · have := fated_used (l := l) (u := u) hX; have := h.used; omega
theorem OnQ.kept (h : OnQ l fs0 i u E) (hi : fs0[i]? = some (s, X)) (hq : E[q]? = some (s, L, X)) (hX : X.Ok) (h1 : ¬ ((fatedF l X u).1.now = [] ∧ X.sure = false)) (L' : LF) : OnQ l fs0 (i + 1) (fatedF l X u).2 (E.set q (s, L', onX l X u)) := by
  obtain ⟨dn, e1, e2, e3, hlt⟩ := h.rest hi hq
  rw [onF_cons, if_neg h1] at e1
  have hql : q < E.length := (List.getElem?_eq_some_iff.1 hq).1
  refine ⟨⟨dn ++ [(s, onX l X u)], ?_, ?_, ?_⟩, hlt, ?_⟩
  · rw [e1, List.append_assoc]; rfl
  · have hp : (filesOf (E.set q (s, L', onX l X u))).Perm ((s, onX l X u) :: filesOf (E.eraseIdx q)) := ((erase_set_perm (s, L', onX l X u) hql).map fun e : ByteArray × LF × Fl => (e.1, e.2.2)).symm
    refine hp.trans ((e2.cons _).trans ?_)
    rw [List.append_assoc]
    exact List.perm_middle.symm
  · rw [List.take_add_one, hi, List.map_append, List.map_append]
    exact List.Sublist.append e3 (List.Sublist.refl _)
  · have := fated_used (l := l) (u := u) hX; have := h.used; omega
end
/-! Memory, between two rounds. -/
abbrev onRaw (k : Dk) (E : EL) (C : CM) (l : List Int) (cap : Nat) (us : Int) (fs0 : Fs) (capn : Nat) : HP :=
  [(0, .own 58 (dkv 2 k)), (1, .lview (l.map iv)), (2, .mp (names E) (spots E)), (3, restI E C), (4, .own 36 [mslice 1 l.length cap]), (5, .own 3 [iv us]), (6, .lst 9 1 capn (nmL fs0))]
abbrev onFoc (k : Dk) (E : EL) (q : Nat) (C : CM) (x : Fx) (l : List Int) (cap : Nat) (us : Int) (fs0 : Fs) (capn : Nat) : HP :=
  [(0, .own 58 (dkv 2 k)), (1, .lview (l.map iv)), (2, .mp (names E) ((spots E).set q (ptr 12))), (3, restI (E.eraseIdx q) C), (4, .own 36 [mslice 1 l.length cap]), (5, .own 3 [iv us]), (6, .lst 9 1 capn (nmL fs0)),
    (12, fileI 12 x), (13, nowI x), (14, safeI x), (15, waitI x)]
structure OS where
  i : Nat
  E : EL
  C : CM
  u : Nat
  foc : Option (Nat × Fx)
abbrev OS.h (k : Dk) (l : List Int) (cap : Nat) (fs0 : Fs) (capn : Nat) (z : OS) : HP := match z.foc with
  | none => onRaw k z.E z.C l cap (usedV l z.u) fs0 capn
  | some (q, x) => onFoc k z.E q z.C x l cap (usedV l z.u) fs0 capn
structure OnR (l : List Int) (fs0 : Fs) (z : OS) : Prop where
  q : OnQ l fs0 z.i z.u z.E
  foc : match z.foc with
    | none => z.i = fs0.length
    | some (q, x) => ∃ (s : ByteArray) (L : LF) (X : Fl), fs0[z.i]? = some (s, X) ∧ z.E[q]? = some (s, L, X) ∧ x = fxOf L X ∧ FxOk z.C x X ∧ FxCap x
theorem open_next {F : Nat → Prop} {B : Nat} {w0 : World} {m : BM} {w : World} {k : Dk} {E : EL} {C : CM} {l : List Int} {cap u : Nat} {fs0 : Fs} {capn i : Nat} (H : HRel F B w0 m (onRaw k E C l cap (usedV l u) fs0 capn) 12 w) (hq : OnQ l fs0 i u E) :
    ∃ (z : OS) (m' : BM), OnR l fs0 z ∧ z.i = i ∧ m.le m' ∧ HRel F B w0 m' (z.h k l cap fs0 capn) 16 w := by
  rcases Nat.lt_or_ge i fs0.length with hi | hi
  · obtain ⟨⟨s, X⟩, hs⟩ : ∃ p, fs0[i]? = some p := ⟨_, List.getElem?_eq_getElem hi⟩
    obtain ⟨q, L, hE⟩ := hq.at hs
    obtain ⟨m', hle, h3, H', c1, c2, c3, c4, c5⟩ := open_file H (j := 2) (r := 3) (q := q) (s := s) (L := L) (X := X) rfl rfl (by decide) hE
    refine ⟨⟨i, E, C, u, some (q, fxOf L X)⟩, m', ⟨hq, s, L, X, hs, hE, rfl, ⟨c1, c2, rfl, rfl⟩, ⟨c3, c4, c5⟩⟩, rfl, hle, H'.sub_of fun j it e => ?_⟩
    have e : lkH (onFoc k E q C (fxOf L X) l cap (usedV l u) fs0 capn) j = some it := e
    have := lkH_mem e
    simp only [List.mem_cons, Prod.mk.injEq, List.not_mem_nil, or_false] at this
    rcases this with ⟨rfl, rfl⟩ | ⟨rfl, rfl⟩ | ⟨rfl, rfl⟩ | ⟨rfl, rfl⟩ | ⟨rfl, rfl⟩ | ⟨rfl, rfl⟩ | ⟨rfl, rfl⟩ | ⟨rfl, rfl⟩ | ⟨rfl, rfl⟩ | ⟨rfl, rfl⟩ | ⟨rfl, rfl⟩ <;> rfl
  · refine ⟨⟨i, E, C, u, none⟩, m, ⟨hq, Nat.le_antisymm hq.le hi⟩, rfl, BM.le_refl m, H.up (BM.le_refl m) H.fn fun i g s x => Nat.lt_of_lt_of_le (H.fresh i g s x) (by decide)⟩
/-- A file is put back, made anew. -/
theorem close_next {F : Nat → Prop} {B : Nat} {w0 : World} {m : BM} {w : World} {k : Dk} {E : EL} {C : CM} {l : List Int} {cap : Nat} {us : Int} {fs0 : Fs} {capn q : Nat} {s : ByteArray} {L : LF} {X X' : Fl} {x : Fx}
    (H : HRel F B w0 m [(0, .own 58 (dkv 2 k)), (1, .lview (l.map iv)), (2, .mp (names E) ((spots E).set q (ptr 8))), (3, restI (E.eraseIdx q) C), (4, .own 36 [mslice 1 l.length cap]), (5, .own 3 [iv us]), (6, .lst 9 1 capn (nmL fs0)), (8, fileI 8 x), (9, nowI x), (10, safeI x), (11, waitI x)] 12 w)
    (hq : E[q]? = some (s, L, X)) (ok : FxOk C x X') : ∃ L' : LF, HRel F B w0 m (onRaw k (E.set q (s, L', X')) C l cap us fs0 capn) 12 w := by
  have hlt : q < E.length := (List.getElem?_eq_some_iff.1 hq).1
  obtain ⟨X'1, X'2, X'3, X'4⟩ := X'
  obtain ⟨c1, c2, c3, c4⟩ := ok
  dsimp only at c1 c2 c3 c4
  obtain ⟨L', hm, H2⟩ := close_file H (f := 8) (a := 9) (b := 10) (c := 11) (r := 3) s rfl rfl rfl rfl rfl rfl rfl rfl (by simp) c1 c2
  rw [c3, c4] at H2
  let E' : EL := E.set q (s, L', ⟨X'1, X'2, X'3, X'4⟩)
  have hn : names E' = names E := by
    apply List.ext_getElem?
    intro i
    rw [List.getElem?_map, List.getElem?_map, List.getElem?_set]
    split
    · rename_i hi
      subst hi
      rw [hq]
      simp [hlt]
    · rfl
  have H3 := H2.re (i := 2) (it := .mp (names E) ((spots E).set q (ptr 8))) (it' := .mp (names E') (spots E')) rfl (fun _ => rfl) (fun _ _ _ hb => hb) (fun g' s' _ okm => by
    obtain ⟨a, b, A, clk, y1, y2, y3⟩ := okm
    refine ⟨a, b, A, clk, y1, hn ▸ y2, spots_cps.2 ?_⟩
    rw [spots_set hq H2.fn hm y3]
    show _ = (E.set q _).map _
    rw [List.map_set])
  have H4 := H3.re (i := 3) (it := restI ((s, L', ⟨X'1, X'2, X'3, X'4⟩) :: E.eraseIdx q) C) (it' := restI E' C) rfl (fun _ => rfl) (fun _ _ b hb => (SR.perm (erase_set_perm _ hlt)).2 hb) (fun g' s' hg' ok => by
    obtain ⟨a, b, c, _, d⟩ := ok
    exact ⟨a, fun x hx => b x ((SR.perm (erase_set_perm _ hlt)).2 hx), fun e x hx => c e x ((SR.perm (erase_set_perm _ hlt)).2 hx), RestAt.stab _ _, d.perm (erase_set_perm _ hlt)⟩)
  refine ⟨L', H4.sub_of fun j it e => ?_⟩
  have := lkH_mem e
  simp only [List.mem_cons, Prod.mk.injEq, List.not_mem_nil, or_false] at this
  rcases this with ⟨rfl, rfl⟩ | ⟨rfl, rfl⟩ | ⟨rfl, rfl⟩ | ⟨rfl, rfl⟩ | ⟨rfl, rfl⟩ | ⟨rfl, rfl⟩ | ⟨rfl, rfl⟩ <;> rfl
theorem usedV_0 (l : List Int) : usedV l 0 = 0 := by unfold usedV; split <;> rfl
theorem now_nil {C : CM} {y : Fx} {Y : Fl} (h : FxOk C y Y) (h0 : (y.pn.length : Int) = 0) : Y.now = [] := List.eq_nil_of_length_eq_zero (by have := h.c1.len; omega)
theorem now_some {C : CM} {y : Fx} {Y : Fl} (h : FxOk C y Y) (h0 : ¬ (y.pn.length : Int) = 0) : Y.now ≠ [] := fun e => h0 (by have := h.c1.len; rw [e] at this; rw [this]; rfl)
theorem fated_sure (l : List Int) (X : Fl) (u : Nat) : (fatedF l X u).1.sure = X.sure := rfl
theorem ok_sure {C : CM} {y : Fx} {l : List Int} {X : Fl} {u : Nat} (h : FxOk C y (fatedF l X u).1) : FxOk C ⟨y.pn, y.ps, y.ws, true, y.ka, y.kb, y.kc⟩ (onX l X u) := ⟨h.c1, h.c2, h.ws, rfl⟩
attribute [local irreducible] bytesOf strOf strEq strLt sfrom begS fates fateAt usedV fillI fatedF onF
def OnO (l : List Int) (k : Dk) (E : EL) (C : CM) (fs : Fs) (z : Dk × EL × CM) : Prop :=
  (k.down = false ∧ z = (k, E, C)) ∨ (k.down = true ∧ z.1 = { k with down := false } ∧ (filesOf z.2.1).Perm (onF l fs 0))
theorem cvDiskOn1 {p : Prop} (h : p := by have nw := True.intro; (repeat' (first | exact True.intro | (with_reducible exact rfl) | (with_reducible exact AbsLe.refl) | (guard_target =~ @Eq Nat _ _; first | exact rfl | omega) | (guard_target =~ List.map _ _ = []; exact rfl) | (first | exact congrArg (Value.int _) (usedV_0 l) | exact congrArg (Value.int _) (usedV_0 l).symm | exact covL_of rfl (flat_names _) | exact covL_still rfl (spots_still _) | first | exact covL_still rfl hvs | exact covL_still rfl (still_map (fun _ => rfl) _) | exact covL_still rfl (still_map ro_still _) | (apply covL_set <;> (try clear nw) <;> have nw := True.intro) | exact congrArg (Value.int _) (by (try dsimp only); omega)) | (exact congrArg (Value.int _) (by omega)) | (exact covL_flat (flat_map (fun _ => rfl) _)) | (exact covL_flat flat_nil) | (refine covP_all ?_; (try clear nw); have nw := True.intro) | (refine covL_each ?_; (try clear nw); have nw := True.intro) | (refine ⟨?_, ?_⟩ <;> (try clear nw) <;> have nw := True.intro) | (guard_hyp nw : True; ((conv => whnf) <;> clear nw)))); (first | done | fail)) : p := h
theorem rnDiskOn2 {p : Prop} (h : p := by refine ⟨?_, ?_, ?_⟩; (first | apply rR_tuple | apply rR_one rfl | exact rfl); all_goals (repeat' (first | (with_reducible (first | exact relH_nil | apply rn_lst | apply rn_own | apply rn_mp | apply rn_row | apply rn_abs | exact wo_nil)) | apply wo_keep rfl | apply wo_drop rfl | exact relH_nil | exact r1_flat rfl | exact r0_flat rfl | exact rl_nil | exact wo_nil | exact bk_old rfl | exact bk_new rfl | exact bk_nil rfl | apply rl_cons | (first | exact relL_still hvs | exact relL_still (still_map (fun _ => rfl) _) | exact relL_still (still_map ro_still _) | exact relL_flat (flat_map (fun _ => rfl) _) | apply relL_set) | exact relL_flat (flat_map (fun _ => rfl) _) | exact relL_flat flat_nil | apply relL_to | apply rn_lst | apply rn_own | apply rn_mp | apply rn_row | apply relH_view rfl | apply relH_lview rfl | apply relH_fact rfl | exact r1_rig | exact r0_rig | exact r1_rigs | exact r0_rigs | apply wo_keep rfl | apply wo_drop rfl | apply r1_agg | apply rn_ptr | apply rn_slice | apply rn_slice0 | apply rn_iface | apply rn_map | apply rn_ifacem | apply r0_map | apply r0_ifacem | apply r0_ptr | apply r0_slice | apply r0_slice0 | apply r0_iface)); (first | done | fail)) : p := h
set_option maxRecDepth 100000 in
set_option maxHeartbeats 4000000 in
theorem on_l (k : Dk) (E : EL) (C : CM) (l : List Int) (cap : Nat) (fs : Fs) (hp : (filesOf E).Perm fs) (hs : Sorted fs) (hn : ∀ p ∈ fs, goodName p.1 = true) (hX : ∀ p ∈ fs, p.2.Ok) (hfew : fs.length ≤ 8) (hl : l.length ≤ 9223372036854775807) :
    CallOb Try.prog 22 [ptr 0, mslice 1 l.length cap] [(0, .own 58 (dkv 2 k)), (1, .lview (l.map iv)), (2, .mp (names E) (spots E)), (3, restI E C)] 4
      (fun v hh m => ∃ z : Dk × EL × CM, OnO l k E C fs z ∧ v = .tuple ([] : List Value).toArray ∧ hh = [(0, .own 58 (dkv 2 z.1)), (2, .mp (names z.2.1) (spots z.2.1)), (3, restI z.2.1 z.2.2)] ∧ m = 4) := by
  refine call_spec tabOk mixed Try.call22 Try.func22 rfl [] (OnO l k E C fs) (fun _ => .tuple ([] : List Value).toArray) (fun z => [(0, .own 58 (dkv 2 z.1)), (2, .mp (names z.2.1) (spots z.2.1)), (3, restI z.2.1 z.2.2)]) (fun _ => 4) ?_ ?_
  · exact (Nat.le_of_ble_eq_true rfl)
  obtain ⟨room, down, ops, life, at', kind, more⟩ := k
  (repeat' ((try (conv => whnf)); first | (guard_target =~ ∃ (_ : Value), ∃ (_ : HP), ∃ (_ : HP), _; refine ⟨_, _, _, rnDiskOn2, ?_⟩; (try (dsimp only [Nat.reduceAdd, List.cons_append, List.nil_append]))) | (guard_target =~ CallOb _ 17 _ _ _ _; refine call_q (names_l ⟨room, false, ops, life, at', kind, more⟩ E C fs hp hs hn (by omega)) [(0, some 0), (1, some 2), (2, some 3)] cvDiskOn1 (by rfl) (by rfl) (by rfl) (fun v h1 n1 hp' => ?_); obtain ⟨capn, hcapn, rfl, rfl, rfl⟩ := hp'; (try (dsimp only [Nat.reduceAdd, List.cons_append, List.nil_append]))) | (guard_hyp k : OS; obtain ⟨hq, hf⟩ := hk; rcases k with ⟨i, E1, C1, u, _ | ⟨q, x⟩⟩ <;> dsimp only at hq hf ⊢) | (guard_hyp x : Fx; obtain ⟨s, L, X, hi, hE, rfl, hok, hcp⟩ := hf; have mk1 : 1 = 1 := rfl) | (guard_target =~ LoopOb _ _ _ _ _ _ _ _; refine loop_sem tabOk mixed [] 16 (fun k : OS => [(0, ptr 0), (5, nextF), (23, mslice 6 fs.length capn), (24, iv (fs.length : Nat)), (25, iv (k.i : Nat))]) (fun k => k.h ⟨room, false, ops, life, at', kind, more⟩ l cap fs capn) (fun k => fs.length - k.i) (OnR l fs) (sem_start2 12 [(0, ptr 0), (5, nextF), (23, mslice 6 fs.length capn), (24, iv (fs.length : Nat)), (25, iv ((0 : Nat) : Int))] (onRaw ⟨room, false, ops, life, at', kind, more⟩ E C l cap (usedV l 0) fs capn) [(4, some 4), (5, some 5), (6, some 9)] (Sub.q cvDiskOn1 (by rfl) (by rfl)) (fun F B w0 m w H => let ⟨z, m', h1, h2, h3, h4⟩ := open_next (i := 0) H (OnQ.start hp); ⟨z, m', h1, h3, h4, by rw [h2]⟩)) (fun k hk => ?_)) | (guard_hyp mk1 : 1 = 1; with_reducible refine ⟨i, rfl, ?_⟩; have hlt : i < fs.length := (List.getElem?_eq_some_iff.1 hi).1; refine ⟨by omega, ?_⟩) | (guard_target =~ LookOb _ _ _ _ _; refine look_foc (hq.nd hs) hE ?_) | (guard_target =~ CallOb _ 45 _ _ _ _; have hXX := hX _ (List.mem_of_getElem? hi); have hqu := hq.used; refine call_q (fated_l (fxOf L X) X (E1.eraseIdx q) C1 l cap u hok hcp hXX hl (by omega)) [(0, some 12), (1, some 13), (2, some 14), (3, some 15), (4, some 4), (5, some 5), (6, some 1), (7, some 3)] cvDiskOn1 (by rfl) (by rfl) (by rfl) (fun v h1 n1 hp' => ?_); obtain ⟨⟨y, C2, u2⟩, ⟨hy, hu2⟩, rfl, rfl, rfl⟩ := hp'; dsimp only at hy hu2; (try (dsimp only [Nat.reduceAdd, List.cons_append, List.nil_append]))) | (guard_target =~ ∃ ks' vs', DelOb _ _ _ ks' vs' ∧ _; refine ⟨_, _, del_foc (hq.nd hs) hE, ?_⟩) | (with_reducible refine chk_in (Nat.ble_eq_true_of_le (by omega)) ?_) | (with_reducible refine ifB_in ?_ ?_ <;> intro hb <;> (try simp only [decide_eq_true_eq, decide_eq_false_iff_not, Int.not_lt, Int.not_le, ne_eq, Decidable.not_not, Bool.not_eq_true', Bool.not_eq_false', gt_iff_lt, ge_iff_le] at hb) <;> (try (exfalso; omega))) | (with_reducible refine ⟨_, w64b _, ?_⟩) | (with_reducible refine ⟨_, w64 (by omega) (by omega), ?_⟩) | (with_reducible refine ⟨_, wu64 (by omega) (by omega), ?_⟩) | (with_reducible refine ⟨_, wu8 (by omega) (by omega), ?_⟩) | (with_reducible refine ⟨_, w64 (by (simp only [size_sfrom, ByteArray.size_extract, ByteArray.size_append, strOf_size, fixedL_length, lit_size, List.size_toArray, List.length_cons, List.length_nil, List.length_append, List.length_replicate]; omega)) (by (simp only [size_sfrom, ByteArray.size_extract, ByteArray.size_append, strOf_size, fixedL_length, lit_size, List.size_toArray, List.length_cons, List.length_nil, List.length_append, List.length_replicate]; omega)), ?_⟩) | (with_reducible refine ⟨_, rfl, ?_⟩) | (with_reducible refine ⟨rfl, ?_⟩) | (intro cap) | (with_reducible refine ⟨trivial, ?_⟩) | (guard_target =~ (planChk _ _ = true) ∧ _; refine ⟨by kernel_rfl, ?_⟩) | (guard_target =~ (_ ∧ _) ∧ _; refine ⟨by ((repeat (first | exact trivial | refine ⟨rfl, ?_⟩)); (first | done | fail)), ?_⟩) | (refine ⟨by omega, ?_⟩) | (refine ⟨by (simp only [size_sfrom, ByteArray.size_extract, ByteArray.size_append, strOf_size, fixedL_length, lit_size, List.size_toArray, List.length_cons, List.length_nil, List.length_append, List.length_replicate]; omega), ?_⟩) | (refine ⟨0, rfl, ?_⟩) | (refine ⟨1, rfl, ?_⟩) | (refine ⟨2, rfl, ?_⟩) | (refine ⟨3, rfl, ?_⟩) | (refine ⟨4, rfl, ?_⟩) | (refine ⟨5, rfl, ?_⟩) | (refine cell_at1 (by assumption) ?_) | (refine cell_in1 (by omega) (fun x hx => ?_)) | fail)) <;> (try (conv => whnf))
  all_goals first
    | (exfalso; have := (List.getElem?_eq_some_iff.1 hi).1; omega)
    | ((refine Ends.go (((⟨room, down, ops, life, at', kind, more⟩, E, C) : Dk × EL × CM)) ?_ [] (Fit.q cvDiskOn1 (by rfl) (by rfl))); exact .inl ⟨by assumption, rfl⟩)
    | ((refine Ends.go (((⟨room, false, ops, life, at', kind, more⟩, E1, C1) : Dk × EL × CM)) ?_ [] (Fit.q cvDiskOn1 (by rfl) (by rfl))); exact .inr ⟨by assumption, rfl, hq.done (Nat.le_of_eq hf.symm)⟩)
    | (subst hu2; refine sem_round2 12 [(0, ptr 0), (5, nextF), (23, mslice 6 fs.length capn), (24, iv (fs.length : Nat)), (25, iv ((i + 1 : Nat) : Int))] (onRaw ⟨room, false, ops, life, at', kind, more⟩ (E1.eraseIdx q) C2 l cap (usedV l (fatedF l X u).2) fs capn) [(4, some 4), (5, some 5), (6, some 6)] (Sub.q cvDiskOn1 (by rfl) (by rfl)) (fun F B w0 m w H => ?_)
       obtain ⟨z, m', h1, h2, h3, h4⟩ := open_next (i := i + 1) H (hq.gone hi hE hXX (now_nil hy (by assumption)) ((fated_sure l X u).symm.trans (hy.sure.symm.trans (by assumption))))
       exact ⟨z, m', h1, by dsimp only; omega, h3, h4, by rw [h2]⟩)
    | (subst hu2; refine sem_round2 12 [(0, ptr 0), (5, nextF), (23, mslice 6 fs.length capn), (24, iv (fs.length : Nat)), (25, iv ((i + 1 : Nat) : Int))] [(0, .own 58 (dkv 2 ⟨room, false, ops, life, at', kind, more⟩)), (1, .lview (l.map iv)), (2, .mp (names E1) ((spots E1).set q (ptr 8))), (3, restI (E1.eraseIdx q) C2), (4, .own 36 [mslice 1 l.length cap]), (5, .own 3 [iv (usedV l (fatedF l X u).2)]), (6, .lst 9 1 capn (nmL fs)), (8, fileI 8 ⟨y.pn, y.ps, y.ws, true, y.ka, y.kb, y.kc⟩), (9, nowI ⟨y.pn, y.ps, y.ws, true, y.ka, y.kb, y.kc⟩), (10, safeI ⟨y.pn, y.ps, y.ws, true, y.ka, y.kb, y.kc⟩), (11, waitI ⟨y.pn, y.ps, y.ws, true, y.ka, y.kb, y.kc⟩)] [(4, some 4), (5, some 5), (6, some 6), (8, some 12), (9, some 24), (10, some 14), (11, some 25)] (Sub.q cvDiskOn1 (by rfl) (by rfl)) (fun F B w0 m w H => ?_)
       obtain ⟨L', H2⟩ := close_next H hE (ok_sure hy)
       obtain ⟨z, m', h1, h2, h3, h4⟩ := open_next (i := i + 1) H2 (hq.kept hi hE hXX (by first | (rintro ⟨h1, h2⟩; exact absurd (((fated_sure l X u).symm.trans (hy.sure.symm.trans ‹y.sure = true›)) : X.sure = true) (by rw [h2]; decide)) | (rintro ⟨h1, h2⟩; exact now_some hy (by assumption) h1)) L')
       exact ⟨z, m', h1, by dsimp only; omega, h3, h4, by rw [h2]⟩)
    | trace_state
/-- The power is there again, told of the disk as a whole. -/
theorem on_c (S : Nat → Prop) (D : DM) (hD : D.Ok) (l : List Int) (cap : Nat) (hl : l.length ≤ 9223372036854775807) :
    CallOb Try.prog 22 [ptr 0, mslice 1 l.length cap] [(0, diskI S D), (1, .lview (l.map iv))] 2 (AbsP (fun _ : Unit => .tuple ([] : List Value).toArray) (fun _ D' => D' = onD D l)) := by
  have step : ∀ E C, (filesOf E).Perm D.fs → CallOb Try.prog 22 [ptr 0, mslice 1 l.length cap] [(0, .own 58 (dkv 2 D.k)), (1, .lview (l.map iv)), (2, .mp (names E) (spots E)), (3, restI E C)] 4 (AbsP (fun _ : Unit => .tuple ([] : List Value).toArray) (fun _ D' => D' = onD D l)) := fun E C hp => by
    refine (on_l D.k E C l cap D.fs hp hD.fs.sorted hD.fs.names (fun p h => hD.fs.files p h) hD.fs.few hl).conv ?_
    rintro v h1 n1 ⟨⟨k', E', C'⟩, hz, rfl, rfl, rfl⟩ F B w0 m w c H hv
    dsimp only at hz H
    have done : ∀ fs', (filesOf E').Perm fs' → (⟨k', fs'⟩ : DM) = onD D l → ∃ m' v' h2 n2, m.le m' ∧ VR m' v' c ∧ HRel F B w0 m' h2 n2 w ∧ AbsP (fun _ : Unit => .tuple ([] : List Value).toArray) (fun _ D' => D' = onD D l) v' h2 n2 := fun fs' hp' hr => by
      obtain ⟨S, H'⟩ := close_disk H (i := 0) (j := 2) (r := 3) rfl rfl rfl (by simp) (List.Perm.refl _) hp'
      have H' : HRel F B w0 m [(0, diskI S ⟨k', fs'⟩)] 4 w := H'
      exact ⟨m, _, _, 20, BM.le_refl m, hv, H'.up (BM.le_refl m) H'.fn (fun i g s x => Nat.lt_of_lt_of_le (H'.fresh i g s x) (by decide)), (), _, S, hr, rfl, rfl, rfl⟩
    rcases hz with ⟨h1, h2⟩ | ⟨h1, h2, h3⟩
    · cases h2
      exact done D.fs hp (by unfold onD; rw [if_neg (by rw [h1]; decide)])
    · dsimp only at h2 h3
      subst h2
      exact done _ h3 (by unfold onD; rw [if_pos h1])
  refine CallOb.pre Try.call22 fun F B w0 m w cs H hcs => ?_
  match cs, hcs with
  | c :: cs, ⟨h0, hr⟩ =>
    obtain ⟨b, hb, rfl⟩ := VR.ptr h0
    obtain ⟨g, s, hg, hs, rfl⟩ := hb.old
    obtain ⟨g', s', hg', ok⟩ := H.dom 0 _ (rfl : lkH [(0, diskI S D), (1, .lview (l.map iv))] 0 = some (diskI S D))
    obtain ⟨rfl, rfl⟩ := H.fn _ _ _ _ _ hg hg'
    rcases ok.1 with ⟨x, _⟩ | rfl
    · exact absurd x hs
    obtain ⟨E, C, m', hle, hp, H'⟩ := open_disk H (i := 0) (S := S) (D := D) rfl hg
    refine ⟨m', [ptr 0, mslice 1 l.length cap], [(0, .own 58 (dkv 2 D.k)), (1, .lview (l.map iv)), (2, .mp (names E) (spots E)), (3, restI E C)], 4, hle, H'.sub_of fun i it e => ?_, ⟨h0.mono hle, LR.mono (fun _ _ x => x.mono hle) hr⟩, step E C hp⟩
    have := lkH_mem e
    simp only [List.mem_cons, Prod.mk.injEq, List.not_mem_nil, or_false] at this
    rcases this with ⟨rfl, rfl⟩ | ⟨rfl, rfl⟩ | ⟨rfl, rfl⟩ | ⟨rfl, rfl⟩ <;> rfl
/-- All names, told of the disk as a whole. -/
theorem names_c (S : Nat → Prop) (D : DM) (hD : D.Ok) :
    CallOb Try.prog 17 [ptr 0] [(0, diskI S D)] 1 (fun v h n => ∃ (cap : Nat) (S' : Nat → Prop), D.fs.length ≤ cap ∧ v = mslice 3 D.fs.length cap ∧ h = [(0, diskI S' D), (3, .lst 9 1 cap (nmL D.fs))] ∧ n = 20) := by
  refine of_raw Try.call17 fun E C hp => (names_l D.k E C D.fs hp hD.fs.sorted hD.fs.names (Nat.le_trans hD.fs.few (by decide))).conv ?_
  rintro v h1 n1 ⟨cap, hc, rfl, rfl, rfl⟩ F B w0 m w c H hv
  obtain ⟨S, H'⟩ := close_disk H (i := 0) (j := 1) (r := 2) (E := E) (E2 := E) rfl rfl rfl (by simp) (List.Perm.refl _) hp
  have H' : HRel F B w0 m [(0, diskI S D), (3, .lst 9 1 cap (nmL D.fs))] 4 w := H'
  exact ⟨m, _, _, 20, BM.le_refl m, hv, H'.up (BM.le_refl m) H'.fn (fun i g s x => Nat.lt_of_lt_of_le (H'.fresh i g s x) (by decide)), cap, S, hc, rfl, rfl, rfl⟩
end Go.Proofs.Ytdgmjjidkaafaaa
