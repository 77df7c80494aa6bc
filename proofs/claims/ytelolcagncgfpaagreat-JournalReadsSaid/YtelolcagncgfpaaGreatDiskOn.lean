/- The disk: a file's sectors by their fates. The disk: all names, rising; the power is there again. -/
import Derived.Test.YtelolcagncgfpaaGreatDiskFs
import Derived.Test.YtelolcagncgfpaaGreatDiskWriteC
import Derived.Test.YtelolcagncgfpaaGreatEngW
import Derived.Test.YtelolcagncgfpaaGreatDiskOps
import Derived.Test.YtelolcagncgfpaaGreatIter
import Derived.Shelf.SlIter.Nil
import Derived.Shelf.SortM.Plain
import Derived.Shelf.SortM.SortNone
namespace Go.Proofs.YtelolcagncgfpaaGreat
open Go.RowKit
set_option linter.unusedSimpArgs false
set_option linter.unusedVariables false
theorem zero_is : strOf (List.replicate (256 : Int).toNat 0) = zero256 := rfl
attribute [local irreducible] bytesOf strOf strEq strLt sfrom begS fates fateAt usedV fillI
theorem usedV_none {l : List Int} (h : (l.length : Int) = 0) (u : Nat) : usedV l u = 0 ∧ fateAt l u = 0 := by
 have : l = [] := List.eq_nil_of_length_eq_zero (by omega)
 unfold usedV fateAt
 rw [if_pos this, if_pos this]; exact ⟨rfl, rfl⟩
theorem usedV_some {l : List Int} (h : ¬ (l.length : Int) = 0) (u : Nat) : usedV l u = u ∧ 0 < l.length ∧ l[u % l.length]? = some (fateAt l u) := by
 have h0 : l ≠ [] := fun e => h (by rw [e]; rfl)
 have hp : 0 < l.length := List.length_pos_iff.2 h0
 unfold usedV fateAt
 rw [if_neg h0, if_neg h0]
 refine ⟨rfl, hp, ?_⟩
 have := Nat.mod_lt u hp
 rw [List.getD_eq_getElem?_getD, List.getElem?_eq_getElem this]; rfl
theorem isP_ros (l : List (Option Nat)) : ∀ v ∈ l.map ro, isP v := fun v hv => by obtain ⟨g, _, rfl⟩ := List.mem_map.1 hv; cases g with | none => exact .inl rfl | some g => exact .inr ⟨g, rfl⟩
theorem putro {ps : List (Option Nat)} {i p : Nat} : putL (ps.map ro) (0 + i * 1) [rp p] = (ps.set i (some p)).map ro := by rw [putL_one, List.map_set]; rfl
theorem ro_set {m : BM} (hf : m.Fn) {i j g : Nat} (hm : m j g 0) {ps : List (Option Nat)} {l : List Value} (h : LR (V1 m) ((ps.map ro).set i (ptr j)) l) : LR (V1 m) ((ps.set i (some g)).map ro) l := by
 have h2 : LR (V1 m) ((ps.map ro).set i (ptr j)) ((ps.map co).set i (cp g)) := (ros_cos.2 rfl).set i (ptr_cp hm)
 rw [LR.fn (R := V1 m) (fun _ _ _ => V1.fn hf) h h2]
 exact ros_cos.2 (by rw [List.map_set]; rfl)
abbrev fatH (x : Fx) (E : EL) (C : CM) (l : List Int) (cap u : Nat) : HP := fileH x ++ [(4, .own 124 [mslice 6 l.length cap]), (5, .own 3 [iv (usedV l u)]), (6, .lview (l.map iv)), (7, restI E C)]
abbrev fhL (pn : List Nat) (ws : List Bool) (sure : Bool) (ka kb kc n : Nat) (ps : List (Option Nat)) (us : Int) (l : List Int) (cap : Nat) (E : EL) (C : CM) : HP :=
 [(0, .own 69 [mslice 1 pn.length ka, mslice 2 n kb, mslice 3 ws.length kc, .bool sure]), (1, .lst 70 1 ka (pn.map fun p => rp p)), (2, .lst 70 1 kb (ps.map ro)), (3, .lst 4 1 kc (ws.map .bool)),
  (4, .own 124 [mslice 6 l.length cap]), (5, .own 3 [iv us]), (6, .lview (l.map iv)), (7, restI E C)]
structure F1 where
 i : Nat
 ps : List (Option Nat)
 C : CM
 u : Nat
structure F3 where
 i : Nat
 ps : List (Option Nat)
 C : CM
theorem putros {ps : List (Option Nat)} {i j : Nat} : putL (ps.map ro) (0 + i * 1) [ptr j] = (ps.map ro).set i (ptr j) := putL_one _ _ _
theorem covL_putros {np : Nat} {L : IdMap} {ps : List (Option Nat)} {k i j : Nat} (e : cov1 np L (ptr i) (ptr j)) : covL np L ((ps.map ro).set k (ptr i)) (putL (ps.map ro) (0 + k * 1) [ptr j]) := by
 rw [putros]; exact covL_setp (isP_ros _) e
theorem fill_keep {C : CM} {ps : List (Option Nat)} {T : List (Option Cv)} {i p : Nat} (h : All2 (SafeC C) ps (fillI T i)) (hp : ps[i]? = some (some p)) : All2 (SafeC C) ps (fillI T (i + 1)) := by
 obtain ⟨s, e1, e2⟩ := safe_at h hp
 cases s with
 | none => exact absurd (e2.2 rfl) (fun h => by cases h)
 | some c => rw [fillI_keep (fillI_at e1)]; exact h
theorem fill_new {C : CM} {ps : List (Option Nat)} {T : List (Option Cv)} {i : Nat} (h : All2 (SafeC C) ps (fillI T i)) (hp : ps[i]? = some none) (g : Nat) : All2 (SafeC ((g, some zero256) :: C)) (ps.set i (some g)) (fillI T (i + 1)) := by
 obtain ⟨s, e1, e2⟩ := safe_at h hp
 obtain rfl := e2.1 rfl
 rw [fillI_new (fillI_at e1)]
 exact All2.set i (SafeC.more (fun x hx => List.mem_cons_of_mem _ hx) h) (List.Mem.head _)
theorem trim_ps {C : CM} {ps : List (Option Nat)} {S : List (Option Cv)} (hS : All2 (SafeC C) ps S) {x : Nat} (h1 : x ≤ ps.length) (h2 : ∀ j, x ≤ j → j < ps.length → ps[j]? = some none) (h3 : x = 0 ∨ ∃ p, ps[x - 1]? = some (some p)) : trimC S = S.take x := by
 have hl := hS.len
 refine trim_at (by omega) (h3.imp id ?_) ?_
 · rintro ⟨p, hp⟩
   obtain ⟨s, e1, e2⟩ := safe_at hS hp
   cases s with
   | none => exact absurd (e2.2 rfl) (fun h => by cases h)
   | some c => exact ⟨c, e1⟩
 · intro j hj1 hj2
   obtain ⟨s, e1, e2⟩ := safe_at hS (h2 j hj1 (by omega))
   rw [e1, e2.1 rfl]
theorem down_none {ps : List (Option Nat)} {k n : Nat} (h : k ≤ n ∧ ∀ j, k ≤ j → j < ps.length → ps[j]? = some none) (hp : ps[k - 1]? = some none) : k - 1 ≤ n ∧ ∀ j, k - 1 ≤ j → j < ps.length → ps[j]? = some none := by
 refine ⟨by omega, fun j h1 h2 => ?_⟩
 rcases Nat.lt_or_ge j k with h3 | h3
 · obtain rfl : j = k - 1 := by omega
   exact hp
 · exact h.2 j h3 h2
theorem fated_end {l : List Int} {X : Fl} {u0 u x i : Nat} {C1 C3 : CM} {ps1 ps3 : List (Option Nat)} {S : List (Option Cv)} {sure : Bool} (hS : All2 (SafeC C1) ps1 S) (hSf : fates l X.now X.safe X.wait u0 = (S, u)) (h1 : x ≤ ps1.length) (h2 : ∀ j, x ≤ j → j < ps1.length → ps1[j]? = some none) (h3 : x = 0 ∨ ∃ p, ps1[x - 1]? = some (some p))
 (h4 : All2 (SafeC C3) ps3 (fillI (S.take x) i)) (hi : x ≤ i) (hsure : sure = X.sure) : ∃ pn : List Nat, ps3 = pn.map some ∧ ∀ ka kb kc, FxOk C3 ⟨pn, pn.map some, List.replicate pn.length false, sure, ka, kb, kc⟩ (fatedF l X u0).1 ∧ u = (fatedF l X u0).2 := by
 rw [fillI_all (by rw [List.length_take]; omega)] at h4
 obtain ⟨pn, rfl, h5⟩ := some_all h4
 refine ⟨pn, rfl, fun ka kb kc => ?_⟩
 unfold fatedF
 rw [hSf]
 dsimp only
 rw [trim_ps hS h1 h2 h3]
 exact ⟨⟨h5, h4, by rw [h5.len], hsure⟩, rfl⟩
theorem freeze_ro {F : Nat → Prop} {B : Nat} {w0 : World} {m : BM} {n : Nat} {w : World} {h : HP} {E : EL} {C : CM} {ps : List (Option Nat)} {i kb q r s : Nat} {c : Cv} (H : HRel F B w0 m h n w) (eq : lkH h q = some (.own 73 (cellv c))) (er : lkH h r = some (restI E C)) (es : lkH h s = some (.lst 70 1 kb ((ps.map ro).set i (ptr q)))) (hqr : q ≠ r) (hqs : q ≠ s) (hrs : r ≠ s) :
 ∃ g, HRel F B w0 m (upH ((r, restI E ((g, c) :: C)) :: rmHs [q, r] h) s (.lst 70 1 kb ((ps.set i (some g)).map ro))) n w := by
 obtain ⟨g, hg, H1⟩ := freeze H eq er hqr
 refine ⟨g, H1.re (i := s) (it := .lst 70 1 kb ((ps.map ro).set i (ptr q))) ?_ (fun _ => rfl) (fun _ _ _ hb => hb) (fun g' s' _ ok => lst_re ok fun l hl => ro_set H.fn hg hl)⟩
 rw [lkH_cons hrs]
 show lkH (rmH (rmH h q) r) s = _
 rw [lkH_rm, if_neg (fun e => hrs e.symm), lkH_rm, if_neg (fun e => hqs e.symm)]
 exact es
end Go.Proofs.YtelolcagncgfpaaGreat
namespace Go.Proofs.YtelolcagncgfpaaGreat
open Go.RowKit Go.Maps Go.Sort Go.Shelf
set_option linter.unusedSimpArgs false
set_option linter.unusedVariables false
def anyV : Value → Option (DataW Unit × List MemPlace) := fun _ => some (.nil, [])
def keyB (x : MapEntry) : List UInt8 := match x.key with | .string s => bytesOf s | _ => []
theorem keyB_rd {x : MapEntry} (hx : ∃ s : ByteArray, x.key = .string s ∧ s.size ≤ maxLen) : WideElems.rd Tryz.prog 9 anyV x = some (.string (keyB x), .nil) := by
 obtain ⟨s, hk, hs⟩ := hx
 have h : keyOf Tryz.prog 9 (.string s) = some (.string s.data.toList) := Go.WideMaps.keyOf_string_mk Tryz.underlying9 hs
 unfold WideElems.rd keyB
 rw [hk, h]
 rfl
set_option maxRecDepth 100000 in
theorem keys_own {w : World} {bm clock : Nat} {es : Array MapEntry} (hb : w.heap[bm]? = some (.map es clock)) (hst : MapKept.Stamped es clock) (hk : ∀ x ∈ es.toList, ∃ s : ByteArray, x.key = .string s ∧ s.size ≤ maxLen) (hn : es.size ≤ maxLen) :
 w.ownsMap Tryz.prog 9 anyV bm es.size (.map ((es.toList.map (WideElems.rg Tryz.prog 9 anyV)).foldr DataW.insert [])) ∧
  (strKeys (.map ((es.toList.map (WideElems.rg Tryz.prog 9 anyV)).foldr DataW.insert []))).Perm (es.toList.map keyB) ∧ Maps.size (.map ((es.toList.map (WideElems.rg Tryz.prog 9 anyV)).foldr DataW.insert [])) = es.size := by
 refine ⟨⟨es, clock, hb, ⟨hn, hst, fun x hx => ⟨_, keyB_rd (hk x hx)⟩⟩, Nat.le_refl _, rfl⟩, ?_, ?_⟩
 · refine ((WideShapes.sorted_perm _).map _).trans ?_
   rw [List.map_map]
   refine List.Perm.of_eq (List.map_congr_left fun x hx => ?_)
   show Go.strOf (WideElems.rg _ _ _ x).1 = keyB x
   unfold WideElems.rg
   rw [keyB_rd (hk x hx)]
   rfl
 · show List.length (List.foldr DataW.insert [] _) = _
   rw [(WideShapes.sorted_perm _).length_eq, List.length_map, Array.length_toList]
abbrev nmL (fs : Fs) : List Value := fs.map fun p => .string p.1
theorem nm_sorted {fs : Fs} (hs : Sorted fs) {ss : List (List UInt8)} (hp : ss.Perm (fs.map fun p => bytesOf p.1)) : (ss.mergeSort leB).map encStr = nmL fs := by
 have e : ss.mergeSort leB = fs.map fun p => bytesOf p.1 := by
  have tr : ∀ a b c : List UInt8, leB a b = true → leB b c = true → leB a c = true := fun a b c h1 h2 => by simp only [leB, decide_eq_true_eq] at *; exact List.le_trans h1 h2
  have tt : ∀ a b : List UInt8, (leB a b || leB b a) = true := fun a b => by simp only [leB, Bool.or_eq_true, decide_eq_true_eq]; exact List.le_total a b
  refine List.Perm.eq_of_pairwise (le := fun a b => leB a b = true) (fun a b _ _ h1 h2 => ?_) (List.pairwise_mergeSort tr tt ss) ?_ ((List.mergeSort_perm ss leB).trans hp)
  · simp only [leB, decide_eq_true_eq] at h1 h2
    exact List.le_antisymm h1 h2
  · rw [List.pairwise_map]
    exact hs.imp fun h => by
     have := (strLt_iff _ _).1 h
     simp only [leB, decide_eq_true_eq]
     exact List.le_of_lt this
 rw [e, List.map_map]
 rfl
theorem flat_names (l : Fs) : ∀ u ∈ nmL l, flat1 u = true := fun u hu => by obtain ⟨x, _, rfl⟩ := List.mem_map.1 hu; rfl
end Go.Proofs.YtelolcagncgfpaaGreat
namespace Go.Proofs.YtelolcagncgfpaaGreat
open Go.RowKit
set_option linter.unusedSimpArgs false
set_option linter.unusedVariables false
theorem sem_round2 {N np n0 : Nat} {ι : Type} {I : ι → TM} {J : ι → HP} {μ : ι → Nat} {R : ι → Prop} {i : ι} {t : TM} {h : HP} {n : Nat} (n1 : Nat) (T' : TM) (H' : HP) (L : IdMap) (s : Sub np T' H' n1 t h L)
 (k : ∀ F B w0 m w, HRel F B w0 m H' n1 w → ∃ i' m', R i' ∧ μ i' < μ i ∧ m.le m' ∧ HRel F B w0 m' (J i') n0 w ∧ I i' = T') : AgainS N np n0 I J μ R i t h n :=
 .go fun F B w0 m w a H ht => let ⟨i', m', h1, h2, hle, h3, h4⟩ := k F B w0 _ w (H.sub s.ok s.oki s.hp); ⟨i', m', h1, h2, fun _ _ _ hi x => hle _ _ _ (via_leN m np L _ _ _ hi x), h3, h4 ▸ (ht.sub s.tm).mono hle⟩
theorem sem_start2 {N np n0 : Nat} {ι : Type} {I : ι → TM} {J : ι → HP} {R : ι → Prop} {t : TM} {h : HP} {n : Nat} (n1 : Nat) (T' : TM) (H' : HP) (L : IdMap) (s : Sub np T' H' n1 t h L)
 (k : ∀ F B w0 m w, HRel F B w0 m H' n1 w → ∃ i' m', R i' ∧ m.le m' ∧ HRel F B w0 m' (J i') n0 w ∧ I i' = T') :
 ∀ F B w0 m w a, HRel F B w0 m h n w → TRel m N t a → ∃ i0 m', R i0 ∧ BM.leN np m m' ∧ HRel F B w0 m' (J i0) n0 w ∧ TRel m' N (I i0) a := fun F B w0 m w a H ht =>
 let ⟨i', m', h1, hle, h3, h4⟩ := k F B w0 _ w (H.sub s.ok s.oki s.hp); ⟨i', m', h1, fun _ _ _ hi x => hle _ _ _ (via_leN m np L _ _ _ hi x), h3, h4 ▸ (ht.sub s.tm).mono hle⟩
def onX (l : List Int) (X : Fl) (u : Nat) : Fl := { (fatedF l X u).1 with sure := true }
theorem onF_cons (l : List Int) (s : ByteArray) (X : Fl) (r : Fs) (u : Nat) : onF l ((s, X) :: r) u = if (fatedF l X u).1.now = [] ∧ X.sure = false then onF l r (fatedF l X u).2 else (s, onX l X u) :: onF l r (fatedF l X u).2 := rfl
structure OnQ (l : List Int) (fs0 : Fs) (i u : Nat) (E : EL) : Prop where
 ex : ∃ dn : Fs, onF l fs0 0 = dn ++ onF l (fs0.drop i) u ∧ (filesOf E).Perm (dn ++ fs0.drop i) ∧ (dn.map fun p => p.1).Sublist ((fs0.take i).map fun p => p.1)
 le : i ≤ fs0.length
 used : u ≤ 16384 * i
theorem OnQ.start {l : List Int} {fs0 : Fs} {E : EL} (h : (filesOf E).Perm fs0) : OnQ l fs0 0 0 E := ⟨⟨[], rfl, h, List.Sublist.refl _⟩, Nat.zero_le _, Nat.zero_le _⟩
theorem OnQ.done {l : List Int} {fs0 : Fs} {i u : Nat} {E : EL} (h : OnQ l fs0 i u E) (hi : fs0.length ≤ i) : (filesOf E).Perm (onF l fs0 0) := by
 obtain ⟨dn, h1, h2, _⟩ := h.ex
 rw [List.drop_of_length_le hi] at h1 h2
 rw [h1]
 exact h2
theorem names_nd {fs : Fs} (hs : Sorted fs) : (fs.map fun p => p.1).Nodup := by
 rw [List.Nodup, List.pairwise_map]
 exact hs.imp fun h e => by rw [e] at h; exact strLt_irrefl _ h
theorem OnQ.nd {l : List Int} {fs0 : Fs} {i u : Nat} {E : EL} (h : OnQ l fs0 i u E) (hs : Sorted fs0) : (E.map fun e => e.1).Nodup := by
 obtain ⟨dn, _, h2, h3⟩ := h.ex
 have e : (E.map fun e => e.1) = (filesOf E).map fun p => p.1 := by rw [List.map_map]; rfl
 rw [e, (h2.map fun p => p.1).nodup_iff, List.map_append]
 refine List.Sublist.nodup ?_ (names_nd hs)
 have h4 : (fs0.map fun p => p.1) = (fs0.take i).map (fun p => p.1) ++ (fs0.drop i).map (fun p => p.1) := by rw [← List.map_append, List.take_append_drop]
 rw [h4]
 exact List.Sublist.append h3 (List.Sublist.refl _)
theorem OnQ.at {l : List Int} {fs0 : Fs} {i u : Nat} {E : EL} (h : OnQ l fs0 i u E) {s : ByteArray} {X : Fl} (hi : fs0[i]? = some (s, X)) : ∃ (q : Nat) (L : LF), E[q]? = some (s, L, X) := by
 obtain ⟨dn, _, h2, _⟩ := h.ex
 have hm : (s, X) ∈ filesOf E := h2.mem_iff.2 (List.mem_append_right _ (by rw [drop_at hi]; exact List.Mem.head _))
 obtain ⟨e, he, h3⟩ := List.mem_map.1 hm
 obtain ⟨q, hq⟩ := List.mem_iff_getElem?.1 he
 obtain ⟨t, L, Y⟩ := e
 cases h3
 exact ⟨q, L, hq⟩
section
variable {l : List Int} {fs0 : Fs} {i u : Nat} {E : EL} {s : ByteArray} {X : Fl} {q : Nat} {L : LF}
theorem OnQ.rest (h : OnQ l fs0 i u E) (hi : fs0[i]? = some (s, X)) (hq : E[q]? = some (s, L, X)) : ∃ dn : Fs, onF l fs0 0 = dn ++ onF l ((s, X) :: fs0.drop (i + 1)) u ∧ (filesOf (E.eraseIdx q)).Perm (dn ++ fs0.drop (i + 1)) ∧ (dn.map fun p => p.1).Sublist ((fs0.take i).map fun p => p.1) ∧ i < fs0.length := by
 obtain ⟨dn, h1, h2, h3⟩ := h.ex
 rw [drop_at hi] at h1 h2
 have hl : (filesOf E)[q]? = some (s, X) := by rw [List.getElem?_map, hq]; rfl
 have he : filesOf (E.eraseIdx q) = (filesOf E).eraseIdx q := map_eraseIdx _ _ _
 refine ⟨dn, h1, ?_, h3, (List.getElem?_eq_some_iff.1 hi).1⟩
 rw [he]
 exact (((perm_erase hl).trans h2).trans List.perm_middle).cons_inv
theorem fated_used (hX : X.Ok) : (fatedF l X u).2 ≤ u + 16384 := by
 have key : ∀ (ns : List Cv) (ss : List (Option Cv)) (ws : List Bool) (u : Nat), (fates l ns ss ws u).2 ≤ u + ns.length := by
  intro ns
  induction ns with
  | nil => intro ss ws u; exact Nat.le_refl _
  | cons n ns ih =>
   intro ss ws u
   cases ss with
   | nil => simp [fates]
   | cons s ss =>
    cases ws with
    | nil => simp [fates]
    | cons w ws =>
     cases w with
     | true => have := ih ss ws (u + 1); simp only [fates, List.length_cons]; omega
     | false => have := ih ss ws u; simp only [fates, List.length_cons]; omega
 have h1 := key X.now X.safe X.wait u
 have h2 := hX.len
 show (fates l X.now X.safe X.wait u).2 ≤ _
 omega
theorem OnQ.gone (h : OnQ l fs0 i u E) (hi : fs0[i]? = some (s, X)) (hq : E[q]? = some (s, L, X)) (hX : X.Ok) (h1 : (fatedF l X u).1.now = []) (h2 : X.sure = false) : OnQ l fs0 (i + 1) (fatedF l X u).2 (E.eraseIdx q) := by
 obtain ⟨dn, e1, e2, e3, hlt⟩ := h.rest hi hq
 rw [onF_cons, if_pos ⟨h1, h2⟩] at e1
 refine ⟨⟨dn, e1, e2, ?_⟩, hlt, ?_⟩
 · rw [List.take_add_one, hi, List.map_append]
   exact e3.trans (List.sublist_append_left _ _)
 · have := fated_used (l := l) (u := u) hX; have := h.used; omega
theorem OnQ.kept (h : OnQ l fs0 i u E) (hi : fs0[i]? = some (s, X)) (hq : E[q]? = some (s, L, X)) (hX : X.Ok) (h1 : ¬ ((fatedF l X u).1.now = [] ∧ X.sure = false)) (L' : LF) : OnQ l fs0 (i + 1) (fatedF l X u).2 (E.set q (s, L', onX l X u)) := by
 obtain ⟨dn, e1, e2, e3, hlt⟩ := h.rest hi hq
 rw [onF_cons, if_neg h1] at e1
 have hql : q < E.length := (List.getElem?_eq_some_iff.1 hq).1
 refine ⟨⟨dn ++ [(s, onX l X u)], ?_, ?_, ?_⟩, hlt, ?_⟩
 · rw [e1, List.append_assoc]; rfl
 · have hp : (filesOf (E.set q (s, L', onX l X u))).Perm ((s, onX l X u) :: filesOf (E.eraseIdx q)) := ((erase_set_perm (s, L', onX l X u) hql).map fun e : ByteArray × LF × Fl => (e.1, e.2.2)).symm
   refine hp.trans ((e2.cons _).trans ?_)
   rw [List.append_assoc]
   exact List.perm_middle.symm
 · rw [List.take_add_one, hi, List.map_append, List.map_append]
   exact List.Sublist.append e3 (List.Sublist.refl _)
 · have := fated_used (l := l) (u := u) hX; have := h.used; omega
end
abbrev onRaw (k : Dk) (E : EL) (C : CM) (l : List Int) (cap : Nat) (us : Int) (fs0 : Fs) (capn : Nat) : HP :=
 [(0, .own 58 (dkv 2 k)), (1, .lview (l.map iv)), (2, .mp (names E) (spots E)), (3, restI E C), (4, .own 124 [mslice 1 l.length cap]), (5, .own 3 [iv us]), (6, .lst 9 1 capn (nmL fs0))]
abbrev onFoc (k : Dk) (E : EL) (q : Nat) (C : CM) (x : Fx) (l : List Int) (cap : Nat) (us : Int) (fs0 : Fs) (capn : Nat) : HP :=
 [(0, .own 58 (dkv 2 k)), (1, .lview (l.map iv)), (2, .mp (names E) ((spots E).set q (ptr 12))), (3, restI (E.eraseIdx q) C), (4, .own 124 [mslice 1 l.length cap]), (5, .own 3 [iv us]), (6, .lst 9 1 capn (nmL fs0)),
  (12, fileI 12 x), (13, nowI x), (14, safeI x), (15, waitI x)]
structure OS where
 i : Nat
 E : EL
 C : CM
 u : Nat
 foc : Option (Nat × Fx)
abbrev OS.h (k : Dk) (l : List Int) (cap : Nat) (fs0 : Fs) (capn : Nat) (z : OS) : HP := match z.foc with
 | none => onRaw k z.E z.C l cap (usedV l z.u) fs0 capn
 | some (q, x) => onFoc k z.E q z.C x l cap (usedV l z.u) fs0 capn
structure OnR (l : List Int) (fs0 : Fs) (z : OS) : Prop where
 q : OnQ l fs0 z.i z.u z.E
 foc : match z.foc with
  | none => z.i = fs0.length
  | some (q, x) => ∃ (s : ByteArray) (L : LF) (X : Fl), fs0[z.i]? = some (s, X) ∧ z.E[q]? = some (s, L, X) ∧ x = fxOf L X ∧ FxOk z.C x X ∧ FxCap x
theorem open_next {F : Nat → Prop} {B : Nat} {w0 : World} {m : BM} {w : World} {k : Dk} {E : EL} {C : CM} {l : List Int} {cap u : Nat} {fs0 : Fs} {capn i : Nat} (H : HRel F B w0 m (onRaw k E C l cap (usedV l u) fs0 capn) 12 w) (hq : OnQ l fs0 i u E) :
 ∃ (z : OS) (m' : BM), OnR l fs0 z ∧ z.i = i ∧ m.le m' ∧ HRel F B w0 m' (z.h k l cap fs0 capn) 16 w := by
 rcases Nat.lt_or_ge i fs0.length with hi | hi
 · obtain ⟨⟨s, X⟩, hs⟩ : ∃ p, fs0[i]? = some p := ⟨_, List.getElem?_eq_getElem hi⟩
   obtain ⟨q, L, hE⟩ := hq.at hs
   obtain ⟨m', hle, h3, H', c1, c2, c3, c4, c5⟩ := open_file H (j := 2) (r := 3) (q := q) (s := s) (L := L) (X := X) rfl rfl (by decide) hE
   refine ⟨⟨i, E, C, u, some (q, fxOf L X)⟩, m', ⟨hq, s, L, X, hs, hE, rfl, ⟨c1, c2, rfl, rfl⟩, ⟨c3, c4, c5⟩⟩, rfl, hle, H'.sub_of fun j it e => ?_⟩
   have e : lkH (onFoc k E q C (fxOf L X) l cap (usedV l u) fs0 capn) j = some it := e
   have := lkH_mem e
   simp only [List.mem_cons, Prod.mk.injEq, List.not_mem_nil, or_false] at this
   rcases this with ⟨rfl, rfl⟩ | ⟨rfl, rfl⟩ | ⟨rfl, rfl⟩ | ⟨rfl, rfl⟩ | ⟨rfl, rfl⟩ | ⟨rfl, rfl⟩ | ⟨rfl, rfl⟩ | ⟨rfl, rfl⟩ | ⟨rfl, rfl⟩ | ⟨rfl, rfl⟩ | ⟨rfl, rfl⟩ <;> rfl
 · refine ⟨⟨i, E, C, u, none⟩, m, ⟨hq, Nat.le_antisymm hq.le hi⟩, rfl, BM.le_refl m, H.up (BM.le_refl m) H.fn fun i g s x => Nat.lt_of_lt_of_le (H.fresh i g s x) (by decide)⟩
theorem close_next {F : Nat → Prop} {B : Nat} {w0 : World} {m : BM} {w : World} {k : Dk} {E : EL} {C : CM} {l : List Int} {cap : Nat} {us : Int} {fs0 : Fs} {capn q : Nat} {s : ByteArray} {L : LF} {X X' : Fl} {x : Fx}
 (H : HRel F B w0 m [(0, .own 58 (dkv 2 k)), (1, .lview (l.map iv)), (2, .mp (names E) ((spots E).set q (ptr 8))), (3, restI (E.eraseIdx q) C), (4, .own 124 [mslice 1 l.length cap]), (5, .own 3 [iv us]), (6, .lst 9 1 capn (nmL fs0)), (8, fileI 8 x), (9, nowI x), (10, safeI x), (11, waitI x)] 12 w)
 (hq : E[q]? = some (s, L, X)) (ok : FxOk C x X') : ∃ L' : LF, HRel F B w0 m (onRaw k (E.set q (s, L', X')) C l cap us fs0 capn) 12 w := by
 have hlt : q < E.length := (List.getElem?_eq_some_iff.1 hq).1
 obtain ⟨X'1, X'2, X'3, X'4⟩ := X'
 obtain ⟨c1, c2, c3, c4⟩ := ok
 dsimp only at c1 c2 c3 c4
 obtain ⟨L', hm, H2⟩ := close_file H (f := 8) (a := 9) (b := 10) (c := 11) (r := 3) s rfl rfl rfl rfl rfl rfl rfl rfl (by simp) c1 c2
 rw [c3, c4] at H2
 let E' : EL := E.set q (s, L', ⟨X'1, X'2, X'3, X'4⟩)
 have hn : names E' = names E := by
  apply List.ext_getElem?
  intro i
  rw [List.getElem?_map, List.getElem?_map, List.getElem?_set]
  split
  · rename_i hi
    subst hi
    rw [hq]
    simp [hlt]
  · rfl
 have H3 := H2.re (i := 2) (it := .mp (names E) ((spots E).set q (ptr 8))) (it' := .mp (names E') (spots E')) rfl (fun _ => rfl) (fun _ _ _ hb => hb) (fun g' s' _ okm => by
  obtain ⟨a, b, A, clk, y1, y2, y3⟩ := okm
  refine ⟨a, b, A, clk, y1, hn ▸ y2, spots_cps.2 ?_⟩
  rw [spots_set hq H2.fn hm y3]
  show _ = (E.set q _).map _
  rw [List.map_set])
 have H4 := H3.re (i := 3) (it := restI ((s, L', ⟨X'1, X'2, X'3, X'4⟩) :: E.eraseIdx q) C) (it' := restI E' C) rfl (fun _ => rfl) (fun _ _ b hb => (SR.perm (erase_set_perm _ hlt)).2 hb) (fun g' s' hg' ok => by
  obtain ⟨a, b, c, _, d⟩ := ok
  exact ⟨a, fun x hx => b x ((SR.perm (erase_set_perm _ hlt)).2 hx), fun e x hx => c e x ((SR.perm (erase_set_perm _ hlt)).2 hx), RestAt.stab _ _, d.perm (erase_set_perm _ hlt)⟩)
 refine ⟨L', H4.sub_of fun j it e => ?_⟩
 have := lkH_mem e
 simp only [List.mem_cons, Prod.mk.injEq, List.not_mem_nil, or_false] at this
 rcases this with ⟨rfl, rfl⟩ | ⟨rfl, rfl⟩ | ⟨rfl, rfl⟩ | ⟨rfl, rfl⟩ | ⟨rfl, rfl⟩ | ⟨rfl, rfl⟩ | ⟨rfl, rfl⟩ <;> rfl
theorem usedV_0 (l : List Int) : usedV l 0 = 0 := by unfold usedV; split <;> rfl
theorem now_nil {C : CM} {y : Fx} {Y : Fl} (h : FxOk C y Y) (h0 : (y.pn.length : Int) = 0) : Y.now = [] := List.eq_nil_of_length_eq_zero (by have := h.c1.len; omega)
theorem now_some {C : CM} {y : Fx} {Y : Fl} (h : FxOk C y Y) (h0 : ¬ (y.pn.length : Int) = 0) : Y.now ≠ [] := fun e => h0 (by have := h.c1.len; rw [e] at this; rw [this]; rfl)
theorem fated_sure (l : List Int) (X : Fl) (u : Nat) : (fatedF l X u).1.sure = X.sure := rfl
theorem ok_sure {C : CM} {y : Fx} {l : List Int} {X : Fl} {u : Nat} (h : FxOk C y (fatedF l X u).1) : FxOk C ⟨y.pn, y.ps, y.ws, true, y.ka, y.kb, y.kc⟩ (onX l X u) := ⟨h.c1, h.c2, h.ws, rfl⟩
attribute [local irreducible] bytesOf strOf strEq strLt sfrom begS fates fateAt usedV fillI fatedF onF
def OnO (l : List Int) (k : Dk) (E : EL) (C : CM) (fs : Fs) (z : Dk × EL × CM) : Prop :=
 (k.down = false ∧ z = (k, E, C)) ∨ (k.down = true ∧ z.1 = { k with down := false } ∧ (filesOf z.2.1).Perm (onF l fs 0))
end Go.Proofs.YtelolcagncgfpaaGreat
