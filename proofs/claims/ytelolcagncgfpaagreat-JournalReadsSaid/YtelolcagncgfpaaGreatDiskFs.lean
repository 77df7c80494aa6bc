/- The disk's files as a list by rising names; the fates; the sectors of bytes; what holds behind each call. No program in sight. -/
import Derived.Test.YtelolcagncgfpaaGreatDiskLay
import Derived.Test.YtelolcagncgfpaaGreatCall
namespace Go.Proofs.YtelolcagncgfpaaGreat
open Go.RowKit
set_option linter.unusedSimpArgs false
set_option linter.unusedVariables false
theorem put_cons_eq {t : ByteArray} {y x : Fl} {r : Fs} : putF ((t, y) :: r) t x = (t, x) :: r := by unfold putF; rw [if_pos rfl]
theorem put_cons_lt {t s : ByteArray} {y x : Fl} {r : Fs} (h : strLt s t = true) : putF ((t, y) :: r) s x = (s, x) :: (t, y) :: r := by
 unfold putF; rw [if_neg (fun e => by subst e; exact strLt_irrefl _ h), if_pos h]
theorem put_cons_gt {t s : ByteArray} {y x : Fl} {r : Fs} (h : strLt t s = true) : putF ((t, y) :: r) s x = (t, y) :: putF r s x := by
 rw [putF, if_neg (fun e => by subst e; exact strLt_irrefl _ h), if_neg (fun e => strLt_irrefl _ (strLt_trans h e))]
theorem put_nil {s : ByteArray} {x : Fl} : putF [] s x = [(s, x)] := rfl
theorem put_mem {s : ByteArray} {x : Fl} : ∀ {fs : Fs} {p : ByteArray × Fl}, p ∈ putF fs s x → p = (s, x) ∨ p ∈ fs
 | [], p, h => by simpa [putF] using h
 | (t, y) :: r, p, h => by
  rcases Classical.em (t = s) with e | e
  · subst e
    rw [put_cons_eq] at h
    rcases List.mem_cons.1 h with h | h
    · exact .inl h
    · exact .inr (List.mem_cons_of_mem _ h)
  · rcases strLt_tri e with e | e
    · rw [put_cons_gt e] at h
      rcases List.mem_cons.1 h with rfl | h
      · exact .inr (List.mem_cons_self)
      · exact (put_mem h).imp id (List.mem_cons_of_mem _)
    · rw [put_cons_lt e] at h
      rcases List.mem_cons.1 h with h | h
      · exact .inl h
      · exact .inr h
theorem Sorted.put {s : ByteArray} {x : Fl} : ∀ {fs : Fs}, Sorted fs → Sorted (putF fs s x)
 | [], _ => by simp [putF, Sorted]
 | (t, y) :: r, h => by
  obtain ⟨h1, h2⟩ := List.pairwise_cons.1 h
  rcases Classical.em (t = s) with e | e
  · subst e
    rw [put_cons_eq]
    exact List.pairwise_cons.2 ⟨h1, h2⟩
  · rcases strLt_tri e with e | e
    · rw [put_cons_gt e]
      refine List.pairwise_cons.2 ⟨fun p hp => ?_, Sorted.put h2⟩
      rcases put_mem hp with rfl | hp
      · exact e
      · exact h1 p hp
    · rw [put_cons_lt e]
      refine List.pairwise_cons.2 ⟨fun p hp => ?_, h⟩
      rcases List.mem_cons.1 hp with rfl | hp
      · exact e
      · exact strLt_trans e (h1 p hp)
theorem find_nil {s : ByteArray} : findF [] s = none := rfl
theorem find_cons {t s : ByteArray} {y : Fl} {r : Fs} : findF ((t, y) :: r) s = if t = s then some y else findF r s := by
 unfold findF
 by_cases e : t = s
 · rw [List.find?_cons_of_pos (by simpa using e), if_pos e]; rfl
 · rw [List.find?_cons_of_neg (by simpa using e), if_neg e]
theorem find_none {s : ByteArray} : ∀ {fs : Fs}, (∀ p ∈ fs, p.1 ≠ s) → findF fs s = none
 | [], _ => rfl
 | (t, y) :: r, h => by rw [find_cons, if_neg (h _ (List.mem_cons_self)), find_none fun p hp => h p (List.mem_cons_of_mem _ hp)]
theorem none_find {s : ByteArray} : ∀ {fs : Fs}, findF fs s = none → ∀ p ∈ fs, p.1 ≠ s
 | [], _, p, hp => by cases hp
 | (t, y) :: r, h, p, hp => by
  rw [find_cons] at h
  split at h
  · cases h
  · rename_i e
    rcases List.mem_cons.1 hp with rfl | hp
    · exact e
    · exact none_find h p hp
theorem find_mem {s : ByteArray} {x : Fl} : ∀ {fs : Fs}, findF fs s = some x → (s, x) ∈ fs
 | [], h => by cases h
 | (t, y) :: r, h => by
  rw [find_cons] at h
  split at h
  · rename_i e; subst e; cases h; exact List.mem_cons_self
  · exact List.mem_cons_of_mem _ (find_mem h)
theorem mem_find {s : ByteArray} {x : Fl} : ∀ {fs : Fs}, Sorted fs → (s, x) ∈ fs → findF fs s = some x
 | (t, y) :: r, hs, h => by
  obtain ⟨h1, h2⟩ := List.pairwise_cons.1 hs
  rw [find_cons]
  rcases List.mem_cons.1 h with e | h
  · cases e; rw [if_pos rfl]
  · have h3 := h1 (s, x) h
    rw [if_neg (fun e => by subst e; exact strLt_irrefl _ h3)]
    exact mem_find h2 h
theorem find_put {s t : ByteArray} {x : Fl} : ∀ {fs : Fs}, Sorted fs → findF (putF fs s x) t = if t = s then some x else findF fs t
 | [], _ => by
  show findF [(s, x)] t = _
  rw [find_cons]
  by_cases e : s = t
  · rw [if_pos e, if_pos e.symm]
  · rw [if_neg e, if_neg (fun h => e h.symm)]
 | (u, y) :: r, hs => by
  obtain ⟨h1, h2⟩ := List.pairwise_cons.1 hs
  rcases Classical.em (u = s) with e | e
  · subst e
    rw [put_cons_eq, find_cons, find_cons]
    by_cases e : u = t
    · rw [if_pos e, if_pos e.symm]
    · rw [if_neg e, if_neg (fun h => e h.symm), if_neg e]
  · rcases strLt_tri e with e' | e'
    · rw [put_cons_gt e', find_cons, find_cons, find_put h2]
      by_cases h : u = t
      · rw [if_pos h, if_pos h, if_neg (fun x => e (h.trans x))]
      · rw [if_neg h, if_neg h]
    · rw [put_cons_lt e', find_cons]
      by_cases h : s = t
      · rw [if_pos h, if_pos h.symm]
      · rw [if_neg h, if_neg (fun x => h x.symm)]
theorem put_mid {s : ByteArray} {x y : Fl} : ∀ {a b : Fs}, Sorted (a ++ (s, y) :: b) → putF (a ++ (s, y) :: b) s x = a ++ (s, x) :: b
 | [], _, _ => put_cons_eq
 | (t, z) :: a, b, h => by
  obtain ⟨h1, h2⟩ := List.pairwise_cons.1 (show Sorted ((t, z) :: (a ++ (s, y) :: b)) from h)
  rw [List.cons_append, put_cons_gt (h1 (s, y) (by simp)), put_mid h2, List.cons_append]
theorem put_same {s : ByteArray} {x : Fl} {fs : Fs} (hs : Sorted fs) (h : findF fs s = some x) : putF fs s x = fs := by
 obtain ⟨a, b, rfl⟩ := List.append_of_mem (find_mem h)
 exact put_mid hs
theorem put_fresh {s : ByteArray} {x : Fl} : ∀ {fs : Fs}, findF fs s = none → ((s, x) :: fs).Perm (putF fs s x)
 | [], _ => List.Perm.refl _
 | (t, y) :: r, h => by
  have hne := none_find h _ (List.mem_cons_self)
  rw [find_cons, if_neg hne] at h
  rcases strLt_tri hne with e | e
  · rw [put_cons_gt e]
    exact (List.Perm.swap _ _ _).trans ((put_fresh h).cons _)
  · rw [put_cons_lt e]
theorem put_perm {l fs : Fs} (hp : l.Perm fs) (hs : Sorted fs) {q : Nat} {s : ByteArray} {X X' : Fl} (hq : l[q]? = some (s, X)) (he : ((s, X) :: l.eraseIdx q).Perm l) (he' : ((s, X') :: l.eraseIdx q).Perm (l.set q (s, X'))) : (l.set q (s, X')).Perm (putF fs s X') := by
 obtain ⟨a, b, rfl⟩ := List.append_of_mem (hp.mem_iff.1 (List.mem_of_getElem? hq))
 rw [put_mid hs]
 have h1 : (l.eraseIdx q).Perm (a ++ b) := ((he.trans hp).trans List.perm_middle).cons_inv
 exact he'.symm.trans ((h1.cons _).trans List.perm_middle.symm)
theorem put_snoc {l fs : Fs} (hp : l.Perm fs) {s : ByteArray} {X : Fl} (h : findF fs s = none) : (l ++ [(s, X)]).Perm (putF fs s X) :=
 (List.perm_append_singleton _ _).trans ((hp.cons _).trans (put_fresh h))
theorem del_mid {s : ByteArray} {y : Fl} {a b : Fs} (h : Sorted (a ++ (s, y) :: b)) : delF (a ++ (s, y) :: b) s = a ++ b := by
 obtain ⟨ha, hb, hab⟩ := List.pairwise_append.1 h
 obtain ⟨hb1, hb2⟩ := List.pairwise_cons.1 hb
 unfold delF
 rw [List.filter_append, List.filter_cons_of_neg (by simp), List.filter_eq_self.2, List.filter_eq_self.2]
 · intro p hp
   have := hb1 p hp
   simp only [ne_eq, decide_not, Bool.not_eq_true', decide_eq_false_iff_not]
   exact fun e => by rw [e] at this; exact strLt_irrefl _ this
 · intro p hp
   have := hab p hp (s, y) (by simp)
   simp only [ne_eq, decide_not, Bool.not_eq_true', decide_eq_false_iff_not]
   exact fun e => by rw [e] at this; exact strLt_irrefl _ this
theorem del_perm {l fs : Fs} (hp : l.Perm fs) (hs : Sorted fs) {q : Nat} {s : ByteArray} {X : Fl} (hq : l[q]? = some (s, X)) (he : ((s, X) :: l.eraseIdx q).Perm l) : (l.eraseIdx q).Perm (delF fs s) := by
 obtain ⟨a, b, rfl⟩ := List.append_of_mem (hp.mem_iff.1 (List.mem_of_getElem? hq))
 rw [del_mid hs]
 exact ((he.trans hp).trans List.perm_middle).cons_inv
theorem Sorted.del {s : ByteArray} {fs : Fs} (h : Sorted fs) : Sorted (delF fs s) := h.filter _
theorem find_del {s t : ByteArray} : ∀ {fs : Fs}, findF (delF fs s) t = if t = s then none else findF fs t
 | [] => by show findF [] t = _; rw [find_nil]; split <;> rfl
 | (u, y) :: r => by
  by_cases e : u = s
  · have : delF ((u, y) :: r) s = delF r s := by unfold delF; rw [List.filter_cons_of_neg (by simpa using e)]
    rw [this, find_del, find_cons]
    by_cases h : t = s
    · rw [if_pos h, if_pos h]
    · rw [if_neg h, if_neg h, if_neg (fun x => h (x.symm.trans e))]
  · have : delF ((u, y) :: r) s = (u, y) :: delF r s := by unfold delF; rw [List.filter_cons_of_pos (by simpa using e)]
    rw [this, find_cons, find_del, find_cons]
    by_cases h : t = s
    · rw [if_neg (fun x => e (x.trans h)), if_pos h, if_pos h]
    · rw [if_neg h, if_neg h]
theorem put_length {s : ByteArray} {x : Fl} {fs : Fs} (hs : Sorted fs) : (putF fs s x).length = if (findF fs s).isSome then fs.length else fs.length + 1 := by
 cases h : findF fs s with
 | none => rw [← (put_fresh (x := x) h).length_eq]; rfl
 | some y =>
  obtain ⟨a, b, rfl⟩ := List.append_of_mem (find_mem h)
  rw [put_mid hs]
  simp
end Go.Proofs.YtelolcagncgfpaaGreat
namespace Go.Proofs.YtelolcagncgfpaaGreat
open Go.RowKit
set_option linter.unusedSimpArgs false
set_option linter.unusedVariables false
def usedV (l : List Int) (u : Nat) : Int := if l = [] then 0 else u
theorem set_take1 {α : Type} : ∀ {S : List α} {i : Nat} {v : α}, i < S.length → (S.set i v).take (i + 1) = S.take i ++ [v]
 | [], _, _, h => by cases h
 | a :: S, 0, v, _ => by simp
 | a :: S, i + 1, v, h => by
  rw [List.set_cons_succ, List.take_succ_cons, set_take1 (by simpa using h), List.take_succ_cons, List.cons_append]
theorem set_drop1 {α : Type} : ∀ {S : List α} {i : Nat} {v : α}, (S.set i v).drop (i + 1) = S.drop (i + 1)
 | [], _, _ => by simp
 | a :: S, 0, v => by simp
 | a :: S, i + 1, v => by rw [List.set_cons_succ, List.drop_succ_cons, set_drop1, List.drop_succ_cons]
theorem drop_at {α : Type} {S : List α} {i : Nat} {a : α} (h : S[i]? = some a) : S.drop i = a :: S.drop (i + 1) := by
 obtain ⟨hi, rfl⟩ := List.getElem?_eq_some_iff.1 h
 exact List.drop_eq_getElem_cons hi
theorem fates_go {l : List Int} {ns : List Cv} {ss : List (Option Cv)} {ws : List Bool} {i u : Nat} {n : Cv} {s : Option Cv} {w : Bool} (h1 : ns[i]? = some n) (h2 : ss[i]? = some s) (h3 : ws[i]? = some w) :
 fates l (ns.drop i) (ss.drop i) (ws.drop i) u = if w = true then (fateC (fateAt l u) n s :: (fates l (ns.drop (i + 1)) (ss.drop (i + 1)) (ws.drop (i + 1)) (u + 1)).1, (fates l (ns.drop (i + 1)) (ss.drop (i + 1)) (ws.drop (i + 1)) (u + 1)).2)
  else (s :: (fates l (ns.drop (i + 1)) (ss.drop (i + 1)) (ws.drop (i + 1)) u).1, (fates l (ns.drop (i + 1)) (ss.drop (i + 1)) (ws.drop (i + 1)) u).2) := by
 rw [drop_at h1, drop_at h2, drop_at h3]
 cases w <;> rfl
structure F1R (l : List Int) (X : Fl) (pn : List Nat) (C0 : CM) (u0 i : Nat) (ps : List (Option Nat)) (C : CM) (u : Nat) : Prop where
 ex : ∃ S : List (Option Cv), All2 (SafeC C) ps S ∧ S.length = X.now.length ∧ fates l X.now X.safe X.wait u0 = (S.take i ++ (fates l (X.now.drop i) (S.drop i) (X.wait.drop i) u).1, (fates l (X.now.drop i) (S.drop i) (X.wait.drop i) u).2)
 now : All2 (fun p x => (p, x) ∈ C) pn X.now
 more : ∀ x ∈ C0, x ∈ C
 le : i ≤ X.now.length
 used : u ≤ u0 + i
theorem F1R.start {l : List Int} {X : Fl} {pn : List Nat} {ps : List (Option Nat)} {C : CM} {u : Nat} (h1 : All2 (fun p x => (p, x) ∈ C) pn X.now) (h2 : All2 (SafeC C) ps X.safe) (hX : X.Ok) : F1R l X pn C u 0 ps C u :=
 ⟨⟨X.safe, h2, hX.safe, by simp⟩, h1, fun _ h => h, Nat.zero_le _, Nat.le_refl _⟩
section
variable {l : List Int} {X : Fl} {pn : List Nat} {C0 : CM} {u0 i : Nat} {ps : List (Option Nat)} {C : CM} {u : Nat}
theorem F1R.len (h : F1R l X pn C0 u0 i ps C u) : ps.length = X.now.length ∧ pn.length = X.now.length := by
 obtain ⟨S, h1, h2, _⟩ := h.ex
 exact ⟨h1.len.trans h2, h.now.len⟩
theorem take_snoc1 {α : Type} {S : List α} {i : Nat} {a : α} (h : S[i]? = some a) : S.take (i + 1) = S.take i ++ [a] := by rw [List.take_add_one, h]; rfl
theorem F1R.skip (h : F1R l X pn C0 u0 i ps C u) (hw : X.wait[i]? = some false) (hi : i < X.now.length) : F1R l X pn C0 u0 (i + 1) ps C u := by
 obtain ⟨⟨S, h1, h2, h3⟩, h4, h5, h6, h7⟩ := h
 refine ⟨⟨S, h1, h2, ?_⟩, h4, h5, hi, by omega⟩
 have hS : S[i]? = some S[i] := List.getElem?_eq_getElem (by omega)
 rw [fates_go (List.getElem?_eq_getElem hi) hS hw] at h3
 rw [h3, if_neg (by decide), take_snoc1 hS, List.append_assoc]
 rfl
theorem F1R.set (h : F1R l X pn C0 u0 i ps C u) (hw : X.wait[i]? = some true) (hi : i < X.now.length) {g : Nat} {C' : CM} {c d : Cv} (hc : X.now[i]? = some c) (hC : ∀ x ∈ C, x ∈ C') (hg : (g, d) ∈ C') (hf : ∀ s, fateC (fateAt l u) c s = some d) :
 F1R l X pn C0 u0 (i + 1) (ps.set i (some g)) C' (u + 1) := by
 obtain ⟨⟨S, h1, h2, h3⟩, h4, h5, h6, h7⟩ := h
 have hS : S[i]? = some S[i] := List.getElem?_eq_getElem (by omega)
 rw [fates_go hc hS hw, if_pos rfl, hf] at h3
 have h1' : All2 (SafeC C') ps S := h1.mono fun p c x => by
  cases p <;> cases c <;> first | exact x | exact hC _ x
 refine ⟨⟨S.set i (some d), h1'.set i hg, (List.length_set ..).trans h2, ?_⟩, h4.mono fun _ _ h => hC _ h, fun x hx => hC x (h5 x hx), hi, by omega⟩
 rw [h3, set_take1 (by omega), set_drop1, List.append_assoc]
 rfl
theorem F1R.lost (h : F1R l X pn C0 u0 i ps C u) (hw : X.wait[i]? = some true) (hi : i < X.now.length) (n1 : fateAt l u ≠ 1) (n2 : fateAt l u ≠ 2) : F1R l X pn C0 u0 (i + 1) ps C (u + 1) := by
 obtain ⟨⟨S, h1, h2, h3⟩, h4, h5, h6, h7⟩ := h
 have hS : S[i]? = some S[i] := List.getElem?_eq_getElem (by omega)
 have e : ∀ c s, fateC (fateAt l u) c s = s := fun c s => by unfold fateC; rw [if_neg n1, if_neg n2]
 rw [fates_go (List.getElem?_eq_getElem hi) hS hw, if_pos rfl, e] at h3
 refine ⟨⟨S, h1, h2, ?_⟩, h4, h5, hi, by omega⟩
 rw [h3, take_snoc1 hS, List.append_assoc]
 rfl
theorem F1R.kept (h : F1R l X pn C0 u0 i ps C u) (hw : X.wait[i]? = some true) (hi : i < X.now.length) {p : Nat} (hp : pn[i]? = some p) (h1 : fateAt l u = 1) : F1R l X pn C0 u0 (i + 1) (ps.set i (some p)) C (u + 1) := by
 obtain ⟨c, hc, hm⟩ := h.now.get hp
 exact h.set hw hi hc (fun _ h => h) hm fun s => by unfold fateC; rw [if_pos h1]
theorem F1R.torn (h : F1R l X pn C0 u0 i ps C u) (hw : X.wait[i]? = some true) (hi : i < X.now.length) (g : Nat) (h1 : fateAt l u = 2) : F1R l X pn C0 u0 (i + 1) (ps.set i (some g)) ((g, none) :: C) (u + 1) :=
 h.set hw hi (List.getElem?_eq_getElem hi) (fun _ h => List.mem_cons_of_mem _ h) (List.Mem.head _) fun s => by unfold fateC; rw [h1]; rfl
theorem F1R.done (h : F1R l X pn C0 u0 i ps C u) (hi : i = X.now.length) (hX : X.Ok) : ∃ S : List (Option Cv), All2 (SafeC C) ps S ∧ S.length = X.now.length ∧ fates l X.now X.safe X.wait u0 = (S, u) := by
 obtain ⟨S, h1, h2, h3⟩ := h.ex
 refine ⟨S, h1, h2, ?_⟩
 have e1 := hX.wait
 rw [h3, List.drop_of_length_le (by omega), List.drop_of_length_le (by omega), List.drop_of_length_le (by omega), List.take_of_length_le (by omega)]
 show (S ++ [], u) = _
 rw [List.append_nil]
end
theorem trim_at : ∀ {S : List (Option Cv)} {n : Nat}, n ≤ S.length → (n = 0 ∨ ∃ c, S[n - 1]? = some (some c)) → (∀ j, n ≤ j → j < S.length → S[j]? = some none) → trimC S = S.take n
 | [], n, _, _, _ => by simp [trimC]
 | c :: r, 0, _, _, h => by
  have ih := trim_at (S := r) (n := 0) (Nat.zero_le _) (.inl rfl) (fun j _ hj => by have := h (j + 1) (Nat.zero_le _) (by simpa using hj); simpa using this)
  have hc : c = none := by have := h 0 (Nat.le_refl _) (by simp); simpa using this
  subst hc
  unfold trimC
  rw [ih]
  rfl
 | c :: r, n + 1, hn, hl, h => by
  have hr : ∀ j, n ≤ j → j < r.length → r[j]? = some none := fun j h1 h2 => by have := h (j + 1) (by omega) (by simpa using h2); simpa using this
  have hn' : n ≤ r.length := by simpa using hn
  unfold trimC
  rcases Nat.eq_zero_or_pos n with h0 | h0
  · subst h0
    have ih := trim_at (S := r) (n := 0) (Nat.zero_le _) (.inl rfl) hr
    obtain ⟨d, hd⟩ : ∃ d, c = some d := by
     rcases hl with hl | ⟨d, hl⟩
     · cases hl
     · exact ⟨d, by simpa using hl⟩
    subst hd
    rw [ih]
    rfl
  · have ih := trim_at (S := r) (n := n) hn' (.inr (by
     rcases hl with hl | ⟨d, hl⟩
     · cases hl
     · obtain ⟨k, rfl⟩ : ∃ k, n = k + 1 := ⟨n - 1, by omega⟩
       exact ⟨d, by simpa using hl⟩)) hr
    rw [ih]
    have hne : r.take n ≠ [] := by
     intro e
     have := congrArg List.length e
     rw [List.length_take] at this
     simp only [List.length_nil] at this
     omega
    rw [List.take_succ_cons]
    cases e : r.take n with
    | nil => exact absurd e hne
    | cons y ys => rfl
def fillI (T : List (Option Cv)) (i : Nat) : List (Option Cv) := (T.take i).map (fun c => some (fillC c)) ++ T.drop i
theorem fillI_0 (T : List (Option Cv)) : fillI T 0 = T := by simp [fillI]
theorem fillI_all {T : List (Option Cv)} {i : Nat} (h : T.length ≤ i) : fillI T i = (T.map fillC).map some := by
 unfold fillI; rw [List.take_of_length_le h, List.drop_of_length_le h, List.append_nil, List.map_map]; rfl
theorem fillI_len (T : List (Option Cv)) (i : Nat) : (fillI T i).length = T.length := by
 unfold fillI; rw [List.length_append, List.length_map, List.length_take, List.length_drop]; omega
theorem fillI_at {T : List (Option Cv)} {i : Nat} {c : Option Cv} (h : (fillI T i)[i]? = some c) : T[i]? = some c := by
 unfold fillI at h
 rcases Nat.lt_or_ge i T.length with hi | hi
 · rw [List.getElem?_append_right (by rw [List.length_map, List.length_take]; omega), List.length_map, List.length_take, Nat.min_eq_left (by omega), Nat.sub_self, List.getElem?_drop] at h
   simpa using h
 · rw [List.getElem?_eq_none (by rw [List.length_append, List.length_map, List.length_take, List.length_drop]; omega)] at h
   cases h
theorem fillI_keep {T : List (Option Cv)} {i : Nat} {c : Cv} (h : T[i]? = some (some c)) : fillI T (i + 1) = fillI T i := by
 unfold fillI
 rw [List.take_add_one, h, List.map_append, List.append_assoc, drop_at h]
 rfl
theorem fillI_new {T : List (Option Cv)} {i : Nat} (h : T[i]? = some none) : fillI T (i + 1) = (fillI T i).set i (some (some zero256)) := by
 have hi : i < T.length := (List.getElem?_eq_some_iff.1 h).1
 unfold fillI
 have e : ((T.take i).map fun c => some (fillC c)).length = i := by rw [List.length_map, List.length_take]; omega
 rw [List.set_append_right _ _ (by omega), e, Nat.sub_self, drop_at h, List.set_cons_zero, List.take_add_one, h, List.map_append, List.append_assoc]
 rfl
theorem some_all {C : CM} : ∀ {ps : List (Option Nat)} {s : List Cv}, All2 (SafeC C) ps (s.map some) → ∃ pn : List Nat, ps = pn.map some ∧ All2 (fun p x => (p, x) ∈ C) pn s
 | [], [], _ => ⟨[], rfl, trivial⟩
 | [], _ :: _, h => h.elim
 | _ :: _, [], h => h.elim
 | none :: ps, c :: s, h => h.1.elim
 | some p :: ps, c :: s, h => by
  obtain ⟨pn, rfl, h2⟩ := some_all h.2
  exact ⟨p :: pn, rfl, h.1, h2⟩
theorem safe_at {C : CM} {ps : List (Option Nat)} {S : List (Option Cv)} (h : All2 (SafeC C) ps S) {i : Nat} {p : Option Nat} (hp : ps[i]? = some p) : ∃ s, S[i]? = some s ∧ (p = none ↔ s = none) := by
 obtain ⟨s, h1, h2⟩ := h.get hp
 refine ⟨s, h1, ?_⟩
 cases p <;> cases s <;> first | exact h2.elim | simp
end Go.Proofs.YtelolcagncgfpaaGreat
namespace Go.Proofs.YtelolcagncgfpaaGreat
open Go.RowKit
set_option linter.unusedSimpArgs false
set_option linter.unusedVariables false
theorem chunks_nil (n : Nat) : chunks n [] = [] := by cases n <;> rfl
theorem chunks_cons (n : Nat) {l : List UInt8} (h : l ≠ []) : chunks (n + 1) l = some (strOf (l.take 256 ++ List.replicate (256 - (l.take 256).length) 0)) :: chunks n (l.drop 256) := by
 cases l with
 | nil => exact absurd rfl h
 | cons a l => rfl
theorem chunks_fuel : ∀ (n m : Nat) (l : List UInt8), l.length ≤ n → l.length ≤ m → chunks n l = chunks m l
 | 0, m, l, h, _ => by
  obtain rfl : l = [] := List.eq_nil_of_length_eq_zero (by omega)
  rw [chunks_nil, chunks_nil]
 | n + 1, 0, l, _, h => by
  obtain rfl : l = [] := List.eq_nil_of_length_eq_zero (by omega)
  rw [chunks_nil, chunks_nil]
 | n + 1, m + 1, l, h1, h2 => by
  by_cases h : l = []
  · subst h; rw [chunks_nil, chunks_nil]
  · rw [chunks_cons n h, chunks_cons m h]
    have : 0 < l.length := List.length_pos_iff.2 h
    rw [chunks_fuel n m (l.drop 256) (by rw [List.length_drop]; omega) (by rw [List.length_drop]; omega)]
def chunkS (s : ByteArray) : List Cv := chunks s.size (bytesOf s)
def partS (s : ByteArray) : ByteArray := strOf ((bytesOf s).take 256 ++ List.replicate (256 - ((bytesOf s).take 256).length) 0)
theorem chunkS_nil {s : ByteArray} (h : s.size = 0) : chunkS s = [] := by unfold chunkS; rw [h]; rfl
theorem chunkS_cons {s : ByteArray} (h : 0 < s.size) {t : ByteArray} (ht : bytesOf t = (bytesOf s).drop 256) : chunkS s = some (partS s) :: chunkS t := by
 unfold chunkS partS
 have hne : bytesOf s ≠ [] := by
  intro hn
  have := bytesOf_length s
  rw [hn] at this
  simp at this
  omega
 obtain ⟨n, hn⟩ : ∃ n, s.size = n + 1 := ⟨s.size - 1, by omega⟩
 have hl := bytesOf_length s
 have ht2 := bytesOf_length t
 rw [hn, chunks_cons n hne, ht]
 rw [ht, List.length_drop] at ht2
 rw [chunks_fuel n t.size _ (by rw [List.length_drop]; omega) (by rw [List.length_drop]; omega)]
theorem partS_size (s : ByteArray) : (partS s).size = 256 := by
 unfold partS
 rw [strOf_size, List.length_append, List.length_replicate, List.length_take]
 omega
theorem chunks_ok : ∀ (n : Nat) (l : List UInt8), ∀ c ∈ chunks n l, OkC c
 | 0, _, c, h => by cases h
 | n + 1, l, c, h => by
  by_cases hl : l = []
  · subst hl; cases h
  · rw [chunks_cons n hl] at h
    cases h with
    | head =>
     show (strOf _).size = 256
     rw [strOf_size, List.length_append, List.length_replicate, List.length_take]
     omega
    | tail _ h => exact chunks_ok n _ c h
theorem part_is {s : ByteArray} (k : Nat) (hk : k = min s.size 256) : s.extract 0 k ++ strOf (List.replicate (256 - (k : Int)).toNat 0) = partS s := by
 have e : s.extract 0 k = strOf ((bytesOf s).take 256) := by
  apply bytesOf_inj.1
  rw [bytesOf_extract, bytesOf_strOf, List.drop_zero]
  have hl := bytesOf_length s
  subst hk
  rcases Nat.lt_or_ge s.size 256 with h | h
  · rw [List.take_of_length_le (by omega), List.take_of_length_le (by omega)]
  · rw [Nat.min_eq_right h]
 have hl : ((bytesOf s).take 256).length = k := by rw [List.length_take, bytesOf_length, hk]; omega
 rw [e]
 unfold partS
 rw [← strOf_append, hl]
 congr 3
 omega
theorem rest_is (s : ByteArray) (k : Nat) (hk : k = min s.size 256) : bytesOf (sfrom s k) = (bytesOf s).drop 256 := by
 rw [bytesOf_sfrom, hk]
 have hl := bytesOf_length s
 rcases Nat.lt_or_ge s.size 256 with h | h
 · rw [List.drop_of_length_le (by omega), List.drop_of_length_le (by omega)]
 · rw [Nat.min_eq_right h]
end Go.Proofs.YtelolcagncgfpaaGreat
namespace Go.Proofs.YtelolcagncgfpaaGreat
open Go.RowKit
set_option linter.unusedSimpArgs false
set_option linter.unusedVariables false
structure OkK (k : Dk) (n : Int) : Prop where
 room : 0 ≤ k.room ∧ k.room ≤ 16384
 ops : 0 ≤ k.ops ∧ k.ops ≤ n
 life : 0 ≤ k.life ∧ k.life ≤ n
 at0 : 0 ≤ k.at' ∧ k.at' ≤ 9223372036854775807
 kind : -9223372036854775808 ≤ k.kind ∧ k.kind ≤ 9223372036854775807
 more : -9223372036854775808 ≤ k.more ∧ k.more ≤ 9223372036854775807
structure DM.OkN (D : DM) (n : Int) : Prop where
 k : OkK D.k n
 fs : D.fs.Ok
theorem OkK.fit {k : Dk} {n : Int} (h : OkK k n) (hn : n < 4611686018427387904) : k.Fit := by
 obtain ⟨h1, h2, h3, h4, h5, h6⟩ := h
 unfold Dk.Fit
 omega
theorem DM.OkN.ok {D : DM} {n : Int} (h : D.OkN n) (hn : n < 4611686018427387904) : D.Ok := ⟨h.k.fit hn, h.fs⟩
theorem OkK.mono {k : Dk} {n m : Int} (h : OkK k n) (hn : n ≤ m) : OkK k m := ⟨h.room, ⟨h.ops.1, Int.le_trans h.ops.2 hn⟩, ⟨h.life.1, Int.le_trans h.life.2 hn⟩, h.at0, h.kind, h.more⟩
theorem DM.OkN.mono {D : DM} {n m : Int} (h : D.OkN n) (hn : n ≤ m) : D.OkN m := ⟨h.k.mono hn, h.fs⟩
theorem begS_ok {k : Dk} {n : Int} (h : OkK k n) (s : ByteArray) (r : Bool) : OkK (begS k s r).2 (n + 1) := by
 obtain ⟨h1, h2, h3, h4, h5, h6⟩ := h
 unfold begS
 repeat' split
 all_goals (refine ⟨?_, ?_, ?_, ?_, ?_, ?_⟩ <;> dsimp only <;> omega)
theorem begS_good {k : Dk} {s : ByteArray} {r : Bool} (h : (begS k s r).1 ≠ 1) : goodName s = true ∧ r = true := by
 unfold begS at h
 split at h
 · exact absurd rfl h
 · rename_i h1
   cases hg : goodName s <;> cases r <;> simp_all
theorem found_snd (D : DM) (s : ByteArray) (r : Bool) : (foundD D s r).2 = ⟨(begS D.k s r).2, D.fs⟩ := rfl
theorem found_ok {D : DM} {n : Int} (h : D.OkN n) (s : ByteArray) (r : Bool) : (foundD D s r).2.OkN (n + 1) := ⟨begS_ok h.k s r, h.fs⟩
theorem found_zero {D : DM} {s : ByteArray} {r : Bool} (h : (foundD D s r).1 = 0) : goodName s = true ∧ r = true ∧ ∃ x, findF D.fs s = some x := by
 unfold foundD at h
 dsimp only at h
 split at h
 · rename_i h1; exact absurd h h1
 · rename_i h1
   have h1 : (begS D.k s r).1 = 0 := Classical.byContradiction h1
   obtain ⟨a, b⟩ := begS_good (k := D.k) (s := s) (r := r) (by rw [h1]; decide)
   cases hf : findF D.fs s with
   | none => rw [hf] at h; cases h
   | some x => exact ⟨a, b, x, rfl⟩
theorem begS_not14 (k : Dk) (s : ByteArray) (r : Bool) : (begS k s r).1 ≠ 14 := by
 unfold begS
 repeat' split
 all_goals (dsimp only; decide)
theorem found_14 {D : DM} {s : ByteArray} {r : Bool} (h : (foundD D s r).1 = 14) : goodName s = true ∧ r = true ∧ findF D.fs s = none := by
 unfold foundD at h
 dsimp only at h
 split at h
 · exact absurd h (begS_not14 _ _ _)
 · rename_i h1
   have h1 : (begS D.k s r).1 = 0 := Classical.byContradiction h1
   obtain ⟨a, b⟩ := begS_good (k := D.k) (s := s) (r := r) (by rw [h1]; decide)
   cases hf : findF D.fs s with
   | none => exact ⟨a, b, rfl⟩
   | some x => rw [hf] at h; cases h
theorem fl0_ok : fl0.Ok := ⟨rfl, rfl, by decide, fun c h => (by cases h), fun c h => (by cases h)⟩
theorem find_ok {fs : Fs} (h : fs.Ok) {s : ByteArray} {x : Fl} (hx : findF fs s = some x) : x.Ok := h.files _ (find_mem hx)
theorem get_ok {fs : Fs} (h : fs.Ok) (s : ByteArray) : ((findF fs s).getD fl0).Ok := by
 cases hx : findF fs s with
 | none => exact fl0_ok
 | some x => exact find_ok h hx
theorem find_total {s : ByteArray} {x : Fl} : ∀ {fs : Fs}, findF fs s = some x → x.now.length ≤ total fs
 | [], h => by cases h
 | (t, y) :: r, h => by
  rw [find_cons] at h
  have e : total ((t, y) :: r) = y.now.length + total r := rfl
  split at h
  · cases h; omega
  · have := find_total h; omega
theorem put_okF {fs : Fs} (h : fs.Ok) {s : ByteArray} (hs : goodName s = true) {x : Fl} (hx : x.Ok) (hl : findF fs s = none → fs.length < 8) : (putF fs s x).Ok := by
 refine ⟨h.sorted.put, ?_, ?_, ?_⟩
 · rw [put_length h.sorted]
   cases hf : findF fs s with
   | none => have := hl hf; rw [if_neg (by decide)]; omega
   | some y => exact h.few
 · intro p hp
   rcases put_mem hp with rfl | hp
   · exact hs
   · exact h.names p hp
 · intro p hp
   rcases put_mem hp with rfl | hp
   · exact hx
   · exact h.files p hp
theorem del_okF {fs : Fs} (h : fs.Ok) (s : ByteArray) : (delF fs s).Ok := by
 have hm : ∀ p, p ∈ delF fs s → p ∈ fs := fun p hp => (List.mem_filter.1 hp).1
 exact ⟨h.sorted.del, Nat.le_trans (List.length_filter_le _ _) h.few, fun p hp => h.names p (hm p hp), fun p hp => h.files p (hm p hp)⟩
theorem write_okF {x : Fl} (h : x.Ok) {i : Nat} (hi : i ≤ x.now.length) (hl : i = x.now.length → i < 16384) {d : ByteArray} (hd : d.size = 256) : (writeF x i d).Ok := by
 have h1 := h.safe
 have h2 := h.wait
 have h3 := h.len
 unfold writeF
 split
 · rename_i e
   have := hl e
   refine ⟨by simp only [List.length_append, List.length_singleton]; omega, by simp only [List.length_append, List.length_singleton]; omega, by simp only [List.length_append, List.length_singleton]; omega, ?_, ?_⟩
   · intro c hc
     rcases List.mem_append.1 hc with hc | hc
     · exact h.now c hc
     · rw [List.mem_singleton.1 hc]; exact hd
   · intro c hc
     rcases List.mem_append.1 hc with hc | hc
     · exact h.cells c hc
     · exact absurd (List.mem_singleton.1 hc) (fun e => by cases e)
 · refine ⟨by simp only [List.length_set]; exact h1, by simp only [List.length_set]; exact h2, by simp only [List.length_set]; exact h3, ?_, h.cells⟩
   intro c hc
   rcases List.mem_or_eq_of_mem_set hc with hc | rfl
   · exact h.now c hc
   · exact hd
theorem sync_okF {x : Fl} (h : x.Ok) : (syncF x).Ok :=
 ⟨List.length_map _, List.length_replicate, h.len, h.now, fun c hc => by
  obtain ⟨d, hd, e⟩ := List.mem_map.1 hc
  cases e
  exact h.now _ hd⟩
theorem cut_okF {x : Fl} (h : x.Ok) (n : Nat) : (cutF x n).Ok := by
 have h1 := h.safe
 have h2 := h.wait
 have h3 := h.len
 refine ⟨by simp only [cutF, List.length_take]; omega, by simp only [cutF, List.length_take]; omega, by simp only [cutF, List.length_take]; omega, fun c hc => h.now c (List.mem_of_mem_take hc), fun c hc => h.cells c (List.mem_of_mem_take hc)⟩
theorem nil_le {l : List Cv} {k : Nat} (h : l = []) : l.length * 256 ≤ k := by rw [h]; exact Nat.le_trans (Nat.le_of_eq (Nat.zero_mul _)) (Nat.zero_le _)
set_option maxRecDepth 100000 in
theorem step_le (a b c : Nat) (h1 : a * 256 ≤ b + 255) (h2 : b = c - 256) (h3 : 0 < c) : (a + 1) * 256 ≤ c + 255 := by
 rw [Nat.add_mul, Nat.one_mul]
 rcases Nat.lt_or_ge c 256 with h | h
 · have : b = 0 := by omega
   subst this
   have : a = 0 := by omega
   subst this
   omega
 · omega
theorem chunks_len : ∀ (m : Nat) (l : List UInt8), (chunks m l).length * 256 ≤ l.length + 255
 | 0, l => nil_le rfl
 | m + 1, l => by
  by_cases hl : l = []
  · exact nil_le (by rw [hl]; exact chunks_nil _)
  · have e := congrArg List.length (chunks_cons m hl)
    rw [List.length_cons] at e
    exact e ▸ step_le _ _ _ (chunks_len m (l.drop 256)) List.length_drop (List.length_pos_iff.2 hl)
section
variable {D : DM} {n : Int} (h : D.OkN n)
include h
theorem read_okN (s : ByteArray) (i : Int) : (readD D s i).2.OkN (n + 1) := found_ok h s true
theorem write_okN (s : ByteArray) (i : Int) (d : ByteArray) : (writeD D s i d).2.OkN (n + 1) := by
 have hf := found_ok h s (decide (0 ≤ i) && decide (d.size = 256))
 have e14 := found_14 (D := D) (s := s) (r := decide (0 ≤ i) && decide (d.size = 256))
 have e0 := found_zero (D := D) (s := s) (r := decide (0 ≤ i) && decide (d.size = 256))
 have e2 := found_snd D s (decide (0 ≤ i) && decide (d.size = 256))
 unfold writeD
 dsimp only
 split
 · exact hf
 · rename_i h1
   split
   · exact hf
   · rename_i h2
     split
     · exact hf
     · rename_i h3
       have hg : goodName s = true ∧ 0 ≤ i ∧ d.size = 256 ∧ (findF D.fs s = none → D.fs.length < 8) := by
        rcases Classical.em ((foundD D s (decide (0 ≤ i) && decide (d.size = 256))).1 = 0) with c | c
        · obtain ⟨a, b, x, hx⟩ := e0 c
          simp only [Bool.and_eq_true, decide_eq_true_eq] at b
          exact ⟨a, b.1, b.2, fun hn => by rw [hn] at hx; cases hx⟩
        · have c14 : (foundD D s (decide (0 ≤ i) && decide (d.size = 256))).1 = 14 := Classical.byContradiction fun c2 => h1 ⟨c, .inl c2⟩
          obtain ⟨a, b, hn⟩ := e14 c14
          simp only [Bool.and_eq_true, decide_eq_true_eq] at b
          exact ⟨a, b.1, b.2, fun _ => Nat.lt_of_not_le fun h8 => h3 (.inl ⟨c14, h8⟩)⟩
       obtain ⟨g1, g2, g3, g4⟩ := hg
       refine ⟨hf.k, put_okF h.fs g1 (write_okF (get_ok h.fs s) (by omega) (fun e => ?_) g3) g4⟩
       have hr := hf.k.room
       have hlt : ¬ (foundD D s (decide (0 ≤ i) && decide (d.size = 256))).2.k.room ≤ (total D.fs : Int) := fun hh => h3 (.inr ⟨by omega, hh⟩)
       cases hx : findF D.fs s with
       | none => rw [hx] at e; rw [e]; decide
       | some x =>
        have := find_total hx
        rw [hx] at e
        have e : i.toNat = x.now.length := e
        omega
theorem sync_okN (s : ByteArray) : (syncD D s).2.OkN (n + 1) := by
 have hf := found_ok h s true
 have e0 := found_zero (D := D) (s := s) (r := true)
 unfold syncD
 dsimp only
 split
 · exact hf
 · rename_i h1
   obtain ⟨a, _, x, hx⟩ := e0 (Classical.byContradiction h1)
   exact ⟨hf.k, put_okF h.fs a (sync_okF (get_ok h.fs s)) (fun hn => by rw [hn] at hx; cases hx)⟩
theorem cut_okN (s : ByteArray) (i : Int) : (cutD D s i).2.OkN (n + 1) := by
 have hf := found_ok h s (decide (0 ≤ i))
 have e0 := found_zero (D := D) (s := s) (r := decide (0 ≤ i))
 unfold cutD
 dsimp only
 split
 · exact hf
 · rename_i h1
   obtain ⟨a, _, x, hx⟩ := e0 (Classical.byContradiction h1)
   split
   · exact hf
   · exact ⟨hf.k, put_okF h.fs a (cut_okF (get_ok h.fs s) _) (fun hn => by rw [hn] at hx; cases hx)⟩
theorem drop_okN (s : ByteArray) : (dropD D s).2.OkN (n + 1) := by
 have hf := found_ok h s true
 unfold dropD
 dsimp only
 split
 · exact hf
 · exact ⟨hf.k, del_okF h.fs s⟩
theorem arm_okN {a b c : Int} (hb : -9223372036854775808 ≤ b ∧ b ≤ 9223372036854775807) (hc : -9223372036854775808 ≤ c ∧ c ≤ 9223372036854775807) (ha : a ≤ 9223372036854775807) : (armD D a b c).OkN n :=
 ⟨⟨h.k.room, h.k.ops, h.k.life, by unfold armD; dsimp only; split <;> omega, hb, hc⟩, h.fs⟩
theorem room_okN (a : Int) : (roomD D a).OkN n := ⟨⟨by show 0 ≤ clampR a ∧ clampR a ≤ 16384; unfold clampR; omega, h.k.ops, h.k.life, h.k.at0, h.k.kind, h.k.more⟩, h.fs⟩
theorem off_okN : (offD D).OkN (n + 1) := by
 obtain ⟨h1, h2, h3, h4, h5, h6⟩ := h.k
 unfold offD
 refine ⟨?_, h.fs⟩
 dsimp only
 split <;> (refine ⟨?_, ?_, ?_, ?_, ?_, ?_⟩ <;> dsimp only <;> omega)
theorem load_okN (s d : ByteArray) : (loadD D s d).2.OkN n := by
 unfold loadD
 split
 · exact h
 · rename_i h1
   split
   · exact h
   · rename_i h2
     refine ⟨h.k, put_okF h.fs (by cases hg : goodName s with | true => rfl | false => exact absurd (.inl hg) h1) ?_ (fun hn => Nat.lt_of_not_le fun h8 => h2 ⟨hn, h8⟩)⟩
     have hd : d.size ≤ 1048576 := by omega
     have hL : (chunks d.size (bytesOf d)).length * 256 ≤ d.size + 255 := by have := chunks_len d.size (bytesOf d); rwa [bytesOf_length] at this
     refine ⟨List.length_map _, List.length_replicate, by show (chunks d.size (bytesOf d)).length ≤ 16384; omega, fun c hc => chunks_ok _ _ c hc, fun c hc => ?_⟩
     obtain ⟨e, he, e2⟩ := List.mem_map.1 hc
     cases e2
     exact chunks_ok _ _ _ he
end
theorem new_okN (a : Int) : (newD a).OkN 0 :=
 ⟨⟨by show 0 ≤ clampR a ∧ clampR a ≤ 16384; unfold clampR; omega, by unfold newD; dsimp only; omega, by unfold newD; dsimp only; omega, by unfold newD; dsimp only; omega, by unfold newD; dsimp only; omega, by unfold newD; dsimp only; omega⟩, ⟨List.Pairwise.nil, Nat.zero_le _, fun p h => (by cases h), fun p h => (by cases h)⟩⟩
theorem fates_len (l : List Int) : ∀ (ns : List Cv) (ss : List (Option Cv)) (ws : List Bool) (u : Nat), (fates l ns ss ws u).1.length = ss.length
 | [], ss, ws, u => by simp [fates]
 | _ :: _, [], ws, u => by simp [fates]
 | _ :: _, _ :: _, [], u => by simp [fates]
 | n :: ns, s :: ss, true :: ws, u => by simp only [fates, List.length_cons, fates_len l ns ss ws (u + 1)]
 | n :: ns, s :: ss, false :: ws, u => by simp only [fates, List.length_cons, fates_len l ns ss ws u]
theorem fates_cells (l : List Int) : ∀ (ns : List Cv) (ss : List (Option Cv)) (ws : List Bool) (u : Nat), (∀ c ∈ ns, OkC c) → (∀ c, some c ∈ ss → OkC c) → ∀ c, some c ∈ (fates l ns ss ws u).1 → OkC c
 | [], ss, ws, u, _, h2, c, hc => h2 c (by simp only [fates] at hc; exact hc)
 | _ :: _, [], ws, u, _, h2, c, hc => h2 c (by simp only [fates] at hc; exact hc)
 | _ :: _, _ :: _, [], u, _, h2, c, hc => h2 c (by simp only [fates] at hc; exact hc)
 | n :: ns, s :: ss, true :: ws, u, h1, h2, c, hc => by
  simp only [fates] at hc
  rcases List.mem_cons.1 hc with e | hc
  · unfold fateC at e
    split at e
    · cases e; exact h1 _ List.mem_cons_self
    · split at e
      · cases e; trivial
      · exact h2 c (e ▸ List.mem_cons_self)
  · exact fates_cells l ns ss ws (u + 1) (fun c h => h1 c (List.mem_cons_of_mem _ h)) (fun c h => h2 c (List.mem_cons_of_mem _ h)) c hc
 | n :: ns, s :: ss, false :: ws, u, h1, h2, c, hc => by
  simp only [fates] at hc
  rcases List.mem_cons.1 hc with e | hc
  · exact h2 c (e ▸ List.mem_cons_self)
  · exact fates_cells l ns ss ws u (fun c h => h1 c (List.mem_cons_of_mem _ h)) (fun c h => h2 c (List.mem_cons_of_mem _ h)) c hc
theorem trim_prefix : ∀ (l : List (Option Cv)), trimC l <+: l
 | [] => List.prefix_refl _
 | c :: r => by
  have ih := trim_prefix r
  unfold trimC
  split
  · exact List.nil_prefix
  · exact List.cons_prefix_cons.2 ⟨rfl, ih⟩
theorem zero_size : zero256.size = 256 := by unfold zero256; rw [strOf_size, List.length_replicate]
theorem fated_ok {X : Fl} (h : X.Ok) (l : List Int) (u : Nat) : (fatedF l X u).1.Ok := by
 have hp := trim_prefix (fates l X.now X.safe X.wait u).1
 have hlen : (trimC (fates l X.now X.safe X.wait u).1).length ≤ 16384 := Nat.le_trans hp.length_le (by rw [fates_len, h.safe]; exact h.len)
 have hc : ∀ c ∈ (trimC (fates l X.now X.safe X.wait u).1).map fillC, OkC c := fun c hc => by
  obtain ⟨d, hd, rfl⟩ := List.mem_map.1 hc
  cases d with
  | none => exact zero_size
  | some d => exact fates_cells l X.now X.safe X.wait u h.now h.cells d (hp.subset hd)
 refine ⟨List.length_map _, List.length_replicate, by show (List.map fillC _).length ≤ _; rw [List.length_map]; exact hlen, hc, fun c hc2 => ?_⟩
 obtain ⟨e, he, e2⟩ := List.mem_map.1 hc2
 cases e2
 exact hc _ he
theorem onF_ok (l : List Int) : ∀ (fs : Fs) (u : Nat), (∀ p ∈ fs, p.2.Ok) → ((onF l fs u).map fun p => p.1).Sublist (fs.map fun p => p.1) ∧ ∀ p ∈ onF l fs u, p.2.Ok
 | [], u, _ => ⟨List.Sublist.refl _, fun p h => (by cases h)⟩
 | (s, X) :: r, u, h => by
  have hX : X.Ok := h (s, X) List.mem_cons_self
  obtain ⟨i1, i2⟩ := onF_ok l r (fatedF l X u).2 (fun p hp => h p (List.mem_cons_of_mem _ hp))
  have e : onF l ((s, X) :: r) u = if (fatedF l X u).1.now = [] ∧ X.sure = false then onF l r (fatedF l X u).2 else (s, { (fatedF l X u).1 with sure := true }) :: onF l r (fatedF l X u).2 := rfl
  rw [e]
  split
  · exact ⟨i1.cons _, i2⟩
  · refine ⟨i1.cons_cons _, fun p hp => ?_⟩
    rcases List.mem_cons.1 hp with rfl | hp
    · have := fated_ok hX l u
      exact ⟨this.safe, this.wait, this.len, this.now, this.cells⟩
    · exact i2 p hp
theorem sorted_names {fs : Fs} : Sorted fs ↔ (fs.map fun p => p.1).Pairwise fun a b => strLt a b = true := by unfold Sorted; rw [List.pairwise_map]
theorem on_okN {D : DM} {n : Int} (h : D.OkN n) (l : List Int) : (onD D l).OkN n := by
 unfold onD
 split
 · obtain ⟨h1, h2⟩ := onF_ok l D.fs 0 h.fs.files
   refine ⟨⟨h.k.room, h.k.ops, h.k.life, h.k.at0, h.k.kind, h.k.more⟩, sorted_names.2 ((sorted_names.1 h.fs.sorted).sublist h1), ?_, fun p hp => ?_, h2⟩
   · have := h1.length_le
     rw [List.length_map, List.length_map] at this
     exact Nat.le_trans this h.fs.few
   · have := h1.subset (List.mem_map.2 ⟨p, hp, rfl⟩)
     obtain ⟨q, hq, e⟩ := List.mem_map.1 this
     have hg := h.fs.names q hq
     rwa [e] at hg
 · exact h
end Go.Proofs.YtelolcagncgfpaaGreat
