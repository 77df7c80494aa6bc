/- A page is read as the node that was written: in plain Lean. -/
import Derived.Test.YtfjpinifmengcaaNodeEnc
namespace Go.Proofs.Ytfjpinifmengcaa
open Go.RowKit
set_option linter.unusedSimpArgs false
set_option linter.unusedVariables false
/-- s is the page of n. -/
def PageOf (n : Nd) (s : ByteArray) : Prop := OkN n ∧ (encN n).length ≤ 232 ∧ s = strOf (padL (encN n))
/-- What is behind the first i entries. -/
def restL (n : Nd) (i : Nat) : List UInt8 := (padL (encN n)).drop (encTo n i).length
theorem ba_eq {s t : ByteArray} (h : bytesOf s = bytesOf t) : s = t := bytesOf_inj.1 h
theorem encTo_pre (n : Nd) (i : Nat) : ∀ d, ∃ X, encTo n (i + d) = encTo n i ++ X
  | 0 => ⟨[], by simp⟩
  | d + 1 => by
    obtain ⟨X, hX⟩ := encTo_pre n i d
    refine ⟨X ++ entN n (i + d), ?_⟩
    show encTo n (i + d) ++ entN n (i + d) = _
    rw [hX, List.append_assoc]
theorem pad_split {n : Nd} {i : Nat} (hi : i ≤ n.keys.length) (h : (encN n).length ≤ 232) : padL (encN n) = encTo n i ++ restL n i := by
  obtain ⟨X, hX⟩ := encTo_pre n i (n.keys.length - i)
  rw [show i + (n.keys.length - i) = n.keys.length by omega] at hX
  have h2 : encN n = encTo n i ++ X := hX
  unfold restL padL
  rw [List.take_of_length_le h, h2, List.append_assoc, List.drop_append_of_le_length (Nat.le_refl _), List.drop_length, List.nil_append]
theorem rest_step {n : Nd} {i : Nat} (hi : i < n.keys.length) (h : (encN n).length ≤ 232) : restL n i = entN n i ++ restL n (i + 1) := by
  have h1 := pad_split (n := n) (i := i) (by omega) h
  have h2 := pad_split (n := n) (i := i + 1) (by omega) h
  rw [h1] at h2
  have h3 : encTo n (i + 1) = encTo n i ++ entN n i := rfl
  rw [h3, List.append_assoc] at h2
  exact List.append_cancel_left h2
theorem encTo_le {n : Nd} {i : Nat} (hi : i ≤ n.keys.length) : (encTo n i).length ≤ (encN n).length := by
  obtain ⟨X, hX⟩ := encTo_pre n i (n.keys.length - i)
  rw [show i + (n.keys.length - i) = n.keys.length by omega] at hX
  unfold encN; rw [hX, List.length_append]; omega
/-! The reader at what was written. -/
theorem partS_at {A t : List UInt8} {k : Nat} (hk : A.length = k) (b : Bool) : partS k (strOf (A ++ t), b) = (strOf A, (strOf t, b)) := by
  unfold partS
  dsimp only
  rw [if_pos (by rw [strOf_size, List.length_append]; omega)]
  have e1 : (strOf (A ++ t)).extract 0 k = strOf A := ba_eq (by rw [bytesOf_extract, bytesOf_strOf, bytesOf_strOf, List.drop_zero, List.take_append_of_le_length (by omega), ← hk, List.take_length])
  have e2 : sfrom (strOf (A ++ t)) k = strOf t := ba_eq (by rw [bytesOf_sfrom, bytesOf_strOf, bytesOf_strOf, ← hk, List.drop_left])
  rw [e1, e2]
theorem sizeS_at {t : List UInt8} {k : Nat} (hk : k ≤ 5000) (b : Bool) : sizeS (strOf (varL k ++ t), b) = (((k : Nat) : Int), (strOf t, b)) := by
  unfold sizeS
  dsimp only
  rw [bytesOf_strOf, unvar_varL (by omega) t]
  dsimp only
  rw [if_pos ⟨rfl, hk⟩]
  have e2 : sfrom (strOf (varL k ++ t)) (varL k).length = strOf t := ba_eq (by rw [bytesOf_sfrom, bytesOf_strOf, bytesOf_strOf, List.drop_left])
  rw [e2]
theorem unfixed_four {k : Nat} (hk : k < 4294967296) : unfixed (fixedL k 4) = (k, 0) := by
  rw [unfixed_pos (by rw [fixedL_length]; decide) (by rw [fixedL_length]; decide), numOf_fixedL, Nat.mod_eq_of_lt (by simpa using hk)]
theorem pageS_at {t : List UInt8} {k : Nat} (hk : k < 4294967296) (b : Bool) : pageS (strOf (fixedL k 4 ++ t), b) = (((k : Nat) : Int), (strOf t, b)) := by
  unfold pageS
  rw [partS_at (fixedL_length k 4) b]
  dsimp only
  rw [bytesOf_strOf, unfixed_four hk]
theorem strOf_nil : strOf [] = ⟨#[]⟩ := rfl
theorem cellS_at {t : List UInt8} {c : Cel} (h : OkCell c) (d : Int) (b : Bool) : cellS (strOf (valN true c d ++ t), b) = (c, (strOf t, b)) := by
  obtain ⟨s, q, p⟩ := c
  have hle := h.le
  dsimp only at hle
  have e : (s.toNat : Int) = s := by omega
  unfold cellS valN
  rw [if_pos rfl, List.append_assoc, sizeS_at (by dsimp only; omega) b]
  dsimp only
  rw [e]
  by_cases h4 : 40 < s
  · rw [if_pos h4, if_pos h4, pageS_at (by omega) b]
    rcases h with ⟨_, h1, _⟩ | ⟨_, _, h1, h2⟩
    · dsimp only at h1; omega
    · dsimp only at h1 h2 ⊢
      have : q = ⟨#[]⟩ := ba_eq (by rw [List.eq_nil_of_length_eq_zero (l := bytesOf q) (by rw [bytesOf_length]; exact h1)]; rfl)
      unfold IsPg at h2
      rw [this, show (p.toNat : Int) = p by omega]
  · rw [if_neg h4, if_neg h4]
    rcases h with ⟨_, _, h1, h2⟩ | ⟨h1, _⟩
    · dsimp only at h1 h2
      rw [partS_at (A := bytesOf q) (by rw [bytesOf_length]; omega) b, strOf_bytesOf, h2]
    · dsimp only at h1; omega
/-- One entry of a leaf. -/
theorem leaf_at {n : Nd} {i : Nat} {key : ByteArray} {c : Cel} (H : OkN n) (hl : n.leaf = true) (hk : n.keys[i]? = some key) (hc : n.cells[i]? = some c) (t : List UInt8) (b : Bool) :
    sizeS (strOf (entN n i ++ t), b) = (((key.size : Nat) : Int), (strOf (bytesOf key ++ (valN true c 0 ++ t)), b)) ∧ partS key.size (strOf (bytesOf key ++ (valN true c 0 ++ t)), b) = (key, (strOf (valN true c 0 ++ t), b)) ∧ cellS (strOf (valN true c 0 ++ t), b) = (c, (strOf t, b)) := by
  have hks := (H.rise.at hk).1
  refine ⟨?_, ?_, cellS_at ((H.lf hl).2.2 c (List.mem_of_getElem? hc)) 0 b⟩
  · unfold entN
    rw [List.getD_eq_getElem?_getD, hk, List.getD_eq_getElem?_getD, hc, hl]
    dsimp only [Option.getD_some]
    rw [List.append_assoc, List.append_assoc, sizeS_at (by omega) b]
    rfl
  · rw [partS_at (by rw [bytesOf_length]) b, strOf_bytesOf]
/-- One entry of an inner node. -/
theorem inner_at {n : Nd} {i : Nat} {key : ByteArray} {d : Int} (H : OkN n) (hl : n.leaf = false) (hk : n.keys[i]? = some key) (hd : n.kids[i + 1]? = some d) (t : List UInt8) (b : Bool) :
    sizeS (strOf (entN n i ++ t), b) = (((key.size : Nat) : Int), (strOf (bytesOf key ++ (fixedL d.toNat 4 ++ t)), b)) ∧ partS key.size (strOf (bytesOf key ++ (fixedL d.toNat 4 ++ t)), b) = (key, (strOf (fixedL d.toNat 4 ++ t), b)) ∧ pageS (strOf (fixedL d.toNat 4 ++ t), b) = (d, (strOf t, b)) := by
  have hks := (H.rise.at hk).1
  have hpg := (H.inn hl).2.2.2.2 d (List.mem_of_getElem? hd)
  unfold IsPg at hpg
  refine ⟨?_, ?_, ?_⟩
  · unfold entN valN
    rw [List.getD_eq_getElem?_getD, hk, List.getD_eq_getElem?_getD (l := n.kids), hd, hl]
    dsimp only [Option.getD_some]
    rw [List.append_assoc, List.append_assoc, sizeS_at (by omega) b, if_neg (by decide)]
  · rw [partS_at (by rw [bytesOf_length]) b, strOf_bytesOf]
  · rw [pageS_at (by omega) b, show (d.toNat : Int) = d by omega]
theorem PageOf.size {n : Nd} {s : ByteArray} (h : PageOf n s) : s.size = 232 := by rw [h.2.2, strOf_size, padL_length]
theorem hdr_pos (n : Nd) : encTo n 0 = (if n.leaf then 1 else 2) :: (fixedL n.keys.length 2 ++ if n.leaf then [] else fixedL (n.kids.getD 0 0).toNat 4) := rfl
theorem PageOf.bytes {n : Nd} {s : ByteArray} (h : PageOf n s) : bytesOf s = (if n.leaf then 1 else 2) :: (fixedL n.keys.length 2 ++ ((if n.leaf then [] else fixedL (n.kids.getD 0 0).toNat 4) ++ restL n 0)) := by
  rw [h.2.2, bytesOf_strOf, pad_split (i := 0) (Nat.zero_le _) h.2.1, hdr_pos, List.cons_append, List.append_assoc]
theorem PageOf.count {n : Nd} {s : ByteArray} (h : PageOf n s) : n.keys.length ≤ 232 := by
  have h1 := h.2.1
  have : ∀ i, i ≤ n.keys.length → i ≤ (encTo n i).length := by
    intro i
    induction i with
    | zero => intro _; exact Nat.zero_le _
    | succ i ih =>
      intro hi
      have h2 := ih (by omega)
      show i + 1 ≤ (encTo n i ++ entN n i).length
      have : 1 ≤ (entN n i).length := by unfold entN; rw [List.length_append, List.length_append]; have := (varL_length (n.keys.getD i ⟨#[]⟩).size).1; omega
      rw [List.length_append]; omega
  have := this n.keys.length (Nat.le_refl _)
  unfold encN at h1; omega
theorem PageOf.front {n : Nd} {s : ByteArray} (h : PageOf n s) : (bytesOf s).getD 0 0 = (if n.leaf then 1 else 2) ∧ unfixed (bytesOf (s.extract 1 3)) = (n.keys.length, 0) ∧ sfrom s 3 = strOf ((if n.leaf then [] else fixedL (n.kids.getD 0 0).toNat 4) ++ restL n 0) := by
  have hb := h.bytes
  have hc := h.count
  refine ⟨by rw [hb]; rfl, ?_, ba_eq ?_⟩
  · rw [bytesOf_extract, hb]
    have : ((((if n.leaf then (1 : UInt8) else 2) :: (fixedL n.keys.length 2 ++ ((if n.leaf then [] else fixedL (n.kids.getD 0 0).toNat 4) ++ restL n 0))).take 3).drop 1) = fixedL n.keys.length 2 := by
      rw [List.take_succ_cons, List.drop_succ_cons, List.drop_zero, List.take_append_of_le_length (by rw [fixedL_length]; decide), List.take_of_length_le (by rw [fixedL_length]; decide)]
    rw [this, unfixed_pos (by rw [fixedL_length]; decide) (by rw [fixedL_length]; decide), numOf_fixedL, Nat.mod_eq_of_lt (by simp; omega)]
  · rw [bytesOf_sfrom, hb, bytesOf_strOf, List.drop_succ_cons]
    rw [List.drop_append_of_le_length (by rw [fixedL_length]; decide), List.drop_of_length_le (by rw [fixedL_length]; decide), List.nil_append]
theorem list_ext_take {α : Type} {l k : List α} (hl : l.length = k.length) (h : ∀ i, i < l.length → l[i]? = k[i]?) : l = k := by
  refine List.ext_getElem? fun i => ?_
  rcases Nat.lt_or_ge i l.length with h1 | h1
  · exact h i h1
  · rw [List.getElem?_eq_none h1, List.getElem?_eq_none (by omega)]
/-- A page is of one node. -/
theorem PageOf.one {n m : Nd} {s : ByteArray} (h : PageOf n s) (h2 : PageOf m s) : n = m := by
  obtain ⟨f1, f2, f3⟩ := h.front
  obtain ⟨g1, g2, g3⟩ := h2.front
  have hlen : n.keys.length = m.keys.length := by rw [f2] at g2; exact congrArg Prod.fst g2
  have hleaf : n.leaf = m.leaf := by
    rw [f1] at g1
    cases e1 : n.leaf <;> cases e2 : m.leaf <;> rw [e1, e2] at g1 <;> first | rfl | (exfalso; revert g1; decide)
  have hst : (if n.leaf then [] else fixedL (n.kids.getD 0 0).toNat 4) ++ restL n 0 = (if m.leaf then [] else fixedL (m.kids.getD 0 0).toNat 4) ++ restL m 0 := by rw [f3] at g3; exact congrArg bytesOf g3
  cases hl : n.leaf with
  | true =>
    have hl2 : m.leaf = true := hleaf ▸ hl
    have hc1 := (h.1.lf hl).1
    have hc2 := (h2.1.lf hl2).1
    have key : ∀ i, i ≤ n.keys.length → restL n i = restL m i ∧ ∀ j, j < i → n.keys[j]? = m.keys[j]? ∧ n.cells[j]? = m.cells[j]? := by
      intro i
      induction i with
      | zero =>
        intro _
        rw [hl, hl2] at hst
        exact ⟨by simpa using hst, fun j hj => absurd hj (Nat.not_lt_zero _)⟩
      | succ i ih =>
        intro hi
        obtain ⟨r, hj⟩ := ih (by omega)
        obtain ⟨k1, hk1⟩ : ∃ k, n.keys[i]? = some k := ⟨_, List.getElem?_eq_getElem (by omega)⟩
        obtain ⟨c1, hq1⟩ : ∃ k, n.cells[i]? = some k := ⟨_, List.getElem?_eq_getElem (by omega)⟩
        obtain ⟨k2, hk2⟩ : ∃ k, m.keys[i]? = some k := ⟨_, List.getElem?_eq_getElem (by omega)⟩
        obtain ⟨c2, hq2⟩ : ∃ k, m.cells[i]? = some k := ⟨_, List.getElem?_eq_getElem (by omega)⟩
        rw [rest_step (by omega) h.2.1, rest_step (by omega) h2.2.1] at r
        obtain ⟨a1, a2, a3⟩ := leaf_at h.1 hl hk1 hq1 (restL n (i + 1)) false
        obtain ⟨b1, b2, b3⟩ := leaf_at h2.1 hl2 hk2 hq2 (restL m (i + 1)) false
        rw [r, b1] at a1
        have e1 : k2.size = k1.size := Int.ofNat.inj (congrArg Prod.fst a1)
        have e2 := congrArg (fun x => x.2.1) a1
        dsimp only at e2
        rw [← e2, ← e1, b2] at a2
        have e3 : k2 = k1 := congrArg Prod.fst a2
        have e4 := congrArg (fun x => x.2.1) a2
        dsimp only at e4
        rw [← e4, b3] at a3
        have e5 : c2 = c1 := congrArg Prod.fst a3
        have e6 := congrArg (fun x => x.2.1) a3
        dsimp only at e6
        refine ⟨(congrArg bytesOf e6).symm, fun j hj2 => ?_⟩
        rcases Nat.lt_succ_iff_lt_or_eq.1 hj2 with h3 | rfl
        · exact hj j h3
        · rw [hk1, hk2, hq1, hq2, e3, e5]; exact ⟨rfl, rfl⟩
    obtain ⟨_, hall⟩ := key n.keys.length (Nat.le_refl _)
    have e1 : n.keys = m.keys := list_ext_take hlen fun i hi => (hall i hi).1
    have e2 : n.cells = m.cells := list_ext_take (by omega) fun i hi => (hall i (by omega)).2
    have e3 : n.kids = m.kids := by rw [List.eq_nil_of_length_eq_zero (h.1.lf hl).2.1, List.eq_nil_of_length_eq_zero (h2.1.lf hl2).2.1]
    cases n; cases m; dsimp only at *; subst e1 e2 e3 hleaf; rfl
  | false =>
    have hl2 : m.leaf = false := hleaf ▸ hl
    have hc1 := (h.1.inn hl).2.1
    have hc2 := (h2.1.inn hl2).2.1
    have key : ∀ i, i ≤ n.keys.length → restL n i = restL m i ∧ n.kids[0]? = m.kids[0]? ∧ ∀ j, j < i → n.keys[j]? = m.keys[j]? ∧ n.kids[j + 1]? = m.kids[j + 1]? := by
      intro i
      induction i with
      | zero =>
        intro _
        rw [hl, hl2, if_neg (by decide), if_neg (by decide)] at hst
        obtain ⟨d1, hd1⟩ : ∃ k, n.kids[0]? = some k := ⟨_, List.getElem?_eq_getElem (by omega)⟩
        obtain ⟨d2, hd2⟩ : ∃ k, m.kids[0]? = some k := ⟨_, List.getElem?_eq_getElem (by omega)⟩
        have p1 := (h.1.inn hl).2.2.2.2 d1 (List.mem_of_getElem? hd1)
        have p2 := (h2.1.inn hl2).2.2.2.2 d2 (List.mem_of_getElem? hd2)
        unfold IsPg at p1 p2
        rw [List.getD_eq_getElem?_getD, hd1, List.getD_eq_getElem?_getD, hd2] at hst
        dsimp only [Option.getD_some] at hst
        have q1 := pageS_at (t := restL n 0) (k := d1.toNat) (by omega) false
        have q2 := pageS_at (t := restL m 0) (k := d2.toNat) (by omega) false
        rw [hst, q2] at q1
        have e1 : ((d2.toNat : Nat) : Int) = (d1.toNat : Nat) := congrArg Prod.fst q1
        have e2 := congrArg (fun x => x.2.1) q1
        dsimp only at e2
        refine ⟨(congrArg bytesOf e2).symm, by rw [hd1, hd2, show d1 = d2 by omega], fun j hj => absurd hj (Nat.not_lt_zero _)⟩
      | succ i ih =>
        intro hi
        obtain ⟨r, hz, hj⟩ := ih (by omega)
        obtain ⟨k1, hk1⟩ : ∃ k, n.keys[i]? = some k := ⟨_, List.getElem?_eq_getElem (by omega)⟩
        obtain ⟨c1, hq1⟩ : ∃ k, n.kids[i + 1]? = some k := ⟨_, List.getElem?_eq_getElem (by omega)⟩
        obtain ⟨k2, hk2⟩ : ∃ k, m.keys[i]? = some k := ⟨_, List.getElem?_eq_getElem (by omega)⟩
        obtain ⟨c2, hq2⟩ : ∃ k, m.kids[i + 1]? = some k := ⟨_, List.getElem?_eq_getElem (by omega)⟩
        rw [rest_step (by omega) h.2.1, rest_step (by omega) h2.2.1] at r
        obtain ⟨a1, a2, a3⟩ := inner_at h.1 hl hk1 hq1 (restL n (i + 1)) false
        obtain ⟨b1, b2, b3⟩ := inner_at h2.1 hl2 hk2 hq2 (restL m (i + 1)) false
        rw [r, b1] at a1
        have e1 : k2.size = k1.size := Int.ofNat.inj (congrArg Prod.fst a1)
        have e2 := congrArg (fun x => x.2.1) a1
        dsimp only at e2
        rw [← e2, ← e1, b2] at a2
        have e3 : k2 = k1 := congrArg Prod.fst a2
        have e4 := congrArg (fun x => x.2.1) a2
        dsimp only at e4
        rw [← e4, b3] at a3
        have e5 : c2 = c1 := congrArg Prod.fst a3
        have e6 := congrArg (fun x => x.2.1) a3
        dsimp only at e6
        refine ⟨(congrArg bytesOf e6).symm, hz, fun j hj2 => ?_⟩
        rcases Nat.lt_succ_iff_lt_or_eq.1 hj2 with h3 | rfl
        · exact hj j h3
        · rw [hk1, hk2, hq1, hq2, e3, e5]; exact ⟨rfl, rfl⟩
    obtain ⟨_, hz, hall⟩ := key n.keys.length (Nat.le_refl _)
    have e1 : n.keys = m.keys := list_ext_take hlen fun i hi => (hall i hi).1
    have e2 : n.kids = m.kids := list_ext_take (by omega) fun i hi => by
      cases i with
      | zero => exact hz
      | succ i => exact (hall i (by omega)).2
    have e3 : n.cells = m.cells := by rw [List.eq_nil_of_length_eq_zero (h.1.inn hl).2.2.1, List.eq_nil_of_length_eq_zero (h2.1.inn hl2).2.2.1]
    cases n; cases m; dsimp only at *; subst e1 e2 e3 hleaf; rfl
/-- What Decode tells. -/
abbrev emptyN : Nd := ⟨false, [], [], []⟩
def DecIs (s : ByteArray) (z : Nd × Int) : Prop := (s.size ≠ 232 ∧ z = (emptyN, 1)) ∨ (PageOf z.1 s ∧ z.2 = 0) ∨ (s.size = 232 ∧ (∀ n, ¬ PageOf n s) ∧ z = (emptyN, 4))
theorem DecIs.one {s : ByteArray} {a b : Nd × Int} (h : DecIs s a) (h2 : DecIs s b) : a = b := by
  obtain ⟨n, e⟩ := a
  obtain ⟨m, f⟩ := b
  rcases h with ⟨x, h⟩ | ⟨x, h⟩ | ⟨x, y, h⟩ <;> rcases h2 with ⟨x2, g⟩ | ⟨x2, g⟩ | ⟨x2, y2, g⟩
  · rw [h, g]
  · exact absurd x2.size x
  · exact absurd x2 x
  · exact absurd x.size x2
  · dsimp only at *; subst h g; rw [x.one x2]
  · exact absurd x (y2 _)
  · exact absurd x x2
  · exact absurd x2 (y _)
  · rw [h, g]
end Go.Proofs.Ytfjpinifmengcaa
