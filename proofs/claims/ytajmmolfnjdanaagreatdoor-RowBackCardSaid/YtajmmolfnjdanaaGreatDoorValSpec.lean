/- Values: what is one, and their order; how keys and texts of values are read and written. No program in sight. -/
import Derived.Test.YtajmmolfnjdanaaGreatDoorEngV
import Derived.Sort.Walk0
import Derived.Test.YtajmmolfnjdanaaGreatDoorNumPure
import Derived.Lib.Strings
namespace Go.Proofs.YtajmmolfnjdanaaGreatDoor
abbrev Vl := Int × Int × ByteArray
def OkV (v : Vl) : Prop := (v.1 = 0 ∧ v.2.1 = 0 ∧ v.2.2.size = 0) ∨ (v.1 = 1 ∧ v.2.2.size = 0) ∨ ((v.1 = 2 ∨ v.1 = 3) ∧ v.2.1 = 0 ∧ v.2.2.size ≤ 2000)
def cmpI (a b : Int) : Int := if a < b then -1 else if a = b then 0 else 1
def cmpS (a b : ByteArray) : Int := if strLt a b = true then -1 else if strEq a b = true then 0 else 1
def orI (x y : Int) : Int := if x = 0 then y else x
def cmpV (a b : Vl) : Int := orI (cmpI a.1 b.1) (orI (cmpI a.2.1 b.2.1) (cmpS a.2.2 b.2.2))
structure Ord3 {α : Type} (c : α → α → Int) : Prop where
  anti : ∀ a b, c b a = - c a b
  eq : ∀ a b, c a b = 0 ↔ a = b
  rng : ∀ a b, c a b = -1 ∨ c a b = 0 ∨ c a b = 1
  tr : ∀ a b d, c a b ≤ 0 → c b d ≤ 0 → c a d ≤ 0 ∧ (c a d < 0 ↔ c a b < 0 ∨ c b d < 0)
theorem ord_int : Ord3 cmpI := by
  constructor
  · intro a b; unfold cmpI; repeat' split
    all_goals omega
  · intro a b; unfold cmpI; repeat' split
    all_goals omega
  · intro a b; unfold cmpI; repeat' split
    all_goals omega
  · intro a b d; unfold cmpI; repeat' split
    all_goals omega
theorem strLt_lt (a b : ByteArray) : strLt a b = true ↔ bytesOf a < bytesOf b := by unfold strLt; rw [bytesLess_eq, decide_eq_true_eq]
theorem strEq_eq (a b : ByteArray) : strEq a b = true ↔ a = b := by unfold strEq; rw [decide_eq_true_eq, bytesOf_inj]
theorem list_tri : ∀ (l m : List UInt8), l < m ∨ l = m ∨ m < l
  | [], [] => .inr (.inl rfl)
  | [], b :: m => .inl (List.nil_lt_cons _ _)
  | a :: l, [] => .inr (.inr (List.nil_lt_cons _ _))
  | a :: l, b :: m => by
    rw [List.cons_lt_cons_iff, List.cons_lt_cons_iff]
    have h : a < b ∨ a = b ∨ b < a := by
      rcases Nat.lt_trichotomy a.toNat b.toNat with h | h | h
      · exact .inl (UInt8.lt_iff_toNat_lt.2 h)
      · exact .inr (.inl (UInt8.toNat_inj.1 h))
      · exact .inr (.inr (UInt8.lt_iff_toNat_lt.2 h))
    rcases h with h | rfl | h
    · exact .inl (.inl h)
    · rcases list_tri l m with h | rfl | h
      · exact .inl (.inr ⟨rfl, h⟩)
      · exact .inr (.inl rfl)
      · exact .inr (.inr (.inr ⟨rfl, h⟩))
    · exact .inr (.inr (.inl h))
theorem str_tri (a b : ByteArray) : (strLt a b = true ∧ a ≠ b ∧ ¬ strLt b a = true) ∨ (¬ strLt a b = true ∧ a = b ∧ ¬ strLt b a = true) ∨ (¬ strLt a b = true ∧ a ≠ b ∧ strLt b a = true) := by
  rw [strLt_lt, strLt_lt, ne_eq, ← bytesOf_inj]
  have irr : ∀ l : List UInt8, ¬ l < l := fun l => List.lt_irrefl l
  have asy : ∀ {l m : List UInt8}, l < m → ¬ m < l := fun h h' => irr _ (List.lt_trans h h')
  rcases list_tri (bytesOf a) (bytesOf b) with h | h | h
  · exact .inl ⟨h, fun e => irr _ (by rw [e] at h; exact h), asy h⟩
  · exact .inr (.inl ⟨by rw [h]; exact irr _, h, by rw [h]; exact irr _⟩)
  · exact .inr (.inr ⟨asy h, fun e => irr _ (by rw [e] at h; exact h), h⟩)
theorem cmpS_lt {a b : ByteArray} : cmpS a b = -1 ↔ strLt a b = true := by
  unfold cmpS; split
  · exact iff_of_true rfl ‹_›
  · split
    · exact iff_of_false (by decide) ‹_›
    · exact iff_of_false (by decide) ‹_›
theorem ord_str : Ord3 cmpS := by
  have e : ∀ a b, (a = b ∧ cmpS a b = 0) ∨ (a ≠ b ∧ strLt a b = true ∧ cmpS a b = -1) ∨ (a ≠ b ∧ strLt b a = true ∧ cmpS a b = 1) := by
    intro a b
    rcases str_tri a b with ⟨h1, h2, h3⟩ | ⟨h1, h2, h3⟩ | ⟨h1, h2, h3⟩
    · exact .inr (.inl ⟨h2, h1, cmpS_lt.2 h1⟩)
    · exact .inl ⟨h2, by unfold cmpS; rw [if_neg h1, if_pos ((strEq_eq a b).2 h2)]⟩
    · exact .inr (.inr ⟨h2, h3, by unfold cmpS; rw [if_neg h1, if_neg (fun x => h2 ((strEq_eq a b).1 x))]⟩)
  have no : ∀ {a b : ByteArray}, strLt a b = true → strLt b a = true → False := fun {a b} h h' => by
    rcases str_tri a b with ⟨_, _, x⟩ | ⟨x, _⟩ | ⟨x, _⟩
    · exact x h'
    · exact x h
    · exact x h
  constructor
  · intro a b
    rcases e a b with ⟨h, x⟩ | ⟨h, l, x⟩ | ⟨h, l, x⟩ <;> rcases e b a with ⟨k, y⟩ | ⟨k, m, y⟩ | ⟨k, m, y⟩ <;> first | omega | exact absurd h.symm k | exact absurd k.symm h | exact (no l m).elim
  · intro a b
    rcases e a b with ⟨h, x⟩ | ⟨h, l, x⟩ | ⟨h, l, x⟩
    · exact iff_of_true x h
    · exact iff_of_false (by omega) h
    · exact iff_of_false (by omega) h
  · intro a b
    rcases e a b with ⟨h, x⟩ | ⟨h, l, x⟩ | ⟨h, l, x⟩ <;> omega
  · intro a b d h1 h2
    rcases e a b with ⟨h, x⟩ | ⟨h, l, x⟩ | ⟨h, l, x⟩
    · subst h; omega
    · rcases e b d with ⟨k, y⟩ | ⟨k, m, y⟩ | ⟨k, m, y⟩
      · subst k; omega
      · have : strLt a d = true := by rw [strLt_lt] at *; exact List.lt_trans l m
        have := cmpS_lt.2 this
        omega
      · omega
    · omega
theorem ord_lex {α β : Type} {c : α → α → Int} {d : β → β → Int} (C : Ord3 c) (D : Ord3 d) : Ord3 (fun p q : α × β => orI (c p.1 q.1) (d p.2 q.2)) := by
  constructor
  · rintro ⟨a, a'⟩ ⟨b, b'⟩
    have := C.anti a b; have := D.anti a' b'
    dsimp only; unfold orI; repeat' split
    all_goals omega
  · rintro ⟨a, a'⟩ ⟨b, b'⟩
    have e1 := C.eq a b; have e2 := D.eq a' b'
    dsimp only; unfold orI; split
    · rename_i h
      rw [e2, Prod.mk.injEq]
      exact ⟨fun x => ⟨e1.1 h, x⟩, fun x => x.2⟩
    · rename_i h
      exact iff_of_false h (fun x => h (e1.2 (Prod.mk.inj x).1))
  · rintro ⟨a, a'⟩ ⟨b, b'⟩
    have := C.rng a b; have := D.rng a' b'
    dsimp only; unfold orI; repeat' split
    all_goals omega
  · rintro ⟨a, a'⟩ ⟨b, b'⟩ ⟨f, f'⟩
    have t1 := C.tr a b f; have t2 := D.tr a' b' f'
    have e1 := C.eq a b; have e2 := C.eq b f; have e3 := C.eq a f
    dsimp only; unfold orI
    intro h1 h2
    by_cases x : c a b = 0
    · have := e1.1 x; subst this
      rw [if_pos x] at h1
      by_cases y : c a f = 0
      · rw [if_pos y] at h2
        rw [if_pos x, if_pos y, if_pos y]; exact t2 h1 h2
      · rw [if_neg y] at h2
        rw [if_pos x, if_neg y, if_neg y]
        have := C.rng a f
        exact ⟨h2, iff_of_true (by omega) (.inr (by omega))⟩
    · rw [if_neg x] at h1
      have r1 := C.rng a b
      by_cases y : c b f = 0
      · have := e2.1 y; subst this
        rw [if_neg x, if_neg x]
        exact ⟨h1, iff_of_true (by omega) (.inl (by omega))⟩
      · rw [if_neg y] at h2
        have r2 := C.rng b f
        have z := t1 h1 h2
        have zn : c a f < 0 := z.2.2 (.inl (by omega))
        rw [if_neg x, if_neg y, if_neg (by omega)]
        exact ⟨by omega, iff_of_true zn (.inl (by omega))⟩
theorem ord_val : Ord3 cmpV := ord_lex ord_int (ord_lex ord_int ord_str)
end Go.Proofs.YtajmmolfnjdanaaGreatDoor
namespace Go.Proofs.YtajmmolfnjdanaaGreatDoor
abbrev iv (n : Int) : Value := .int .i64 n
abbrev ptr (i : Nat) : Value := .pointer (some ⟨i, 0, none⟩)
/-- What is read: bytes, how many, an error. -/
structure UR where
  d : List UInt8
  n : Nat
  e : Int
def UR.bad (e : Int) : UR := ⟨[], 0, e⟩
def UR.pre (d : List UInt8) (k : Nat) (z : UR) : UR := if z.e = 0 then ⟨d ++ z.d, k + z.n, 0⟩ else z
theorem UR.pre_nil (z : UR) : z.pre [] 0 = z := by
  unfold UR.pre; split
  · rename_i h; obtain ⟨d, n, e⟩ := z; dsimp only at h ⊢; rw [h, Nat.zero_add]; rfl
  · rfl
theorem UR.pre_pre (d d' : List UInt8) (k k' : Nat) (z : UR) : (z.pre d' k').pre d k = z.pre (d ++ d') (k + k') := by
  by_cases h : z.e = 0
  · unfold UR.pre; rw [if_pos h]; simp [h, Nat.add_assoc]
  · unfold UR.pre; rw [if_neg h, if_neg h, if_neg h]
theorem UR.pre_bad (d : List UInt8) (k : Nat) {e : Int} (h : e ≠ 0) : (UR.bad e).pre d k = .bad e := by unfold UR.pre UR.bad; rw [if_neg h]
theorem UR.pre_ok (d d' : List UInt8) (k k' : Nat) : (⟨d', k', 0⟩ : UR).pre d k = ⟨d ++ d', k + k', 0⟩ := rfl
def unesc : Nat → List UInt8 → UR
  | _, [] => .bad 3
  | k, a :: r =>
    if a = 0 then
      match r with
      | [] => .bad 3
      | b :: t => if b = 1 then ⟨[], 2, 0⟩ else if b = 255 then (if k = 2000 then .bad 4 else (unesc (k + 1) t).pre [0] 2) else .bad 4
    else if k = 2000 then .bad 4 else (unesc (k + 1) r).pre [a] 1
theorem unesc_ne {k : Nat} {a : UInt8} {r : List UInt8} (h : a ≠ 0) : unesc k (a :: r) = if k = 2000 then .bad 4 else (unesc (k + 1) r).pre [a] 1 := by
  rw [unesc.eq_def]; dsimp only; rw [if_neg h]
theorem pre2 {l : List UInt8} {a b : UInt8} : Lib.hasPrefix l [a, b] = true ↔ ∃ t, l = a :: b :: t := by
  unfold Lib.hasPrefix
  match l with
  | [] => exact iff_of_false (by simp [List.isPrefixOf]) (by rintro ⟨t, h⟩; cases h)
  | [x] => exact iff_of_false (by simp [List.isPrefixOf]) (by rintro ⟨t, h⟩; cases h)
  | x :: y :: t =>
    simp only [List.isPrefixOf, Bool.and_eq_true, beq_iff_eq, and_true]
    constructor
    · rintro ⟨rfl, rfl⟩; exact ⟨t, rfl⟩
    · rintro ⟨t', h⟩; injection h with h1 h2; injection h2 with h2 h3; exact ⟨h1.symm, h2.symm⟩
theorem pre1 {l : List UInt8} {a : UInt8} : Lib.hasPrefix l [a] = true ↔ ∃ t, l = a :: t := by
  unfold Lib.hasPrefix
  match l with
  | [] => exact iff_of_false (by simp [List.isPrefixOf]) (by rintro ⟨t, h⟩; cases h)
  | x :: t =>
    simp only [List.isPrefixOf, Bool.and_eq_true, beq_iff_eq, and_true]
    constructor
    · rintro rfl; exact ⟨t, rfl⟩
    · rintro ⟨t', h⟩; injection h with h1 h2; exact h1.symm
theorem drop_getD {l : List UInt8} {i : Nat} (h : i < l.length) : l.drop i = l.getD i 0 :: l.drop (i + 1) := by
  rw [List.drop_eq_getElem_cons h, List.getD_eq_getElem?_getD, List.getElem?_eq_getElem h]; rfl
section
variable {l d : List UInt8} {i : Nat}
theorem un_end (hk : unesc 0 l = (unesc d.length (l.drop i)).pre d i) (hp : Lib.hasPrefix (l.drop i) [0, 1] = true) : unesc 0 l = ⟨d, i + 2, 0⟩ := by
  obtain ⟨t, ht⟩ := pre2.1 hp
  rw [hk, ht]; simp [unesc, UR.pre]
theorem un_short (hk : unesc 0 l = (unesc d.length (l.drop i)).pre d i) (hp : l.drop i = [0]) : unesc 0 l = .bad 3 := by
  rw [hk, hp]; simp [unesc, UR.pre_bad]
theorem un_esc (hk : unesc 0 l = (unesc d.length (l.drop i)).pre d i) (hp : Lib.hasPrefix (l.drop i) [0, 255] = true) :
    l.getD i 0 = 0 ∧ l.getD (i + 1) 0 = 255 ∧ i + 2 ≤ l.length ∧ (d.length = 2000 → unesc 0 l = .bad 4) ∧ (d.length ≠ 2000 → unesc 0 l = (unesc (d ++ [0]).length (l.drop (i + 2))).pre (d ++ [0]) (i + 2)) := by
  obtain ⟨t, ht⟩ := pre2.1 hp
  have hl : i + 2 ≤ l.length := by have := congrArg List.length ht; simp at this; omega
  have e1 := drop_getD (l := l) (i := i) (by omega)
  have e2 := drop_getD (l := l) (i := i + 1) (by omega)
  rw [e1] at ht
  injection ht with h1 h2
  rw [e2] at h2
  injection h2 with h2 h3
  refine ⟨h1, h2, hl, fun hd => ?_, fun hd => ?_⟩
  · rw [hk, e1, e2, h1, h2]; simp [unesc, hd, UR.pre_bad]
  · rw [hk, e1, e2, h1, h2]
    have : unesc d.length (0 :: 255 :: l.drop (i + 1 + 1)) = (unesc (d.length + 1) (l.drop (i + 2))).pre [0] 2 := by simp [unesc, hd]
    rw [this, UR.pre_pre, List.length_append]; rfl
theorem un_form (hk : unesc 0 l = (unesc d.length (l.drop i)).pre d i) (h1 : Lib.hasPrefix (l.drop i) [0, 1] = false) (h2 : l.drop i ≠ [0]) (h3 : Lib.hasPrefix (l.drop i) [0, 255] = false) (hi : i < l.length) (h4 : l.getD i 0 = 0) : unesc 0 l = .bad 4 := by
  have e1 := drop_getD hi
  rw [h4] at e1
  rw [hk]
  rw [e1] at h1 h2 h3 ⊢
  cases ht : l.drop (i + 1) with
  | nil => rw [ht] at h2; exact absurd rfl h2
  | cons b t =>
    rw [ht] at h1 h3
    have n1 : b ≠ 1 := fun e => by rw [e, pre2.2 ⟨t, rfl⟩] at h1; cases h1
    have n2 : b ≠ 255 := fun e => by rw [e, pre2.2 ⟨t, rfl⟩] at h3; cases h3
    simp [unesc, n1, n2, UR.pre_bad]
theorem un_byte (hk : unesc 0 l = (unesc d.length (l.drop i)).pre d i) (hi : i < l.length) (h4 : l.getD i 0 ≠ 0) :
    (d.length = 2000 → unesc 0 l = .bad 4) ∧ (d.length ≠ 2000 → unesc 0 l = (unesc (d ++ [l.getD i 0]).length (l.drop (i + 1))).pre (d ++ [l.getD i 0]) (i + 1)) := by
  have e1 := drop_getD hi
  refine ⟨fun hd => ?_, fun hd => ?_⟩
  · rw [hk, e1, unesc_ne h4, if_pos hd]; exact UR.pre_bad _ _ (by decide)
  · have : unesc d.length (l.getD i 0 :: l.drop (i + 1)) = (unesc (d.length + 1) (l.drop (i + 1))).pre [l.getD i 0] 1 := by rw [unesc_ne h4, if_neg hd]
    rw [hk, e1, this, UR.pre_pre, List.length_append]; rfl
theorem un_none (hk : unesc 0 l = (unesc d.length (l.drop i)).pre d i) (hi : l.length ≤ i) : unesc 0 l = .bad 3 := by
  rw [hk, List.drop_of_length_le hi]; exact UR.pre_bad _ _ (by decide)
end
/-- What a key is read as: kind, number, bytes, how many, an error. -/
structure KR where
  k : Int
  n : Int
  d : List UInt8
  m : Nat
  e : Int
def KR.bad (e : Int) : KR := ⟨0, 0, [], 0, e⟩
def unkey (l : List UInt8) : KR :=
  match l with
  | [] => .bad 3
  | a :: r =>
    if a = 0 then ⟨0, 0, [], 1, 0⟩
    else if a = 1 then (if l.length < 9 then .bad 3 else ⟨1, (numOf ((l.take 9).drop 1) : Nat) - 9223372036854775808, [], 9, 0⟩)
    else if a = 2 ∨ a = 3 then (if (unesc 0 r).e = 0 then ⟨(a.toNat : Nat), 0, (unesc 0 r).d, (unesc 0 r).n + 1, 0⟩ else .bad (unesc 0 r).e)
    else .bad 4
def oddB (c : UInt8) : Bool := decide (c.toNat < 32) || decide (126 < c.toNat) || decide (c.toNat = 92)
def hexL : List UInt8 := [48, 49, 50, 51, 52, 53, 54, 55, 56, 57, 97, 98, 99, 100, 101, 102]
def escB (c : UInt8) : List UInt8 := if oddB c = true then [92, hexL.getD (c.toNat / 16) 0, hexL.getD (c.toNat % 16) 0] else if c = 39 then [39, 39] else [c]
def quoteL (l : List UInt8) : List UInt8 := [39] ++ l.flatMap escB ++ [39]
end Go.Proofs.YtajmmolfnjdanaaGreatDoor
