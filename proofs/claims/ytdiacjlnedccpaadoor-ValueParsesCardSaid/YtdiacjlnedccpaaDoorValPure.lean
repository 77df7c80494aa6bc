/- Values: what is one, and their order. No program in sight. -/
import Derived.Test.YtdiacjlnedccpaaDoorEngV
import Derived.Sort.Walk0
namespace Go.Proofs.YtdiacjlnedccpaaDoor
abbrev Vl := Int × Int × ByteArray
def OkV (v : Vl) : Prop := (v.1 = 0 ∧ v.2.1 = 0 ∧ v.2.2.size = 0) ∨ (v.1 = 1 ∧ v.2.2.size = 0) ∨ ((v.1 = 2 ∨ v.1 = 3) ∧ v.2.1 = 0 ∧ v.2.2.size ≤ 2000)
def cmpI (a b : Int) : Int := if a < b then -1 else if a = b then 0 else 1
def cmpS (a b : ByteArray) : Int := if strLt a b = true then -1 else if strEq a b = true then 0 else 1
def orI (x y : Int) : Int := if x = 0 then y else x
def cmpV (a b : Vl) : Int := orI (cmpI a.1 b.1) (orI (cmpI a.2.1 b.2.1) (cmpS a.2.2 b.2.2))
structure Ord3 {α : Type} (c : α → α → Int) : Prop where
  anti : ∀ a b, c b a = - c a b
  eq : ∀ a b, c a b = 0 ↔ a = b
  rng : ∀ a b, c a b = -1 ∨ c a b = 0 ∨ c a b = 1
  tr : ∀ a b d, c a b ≤ 0 → c b d ≤ 0 → c a d ≤ 0 ∧ (c a d < 0 ↔ c a b < 0 ∨ c b d < 0)
theorem ord_int : Ord3 cmpI := by
  constructor
  · intro a b; unfold cmpI; repeat' split
    all_goals omega
  · intro a b; unfold cmpI; repeat' split
    all_goals omega
  · intro a b; unfold cmpI; repeat' split
    all_goals omega
  · intro a b d; unfold cmpI; repeat' split
    all_goals omega
theorem strLt_lt (a b : ByteArray) : strLt a b = true ↔ bytesOf a < bytesOf b := by unfold strLt; rw [bytesLess_eq, decide_eq_true_eq]
theorem strEq_eq (a b : ByteArray) : strEq a b = true ↔ a = b := by unfold strEq; rw [decide_eq_true_eq, bytesOf_inj]
theorem list_tri : ∀ (l m : List UInt8), l < m ∨ l = m ∨ m < l
  | [], [] => .inr (.inl rfl)
  | [], b :: m => .inl (List.nil_lt_cons _ _)
  | a :: l, [] => .inr (.inr (List.nil_lt_cons _ _))
  | a :: l, b :: m => by
    rw [List.cons_lt_cons_iff, List.cons_lt_cons_iff]
    have h : a < b ∨ a = b ∨ b < a := by
      rcases Nat.lt_trichotomy a.toNat b.toNat with h | h | h
      · exact .inl (UInt8.lt_iff_toNat_lt.2 h)
      · exact .inr (.inl (UInt8.toNat_inj.1 h))
      · exact .inr (.inr (UInt8.lt_iff_toNat_lt.2 h))
    rcases h with h | rfl | h
    · exact .inl (.inl h)
    · rcases list_tri l m with h | rfl | h
      · exact .inl (.inr ⟨rfl, h⟩)
      · exact .inr (.inl rfl)
      · exact .inr (.inr (.inr ⟨rfl, h⟩))
    · exact .inr (.inr (.inl h))
theorem str_tri (a b : ByteArray) : (strLt a b = true ∧ a ≠ b ∧ ¬ strLt b a = true) ∨ (¬ strLt a b = true ∧ a = b ∧ ¬ strLt b a = true) ∨ (¬ strLt a b = true ∧ a ≠ b ∧ strLt b a = true) := by
  rw [strLt_lt, strLt_lt, ne_eq, ← bytesOf_inj]
  have irr : ∀ l : List UInt8, ¬ l < l := fun l => List.lt_irrefl l
  have asy : ∀ {l m : List UInt8}, l < m → ¬ m < l := fun h h' => irr _ (List.lt_trans h h')
  rcases list_tri (bytesOf a) (bytesOf b) with h | h | h
  · exact .inl ⟨h, fun e => irr _ (by rw [e] at h; exact h), asy h⟩
  · exact .inr (.inl ⟨by rw [h]; exact irr _, h, by rw [h]; exact irr _⟩)
  · exact .inr (.inr ⟨asy h, fun e => irr _ (by rw [e] at h; exact h), h⟩)
theorem cmpS_lt {a b : ByteArray} : cmpS a b = -1 ↔ strLt a b = true := by
  unfold cmpS; split
  · exact iff_of_true rfl ‹_›
  · split
    · exact iff_of_false (by decide) ‹_›
    · exact iff_of_false (by decide) ‹_›
theorem ord_str : Ord3 cmpS := by
  have e : ∀ a b, (a = b ∧ cmpS a b = 0) ∨ (a ≠ b ∧ strLt a b = true ∧ cmpS a b = -1) ∨ (a ≠ b ∧ strLt b a = true ∧ cmpS a b = 1) := by
    intro a b
    rcases str_tri a b with ⟨h1, h2, h3⟩ | ⟨h1, h2, h3⟩ | ⟨h1, h2, h3⟩
    · exact .inr (.inl ⟨h2, h1, cmpS_lt.2 h1⟩)
    · exact .inl ⟨h2, by unfold cmpS; rw [if_neg h1, if_pos ((strEq_eq a b).2 h2)]⟩
    · exact .inr (.inr ⟨h2, h3, by unfold cmpS; rw [if_neg h1, if_neg (fun x => h2 ((strEq_eq a b).1 x))]⟩)
  have no : ∀ {a b : ByteArray}, strLt a b = true → strLt b a = true → False := fun {a b} h h' => by
    rcases str_tri a b with ⟨_, _, x⟩ | ⟨x, _⟩ | ⟨x, _⟩
    · exact x h'
    · exact x h
    · exact x h
  constructor
  · intro a b
    rcases e a b with ⟨h, x⟩ | ⟨h, l, x⟩ | ⟨h, l, x⟩ <;> rcases e b a with ⟨k, y⟩ | ⟨k, m, y⟩ | ⟨k, m, y⟩ <;> first | omega | exact absurd h.symm k | exact absurd k.symm h | exact (no l m).elim
  · intro a b
    rcases e a b with ⟨h, x⟩ | ⟨h, l, x⟩ | ⟨h, l, x⟩
    · exact iff_of_true x h
    · exact iff_of_false (by omega) h
    · exact iff_of_false (by omega) h
  · intro a b
    rcases e a b with ⟨h, x⟩ | ⟨h, l, x⟩ | ⟨h, l, x⟩ <;> omega
  · intro a b d h1 h2
    rcases e a b with ⟨h, x⟩ | ⟨h, l, x⟩ | ⟨h, l, x⟩
    · subst h; omega
    · rcases e b d with ⟨k, y⟩ | ⟨k, m, y⟩ | ⟨k, m, y⟩
      · subst k; omega
      · have : strLt a d = true := by rw [strLt_lt] at *; exact List.lt_trans l m
        have := cmpS_lt.2 this
        omega
      · omega
    · omega
theorem ord_lex {α β : Type} {c : α → α → Int} {d : β → β → Int} (C : Ord3 c) (D : Ord3 d) : Ord3 (fun p q : α × β => orI (c p.1 q.1) (d p.2 q.2)) := by
  constructor
  · rintro ⟨a, a'⟩ ⟨b, b'⟩
    have := C.anti a b; have := D.anti a' b'
    dsimp only; unfold orI; repeat' split
    all_goals omega
  · rintro ⟨a, a'⟩ ⟨b, b'⟩
    have e1 := C.eq a b; have e2 := D.eq a' b'
    dsimp only; unfold orI; split
    · rename_i h
      rw [e2, Prod.mk.injEq]
      exact ⟨fun x => ⟨e1.1 h, x⟩, fun x => x.2⟩
    · rename_i h
      exact iff_of_false h (fun x => h (e1.2 (Prod.mk.inj x).1))
  · rintro ⟨a, a'⟩ ⟨b, b'⟩
    have := C.rng a b; have := D.rng a' b'
    dsimp only; unfold orI; repeat' split
    all_goals omega
  · rintro ⟨a, a'⟩ ⟨b, b'⟩ ⟨f, f'⟩
    have t1 := C.tr a b f; have t2 := D.tr a' b' f'
    have e1 := C.eq a b; have e2 := C.eq b f; have e3 := C.eq a f
    dsimp only; unfold orI
    intro h1 h2
    by_cases x : c a b = 0
    · have := e1.1 x; subst this
      rw [if_pos x] at h1
      by_cases y : c a f = 0
      · rw [if_pos y] at h2
        rw [if_pos x, if_pos y, if_pos y]; exact t2 h1 h2
      · rw [if_neg y] at h2
        rw [if_pos x, if_neg y, if_neg y]
        have := C.rng a f
        exact ⟨h2, iff_of_true (by omega) (.inr (by omega))⟩
    · rw [if_neg x] at h1
      have r1 := C.rng a b
      by_cases y : c b f = 0
      · have := e2.1 y; subst this
        rw [if_neg x, if_neg x]
        exact ⟨h1, iff_of_true (by omega) (.inl (by omega))⟩
      · rw [if_neg y] at h2
        have r2 := C.rng b f
        have z := t1 h1 h2
        have zn : c a f < 0 := z.2.2 (.inl (by omega))
        rw [if_neg x, if_neg y, if_neg (by omega)]
        exact ⟨by omega, iff_of_true zn (.inl (by omega))⟩
theorem ord_val : Ord3 cmpV := ord_lex ord_int (ord_lex ord_int ord_str)
end Go.Proofs.YtdiacjlnedccpaaDoor
