/- A generator of conditions for a walk, part 1: abstract values, blocks by numbers of our own, what they stand for. No program in sight. -/
import Derived.Test.YtelolcagncgfpaaGreatPlan
import Derived.MapKept
namespace Go.Proofs.YtelolcagncgfpaaGreat
open Go.RowKit
abbrev BM := Nat → Nat → Nat → Prop
def BM.le (m m' : BM) : Prop := ∀ i g s, m i g s → m' i g s
theorem BM.le_refl (m : BM) : m.le m := fun _ _ _ h => h
theorem BM.le_trans {m m' m'' : BM} (h : m.le m') (h' : m'.le m'') : m.le m'' := fun i g s x => h' i g s (h i g s x)
def BM.Fn (m : BM) : Prop := ∀ i g s g' s', m i g s → m i g' s' → g = g' ∧ s = s'
def nilS : Nat := 18446744073709551616
def sh (s : Nat) : Nat := if s < nilS then s else s - 1
theorem sh_zero : sh 0 = 0 := by unfold sh nilS; simp
theorem sh_all (k : Nat) : ∃ s, s ≠ nilS ∧ sh s = k := by
 rcases Nat.lt_or_ge k nilS with h | h
 · exact ⟨k, by omega, by unfold sh; rw [if_pos h]⟩
 · exact ⟨k + 1, by omega, by unfold sh; rw [if_neg (by omega)]; omega⟩
theorem zero_ne_nilS : (0 : Nat) ≠ nilS := by unfold nilS; omega
def isRig : Option Nat → Bool
 | some (Nat.succ _) => true
 | _ => false
def unrig : Option Nat → Option Nat
 | some (Nat.succ (Nat.succ k)) => some k
 | _ => none
def A0 (m : BM) (a b : Addr) : Prop := (a.spot = none ∧ ∃ g s, m a.block g s ∧ s ≠ nilS ∧ b = ⟨g, a.off + sh s, none⟩) ∨ (isRig a.spot = true ∧ b = ⟨a.block, a.off, unrig a.spot⟩)
theorem A0.mono {m m' : BM} (h : m.le m') {a b : Addr} (x : A0 m a b) : A0 m' a b := x.imp (fun x => ⟨x.1, let ⟨g, s, y, z, e⟩ := x.2; ⟨g, s, h _ _ _ y, z, e⟩⟩) id
theorem A0.fn {m : BM} (h : m.Fn) {a b c : Addr} (x : A0 m a b) (y : A0 m a c) : b = c := by
 rcases x with ⟨e, g, s, x, _, rfl⟩ | ⟨e, rfl⟩ <;> rcases y with ⟨e', g', s', y, _, rfl⟩ | ⟨e', rfl⟩
 · obtain ⟨rfl, rfl⟩ := h _ _ _ _ _ x y
   rfl
 · rw [e] at e'; cases e'
 · rw [e'] at e; cases e
 · rfl
theorem A0.old {m : BM} {b o : Nat} {c : Addr} (h : A0 m ⟨b, o, none⟩ c) : ∃ g s, m b g s ∧ s ≠ nilS ∧ c = ⟨g, o + sh s, none⟩ := by
 rcases h with ⟨_, h⟩ | ⟨h, _⟩
 · exact h
 · cases h
theorem A0.in {m : BM} {b o g s : Nat} (hm : m b g s) (hs : s ≠ nilS) : A0 m ⟨b, o, none⟩ ⟨g, o + sh s, none⟩ := .inl ⟨rfl, g, s, hm, hs, rfl⟩
theorem A0.rig {m : BM} {g o : Nat} {p : Option Nat} (hp : isRig p = true) {c : Addr} : A0 m ⟨g, o, p⟩ c ↔ c = ⟨g, o, unrig p⟩ := by
 constructor
 · rintro (⟨h, _⟩ | ⟨_, h⟩)
   · cases h; cases hp
   · exact h
 · rintro rfl
   exact .inr ⟨hp, rfl⟩
theorem A0.rig1 {m : BM} {g o : Nat} {c : Addr} : A0 m ⟨g, o, some 1⟩ c ↔ c = ⟨g, o, none⟩ := A0.rig rfl
def pr (a b : Nat) : Nat := 2 ^ a * (2 * b + 1)
theorem pr_zero (b : Nat) : pr 0 b = 2 * b + 1 := by unfold pr; omega
theorem pr_succ (a b : Nat) : pr (a + 1) b = 2 * pr a b := by unfold pr; rw [Nat.pow_succ, Nat.mul_comm (2 ^ a) 2, Nat.mul_assoc]
theorem pr_inj : ∀ {a b c d : Nat}, pr a b = pr c d → a = c ∧ b = d
 | 0, b, 0, d, h => by rw [pr_zero, pr_zero] at h; omega
 | 0, b, c + 1, d, h => by rw [pr_zero, pr_succ] at h; omega
 | a + 1, b, 0, d, h => by rw [pr_zero, pr_succ] at h; omega
 | a + 1, b, c + 1, d, h => by
  rw [pr_succ, pr_succ] at h
  obtain ⟨h1, h2⟩ := pr_inj (show pr a b = pr c d by omega)
  omega
def scode : Option Nat → Nat | none => 0 | some k => k + 1
theorem scode_inj : ∀ {a c : Option Nat}, scode a = scode c → a = c
 | none, none, _ => rfl
 | none, some _, h => by cases h
 | some _, none, h => by cases h
 | some _, some _, h => by cases h; rfl
def wcode : Option Addr → Nat
 | none => 0
 | some a => pr (pr a.block a.off) (scode a.spot)
theorem pr_pos (a b : Nat) : 0 < pr a b := Nat.mul_pos (Nat.pow_pos (by omega)) (by omega)
theorem wcode_inj : ∀ {a c : Option Addr}, wcode a = wcode c → a = c
 | none, none, _ => rfl
 | none, some a, h => by have := pr_pos (pr a.block a.off) (scode a.spot); exact absurd (show pr (pr a.block a.off) (scode a.spot) = 0 from h.symm) (by omega)
 | some a, none, h => by have := pr_pos (pr a.block a.off) (scode a.spot); exact absurd (show pr (pr a.block a.off) (scode a.spot) = 0 from h) (by omega)
 | some ⟨b, o, s⟩, some ⟨b', o', s'⟩, h => by
  obtain ⟨h1, h2⟩ := pr_inj (show pr (pr b o) (scode s) = pr (pr b' o') (scode s') from h)
  obtain ⟨rfl, rfl⟩ := pr_inj h1
  obtain rfl := scode_inj h2
  rfl
def unpr : Nat → Nat → Nat × Nat
 | 0, n => (0, n)
 | f + 1, n => if n % 2 = 1 then (0, n / 2) else ((unpr f (n / 2)).1 + 1, (unpr f (n / 2)).2)
theorem unpr_pr : ∀ {a f b : Nat}, a < f → unpr f (pr a b) = (a, b)
 | 0, f + 1, b, _ => by
  unfold unpr
  rw [pr_zero, if_pos (by omega)]
  congr 1
  omega
 | a + 1, f + 1, b, h => by
  unfold unpr
  rw [pr_succ, if_neg (by omega), show 2 * pr a b / 2 = pr a b by omega, unpr_pr (by omega)]
theorem pr_big : ∀ (a b : Nat), a < pr a b
 | 0, b => by rw [pr_zero]; omega
 | a + 1, b => by have := pr_big a b; rw [pr_succ]; omega
def weird (g : Nat) : Option Addr :=
 if g = 0 then none else some ⟨(unpr (unpr g g).1 (unpr g g).1).1, (unpr (unpr g g).1 (unpr g g).1).2, if (unpr g g).2 = 0 then none else some ((unpr g g).2 - 1)⟩
theorem weird_code (a : Option Addr) : weird (wcode a) = a := by
 cases a with
 | none => rfl
 | some a =>
  obtain ⟨b, o, s⟩ := a
  have h0 := pr_pos (pr b o) (scode s)
  show weird (pr (pr b o) (scode s)) = _
  unfold weird
  rw [if_neg (by omega), unpr_pr (pr_big _ _)]
  dsimp only
  rw [unpr_pr (pr_big _ _)]
  cases s with
  | none => rfl
  | some k => rfl
theorem weird_zero : weird 0 = none := weird_code none
def slcA (b : Addr) : Option Addr := match b.spot with | some (Nat.succ Nat.zero) => weird b.block | _ => some b
def slcF (n k : Nat) (b : Addr) : Value := .slice (slcA b) n k
def ref0 : Value → Option (Addr × (Addr → Value))
 | .pointer (some a) => some (a, fun b => .pointer (some b))
 | .slice (some a) n k => some (a, slcF n k)
 | .iface t (.pointer (some a)) => some (a, fun b => .iface t (.pointer (some b)))
 | .map (some i) => some (⟨i, 0, none⟩, fun b => .map (some b.block))
 | .iface t (.map (some i)) => some (⟨i, 0, none⟩, fun b => .iface t (.map (some b.block)))
 | _ => none
def mark : Value → Option (Nat × Nat × Nat × Nat)
 | .slice (some ⟨b, o, some Nat.zero⟩) n k => some (b, o, n, k)
 | _ => none
theorem ref0_mark {v : Value} (h : ref0 v = none) : mark v = none := by
 unfold mark
 split
 · cases h
 · rfl
def M0 (m : BM) (b o n k : Nat) (c : Value) : Prop := ∃ g s, m b g s ∧ ((s = nilS ∧ n = 0 ∧ k = 0 ∧ c = .slice (weird g) 0 0) ∨ (s ≠ nilS ∧ c = .slice (some ⟨g, o + sh s, none⟩) n k))
theorem M0.mono {m m' : BM} (h : m.le m') {b o n k : Nat} {c : Value} (x : M0 m b o n k c) : M0 m' b o n k c := let ⟨g, s, y, z⟩ := x; ⟨g, s, h _ _ _ y, z⟩
theorem M0.fn {m : BM} (h : m.Fn) {b o n k : Nat} {c c' : Value} (x : M0 m b o n k c) (y : M0 m b o n k c') : c = c' := by
 obtain ⟨g, s, x, x2⟩ := x
 obtain ⟨g', s', y, y2⟩ := y
 obtain ⟨rfl, rfl⟩ := h _ _ _ _ _ x y
 rcases x2 with ⟨h1, _, _, rfl⟩ | ⟨h1, rfl⟩ <;> rcases y2 with ⟨h2, _, _, rfl⟩ | ⟨h2, rfl⟩ <;> first | rfl | exact absurd h1 h2 | exact absurd h2 h1
def V0 (m : BM) (v c : Value) : Prop := match mark v with
 | some (b, o, n, k) => M0 m b o n k c
 | none => match ref0 v with | none => c = v | some (a, f) => ∃ b, A0 m a b ∧ c = f b
def LR (R : Value → Value → Prop) : List Value → List Value → Prop
 | [], [] => True
 | v :: vs, c :: cs => R v c ∧ LR R vs cs
 | _, _ => False
def parts1 : Value → Option (List Value × (List Value → Value))
 | .agg cs => some (cs.toList, fun l => .agg l.toArray)
 | .func fn ⟨[]⟩ cs => some (cs.toList, fun l => .func fn #[] l.toArray)
 | .func (.method s) ⟨[v]⟩ ⟨[]⟩ => some ([v], fun l => .func (.method s) l.toArray #[])
 | _ => none
def V1 (m : BM) (v c : Value) : Prop := match parts1 v with | none => V0 m v c | some (l, f) => ∃ l', LR (V0 m) l l' ∧ c = f l'
def tup : Value → Option (List Value) | .tuple vs => some vs.toList | _ => none
def VR (m : BM) (v c : Value) : Prop := match tup v with | some l => ∃ l', LR (V1 m) l l' ∧ c = .tuple l'.toArray | none => V1 m v c
theorem tup_eq {v : Value} {l : List Value} (h : tup v = some l) : v = .tuple l.toArray := by cases v <;> simp [tup] at h; subst h; rfl
theorem LR.mono {R R' : Value → Value → Prop} (h : ∀ v c, R v c → R' v c) : ∀ {l l' : List Value}, LR R l l' → LR R' l l'
 | [], [], _ => trivial
 | _ :: _, _ :: _, x => ⟨h _ _ x.1, LR.mono h x.2⟩
theorem LR.fn {R : Value → Value → Prop} (h : ∀ v c c', R v c → R v c' → c = c') : ∀ {l a b : List Value}, LR R l a → LR R l b → a = b
 | [], [], [], _, _ => rfl
 | _ :: _, _ :: _, _ :: _, x, y => by rw [h _ _ _ x.1 y.1, LR.fn h x.2 y.2]
theorem LR.length {R : Value → Value → Prop} : ∀ {l l' : List Value}, LR R l l' → l'.length = l.length
 | [], [], _ => rfl
 | _ :: _, _ :: _, x => by simp [LR.length x.2]
theorem LR.get {R : Value → Value → Prop} : ∀ {l l' : List Value} {i : Nat} {v : Value}, LR R l l' → l[i]? = some v → ∃ c, l'[i]? = some c ∧ R v c
 | [], _, _, _, _, h => by simp at h
 | _ :: _, c :: _, 0, _, x, h => by simp at h; subst h; exact ⟨c, rfl, x.1⟩
 | _ :: l, _ :: l', i + 1, v, x, h => LR.get (l := l) (l' := l') (i := i) x.2 (by simpa using h)
theorem LR.take {R : Value → Value → Prop} : ∀ {l l' : List Value} (n : Nat), LR R l l' → LR R (l.take n) (l'.take n)
 | [], [], _, _ => by simp [LR]
 | _ :: _, _ :: _, 0, _ => by simp [LR]
 | _ :: _, _ :: _, n + 1, x => ⟨x.1, LR.take n x.2⟩
theorem LR.drop {R : Value → Value → Prop} : ∀ {l l' : List Value} (n : Nat), LR R l l' → LR R (l.drop n) (l'.drop n)
 | [], [], _, _ => by simp [LR]
 | _ :: _, _ :: _, 0, x => x
 | _ :: l, _ :: l', n + 1, x => by simpa using LR.drop (l := l) (l' := l') n x.2
theorem LR.append {R : Value → Value → Prop} : ∀ {l l' k k' : List Value}, LR R l l' → LR R k k' → LR R (l ++ k) (l' ++ k')
 | [], [], _, _, _, y => y
 | _ :: _, _ :: _, _, _, x, y => ⟨x.1, LR.append x.2 y⟩
theorem LR.set {R : Value → Value → Prop} : ∀ {l l' : List Value} (i : Nat) {v c : Value}, LR R l l' → R v c → LR R (l.set i v) (l'.set i c)
 | [], [], _, _, _, _, _ => by simp [LR]
 | _ :: _, _ :: _, 0, _, _, x, y => ⟨y, x.2⟩
 | _ :: _, _ :: _, i + 1, _, _, x, y => ⟨x.1, LR.set i x.2 y⟩
theorem LR.refl_of {R : Value → Value → Prop} : ∀ {l : List Value}, (∀ v ∈ l, R v v) → LR R l l
 | [], _ => trivial
 | v :: _, h => ⟨h v (by simp), LR.refl_of fun u hu => h u (by simp [hu])⟩
theorem LR.eq_of {R : Value → Value → Prop} : ∀ {l l' : List Value}, (∀ v ∈ l, ∀ c, R v c → c = v) → LR R l l' → l' = l
 | [], [], _, _ => rfl
 | v :: _, _ :: _, h, x => by rw [h v (by simp) _ x.1, LR.eq_of (fun u hu => h u (by simp [hu])) x.2]
theorem V0.mono {m m' : BM} (h : m.le m') {v c : Value} (x : V0 m v c) : V0 m' v c := by
 unfold V0 at *
 split at x
 · exact x.mono h
 · split at x
   · exact x
   · exact let ⟨b, y, e⟩ := x; ⟨b, y.mono h, e⟩
theorem V0.fn {m : BM} (h : m.Fn) {v c c' : Value} (x : V0 m v c) (y : V0 m v c') : c = c' := by
 unfold V0 at *
 cases hm : mark v with
 | some q => obtain ⟨b, o, n, k⟩ := q; rw [hm] at x y; exact M0.fn h x y
 | none =>
  rw [hm] at x y
  dsimp only at x y
  cases e : ref0 v with
  | none => rw [e] at x y; exact x.trans y.symm
  | some z =>
   rw [e] at x y
   obtain ⟨b, hb, rfl⟩ := x
   obtain ⟨b', hb', rfl⟩ := y
   rw [hb.fn h hb']
theorem V1.mono {m m' : BM} (h : m.le m') {v c : Value} (x : V1 m v c) : V1 m' v c := by
 unfold V1 at *
 split at x
 · exact x.mono h
 · exact let ⟨l, y, e⟩ := x; ⟨l, y.mono fun _ _ z => z.mono h, e⟩
theorem V1.fn {m : BM} (h : m.Fn) {v c c' : Value} (x : V1 m v c) (y : V1 m v c') : c = c' := by
 unfold V1 at *
 cases e : parts1 v with
 | none => rw [e] at x y; exact V0.fn h x y
 | some z =>
  rw [e] at x y
  obtain ⟨b, hb, rfl⟩ := x
  obtain ⟨b', hb', rfl⟩ := y
  rw [LR.fn (R := V0 m) (fun _ _ _ => V0.fn h) hb hb']
theorem VR.mono {m m' : BM} (h : m.le m') {v c : Value} (x : VR m v c) : VR m' v c := by
 unfold VR at *
 cases e : tup v with
 | none => rw [e] at x; exact V1.mono h x
 | some z => rw [e] at x; exact let ⟨l, y, e⟩ := x; ⟨l, y.mono fun _ _ z => z.mono h, e⟩
theorem VR.fn {m : BM} (h : m.Fn) {v c c' : Value} (x : VR m v c) (y : VR m v c') : c = c' := by
 unfold VR at *
 cases e : tup v with
 | none => rw [e] at x y; exact V1.fn h x y
 | some z =>
  rw [e] at x y
  obtain ⟨b, hb, rfl⟩ := x
  obtain ⟨b', hb', rfl⟩ := y
  rw [LR.fn (R := V1 m) (fun _ _ _ => V1.fn h) hb hb']
def flat0 (v : Value) : Bool := (ref0 v).isNone
def flat1 (v : Value) : Bool := match parts1 v with | none => flat0 v | some (l, _) => l.all flat0
def flatR (v : Value) : Bool := match tup v with | some l => l.all flat1 | none => flat1 v
theorem V0.flat {m : BM} {v c : Value} (h : flat0 v = true) : V0 m v c ↔ c = v := by
 unfold V0 flat0 at *
 cases e : ref0 v with
 | none => rw [ref0_mark e]
 | some x => rw [e] at h; cases h
theorem parts1_self {v : Value} {l : List Value} {f : List Value → Value} (h : parts1 v = some (l, f)) : f l = v := by
 unfold parts1 at h
 split at h
 · simp at h; obtain ⟨rfl, rfl⟩ := h; rfl
 · simp at h; obtain ⟨rfl, rfl⟩ := h; rfl
 · simp at h; obtain ⟨rfl, rfl⟩ := h; rfl
 · cases h
theorem V1.flat {m : BM} {v c : Value} (h : flat1 v = true) : V1 m v c ↔ c = v := by
 unfold V1 flat1 at *
 cases e : parts1 v with
 | none => rw [e] at h; exact V0.flat h
 | some x =>
  obtain ⟨l, f⟩ := x
  rw [e] at h
  have hl : ∀ u ∈ l, flat0 u = true := by simpa using h
  constructor
  · rintro ⟨l', hl', rfl⟩
    rw [LR.eq_of (fun u hu c hc => (V0.flat (hl u hu)).1 hc) hl']
    exact parts1_self e
  · rintro rfl
    exact ⟨l, LR.refl_of fun u hu => (V0.flat (hl u hu)).2 rfl, (parts1_self e).symm⟩
theorem VR.flat {m : BM} {v c : Value} (h : flatR v = true) : VR m v c ↔ c = v := by
 unfold VR flatR at *
 cases e : tup v with
 | none => rw [e] at h; exact V1.flat h
 | some l =>
  rw [e] at h
  have hl : ∀ u ∈ l, flat1 u = true := by simpa using h
  constructor
  · rintro ⟨l', hl', rfl⟩
    rw [LR.eq_of (fun u hu c hc => (V1.flat (hl u hu)).1 hc) hl']
    exact (tup_eq e).symm
  · rintro rfl
    exact ⟨l, LR.refl_of fun u hu => (V1.flat (hl u hu)).2 rfl, tup_eq e⟩
def still0 (v : Value) : Bool := match ref0 v with | none => true | some (a, _) => isRig a.spot
def still1 (v : Value) : Bool := match parts1 v with | none => still0 v | some (l, _) => l.all still0
theorem still0_flat {v : Value} (h : flat0 v = true) : still0 v = true := by
 unfold flat0 at h
 unfold still0
 cases e : ref0 v with
 | none => rfl
 | some x => rw [e] at h; cases h
theorem still1_flat {v : Value} (h : flat1 v = true) : still1 v = true := by
 unfold flat1 at h
 unfold still1
 cases e : parts1 v with
 | none => rw [e] at h; exact still0_flat h
 | some x =>
  obtain ⟨l, f⟩ := x
  rw [e] at h
  have hl : ∀ u ∈ l, flat0 u = true := by simpa using h
  simpa using fun u hu => still0_flat (hl u hu)
theorem still0_mark {v : Value} (h : still0 v = true) : mark v = none := by
 unfold mark
 split
 · cases h
 · rfl
theorem V0.still {m m' : BM} {v c : Value} (h : still0 v = true) (x : V0 m v c) : V0 m' v c := by
 unfold V0 at *
 rw [still0_mark h] at *
 unfold still0 at h
 cases e : ref0 v with
 | none => rw [e] at x; exact x
 | some q =>
  obtain ⟨a, f⟩ := q
  rw [e] at h x
  obtain ⟨b, hb, rfl⟩ := x
  refine ⟨b, ?_, rfl⟩
  exact (A0.rig (g := a.block) (o := a.off) h).2 ((A0.rig (g := a.block) (o := a.off) h).1 hb)
theorem LR.still {m m' : BM} : ∀ {l l' : List Value}, l.all still0 = true → LR (V0 m) l l' → LR (V0 m') l l'
 | [], [], _, _ => trivial
 | _ :: _, _ :: _, h, x => by
  simp only [List.all_cons, Bool.and_eq_true] at h
  exact ⟨V0.still h.1 x.1, LR.still h.2 x.2⟩
theorem V1.still {m m' : BM} {v c : Value} (h : still1 v = true) (x : V1 m v c) : V1 m' v c := by
 unfold V1 still1 at *
 cases e : parts1 v with
 | none => rw [e] at x h; exact V0.still h x
 | some q =>
  obtain ⟨l, f⟩ := q
  rw [e] at x h
  obtain ⟨l', hl, rfl⟩ := x
  exact ⟨l', LR.still h hl, rfl⟩
def noTup : Value → Bool | .tuple _ => false | _ => true
theorem VR.of1 {m : BM} {v c : Value} (h : noTup v = true) : VR m v c ↔ V1 m v c := by
 unfold VR
 cases v <;> first | exact Iff.rfl | cases h
def leaf : Value → Bool | .tuple _ => false | .agg _ => false | .func .. => false | _ => true
theorem parts1_leaf {v : Value} (h : leaf v = true) : parts1 v = none := by cases v <;> first | rfl | cases h
theorem V1.of0 {m : BM} {v c : Value} (h : leaf v = true) : V1 m v c ↔ V0 m v c := by unfold V1; rw [parts1_leaf h]
theorem leaf_noTup {v : Value} (h : leaf v = true) : noTup v = true := by cases v <;> first | rfl | cases h
theorem VR.of0 {m : BM} {v c : Value} (h : leaf v = true) : VR m v c ↔ V0 m v c := (VR.of1 (leaf_noTup h)).trans (V1.of0 h)
inductive Itm where
 | own (ty : TypeId) (cs : List Value)
 | view (cs : List Value)
 | row (ty : TypeId) (size cap : Nat) (cs : List Value)
 | lst (ty : TypeId) (size cap : Nat) (cs : List Value)
 | lview (cs : List Value)
 | mp (ks vs : List Value)
 | gv (g0 : Nat) (o : Obj)
 | abs (wr : Bool) (S : Nat → Prop) (Φ : Nat → World → Prop)
def Itm.cells : Itm → List Value | .own _ cs => cs | .view cs => cs | .row _ _ _ cs => cs | .lst _ _ _ cs => cs | .lview cs => cs | .mp _ _ => [] | .gv _ _ => [] | .abs _ _ _ => []
def Itm.mine : Itm → Bool | .view _ => false | .lview _ => false | .gv _ _ => false | .abs wr _ _ => wr | _ => true
def Itm.blk (it : Itm) (g s b : Nat) : Prop := match it with | .abs _ S _ => S b | _ => s ≠ nilS ∧ b = g
def Stab (S : Nat → Prop) (Φ : World → Prop) : Prop := ∀ w w' : World, w.heap.size ≤ w'.heap.size → (∀ b, S b → w'.heap[b]? = w.heap[b]?) → Φ w → Φ w'
def Itm.one : Itm → Bool | .abs _ _ _ => false | _ => true
theorem Itm.blk_one {it : Itm} (h : it.one = true) {g s b : Nat} : it.blk g s b ↔ s ≠ nilS ∧ b = g := by cases it <;> first | exact Iff.rfl | cases h
abbrev HP := List (Nat × Itm)
abbrev TM := List (Nat × Value)
def lkH : HP → Nat → Option Itm
 | [], _ => none
 | (j, x) :: r, i => bif Nat.beq j i then some x else lkH r i
def lkT : TM → Nat → Option Value
 | [], _ => none
 | (j, x) :: r, i => bif Nat.beq j i then some x else lkT r i
def rmH : HP → Nat → HP
 | [], _ => []
 | (j, x) :: r, i => bif Nat.beq j i then rmH r i else (j, x) :: rmH r i
def ViewIs (m : BM) (w : World) (g s : Nat) (cs : List Value) : Prop := g < w.heap.size ∧ s ≠ nilS ∧ ∃ l, LR (V1 m) cs l ∧ ∀ j v, l[j]? = some v → w.cell? ⟨g, sh s + j, none⟩ = some v
def RowIs (F : Nat → Prop) (B : Nat) (m : BM) (w : World) (g : Nat) (ty : TypeId) (size cap : Nat) (cs : List Value) : Prop :=
 (B ≤ g ∨ F g) ∧ cap ≤ maxLen ∧ ∃ l cur, LR (V1 m) cs l ∧ w.heap[g]? = some (.cells cur ty (0, 0)) ∧ cur.size = cap * size ∧ cur.toList.take l.length = l ∧ l.length ≤ cur.size
def ItmOk (F : Nat → Prop) (B : Nat) (m : BM) (w : World) (g s : Nat) : Itm → Prop
 | .own ty cs => s = 0 ∧ (B ≤ g ∨ F g) ∧ ∃ l, LR (V1 m) cs l ∧ Blk w g ty l.toArray
 | .view cs => ViewIs m w g s cs
 | .row ty size cap cs => s = 0 ∧ RowIs F B m w g ty size cap cs
 | .lst ty size cap cs => (s = nilS ∧ cap = 0 ∧ cs = []) ∨ (s = 0 ∧ RowIs F B m w g ty size cap cs)
 | .lview cs => (s = nilS ∧ cs = []) ∨ ViewIs m w g s cs
 | .mp ks vs => s = 0 ∧ (B ≤ g ∨ F g) ∧ ∃ E clk, (w.heap[g]? = some (.map E clk) ∧ MapKept.Stamped E clk) ∧ E.toList.map (fun e => e.key) = ks ∧ LR (V1 m) vs (E.toList.map fun e => e.val)
 | .gv g0 o => g = g0 ∧ s = 0 ∧ w.heap[g]? = some o
 | .abs wr S Φ => ((s = nilS ∧ g = 0) ∨ s = 0) ∧ (∀ b, S b → b < w.heap.size) ∧ (wr = true → ∀ b, S b → B ≤ b ∨ F b) ∧ Stab S (Φ g) ∧ Φ g w
theorem ViewIs.mono {m m' : BM} (h : m.le m') {w : World} {g s : Nat} {cs : List Value} : ViewIs m w g s cs → ViewIs m' w g s cs := fun ⟨a, b, l, x, y⟩ => ⟨a, b, l, x.mono fun _ _ => V1.mono h, y⟩
theorem RowIs.mono {F : Nat → Prop} {B : Nat} {m m' : BM} (h : m.le m') {w : World} {g : Nat} {ty : TypeId} {size cap : Nat} {cs : List Value} : RowIs F B m w g ty size cap cs → RowIs F B m' w g ty size cap cs :=
 fun ⟨b, c, l, cur, x, y⟩ => ⟨b, c, l, cur, x.mono fun _ _ => V1.mono h, y⟩
theorem ItmOk.mono {F : Nat → Prop} {B : Nat} {m m' : BM} (h : m.le m') {w : World} {g s : Nat} : ∀ {it : Itm}, ItmOk F B m w g s it → ItmOk F B m' w g s it
 | .own _ _, ⟨a, b, l, x, y⟩ => ⟨a, b, l, x.mono fun _ _ => V1.mono h, y⟩
 | .view _, x => ViewIs.mono h x
 | .row .., ⟨a, x⟩ => ⟨a, x.mono h⟩
 | .lst .., .inl x => .inl x
 | .lst .., .inr ⟨a, x⟩ => .inr ⟨a, x.mono h⟩
 | .lview _, .inl x => .inl x
 | .lview _, .inr x => .inr (x.mono h)
 | .mp .., ⟨a, b, E, c, x, y, z⟩ => ⟨a, b, E, c, x, y, z.mono fun _ _ => V1.mono h⟩
 | .gv _ _, x => x
 | .abs .., x => x
theorem ViewIs.same {m : BM} {w w' : World} {g s : Nat} (hs : w.heap.size ≤ w'.heap.size) (h : g < w.heap.size → w'.heap[g]? = w.heap[g]?) {cs : List Value} : ViewIs m w g s cs → ViewIs m w' g s cs :=
 fun ⟨a, b, l, x, y⟩ => ⟨Nat.lt_of_lt_of_le a hs, b, l, x, fun j v e => by
  rw [World.cell?_of_block (w := w) (w' := w') (a := ⟨g, sh s + j, none⟩) (h a)]; exact y j v e⟩
theorem RowIs.same {F : Nat → Prop} {B : Nat} {m : BM} {w w' : World} {g : Nat} (h : g < w.heap.size → w'.heap[g]? = w.heap[g]?) {ty : TypeId} {size cap : Nat} {cs : List Value} : RowIs F B m w g ty size cap cs → RowIs F B m w' g ty size cap cs :=
 fun ⟨b, c, l, cur, x, y, z⟩ => ⟨b, c, l, cur, x, (h (lt_of_block y)).trans y, z⟩
theorem RowIs.lt {F : Nat → Prop} {B : Nat} {m : BM} {w : World} {g : Nat} {ty : TypeId} {size cap : Nat} {cs : List Value} : RowIs F B m w g ty size cap cs → g < w.heap.size := fun ⟨_, _, _, _, _, y, _⟩ => lt_of_block y
theorem ItmOk.same {F : Nat → Prop} {B : Nat} {m : BM} {w w' : World} {g s : Nat} (hs : w.heap.size ≤ w'.heap.size) : ∀ {it : Itm}, (∀ b, it.blk g s b → b < w.heap.size → w'.heap[b]? = w.heap[b]?) → ItmOk F B m w g s it → ItmOk F B m w' g s it
 | .own _ _, h, ⟨a, b, l, x, y⟩ => ⟨a, b, l, x, (h g ⟨by rw [a]; exact zero_ne_nilS, rfl⟩ y.lt).trans y⟩
 | .view _, h, x => ViewIs.same hs (h g ⟨x.2.1, rfl⟩) x
 | .row .., h, ⟨a, x⟩ => ⟨a, x.same (h g ⟨by rw [a]; exact zero_ne_nilS, rfl⟩)⟩
 | .lst .., _, .inl x => .inl x
 | .lst .., h, .inr ⟨a, x⟩ => .inr ⟨a, x.same (h g ⟨by rw [a]; exact zero_ne_nilS, rfl⟩)⟩
 | .lview _, _, .inl x => .inl x
 | .lview _, h, .inr x => .inr (x.same hs (h g ⟨x.2.1, rfl⟩))
 | .mp .., h, ⟨a, b, E, c, x, y⟩ => ⟨a, b, E, c, ⟨(h g ⟨by rw [a]; exact zero_ne_nilS, rfl⟩ (lt_of_block x.1)).trans x.1, x.2⟩, y⟩
 | .gv .., h, ⟨a, b, c⟩ => ⟨a, b, (h g ⟨by rw [b]; exact zero_ne_nilS, rfl⟩ (lt_of_block c)).trans c⟩
 | .abs .., h, ⟨a, c, d, e, f⟩ => ⟨a, fun k hk => Nat.lt_of_lt_of_le (c k hk) hs, d, e, e _ _ hs (fun k hk => h k hk (c k hk)) f⟩
theorem ItmOk.lt {F : Nat → Prop} {B : Nat} {m : BM} {w : World} {g s b : Nat} : ∀ {it : Itm}, it.blk g s b → ItmOk F B m w g s it → b < w.heap.size
 | .own _ _, ⟨_, e⟩, ⟨_, _, _, _, y⟩ => e ▸ y.lt
 | .view _, ⟨_, e⟩, x => e ▸ x.1
 | .row .., ⟨_, e⟩, ⟨_, x⟩ => e ▸ x.lt
 | .lst .., ⟨hn, _⟩, .inl x => absurd x.1 hn
 | .lst .., ⟨_, e⟩, .inr ⟨_, x⟩ => e ▸ x.lt
 | .lview _, ⟨hn, _⟩, .inl x => absurd x.1 hn
 | .lview _, ⟨_, e⟩, .inr x => e ▸ x.1
 | .mp .., ⟨_, e⟩, ⟨_, _, _, _, x, _⟩ => e ▸ lt_of_block x.1
 | .gv .., ⟨_, e⟩, ⟨_, _, c⟩ => e ▸ lt_of_block c
 | .abs .., e, ⟨_, c, _⟩ => c _ e
structure Keep (F : Nat → Prop) (B : Nat) (w w' : World) : Prop where
 os : w'.os = w.os
 tape : w'.tape = w.tape
 output : w'.output = w.output
 size : w.heap.size ≤ w'.heap.size
 block : ∀ k, k < B → ¬ F k → w'.heap[k]? = w.heap[k]?
theorem Keep.refl (F : Nat → Prop) (B : Nat) (w : World) : Keep F B w w := ⟨rfl, rfl, rfl, Nat.le_refl _, fun _ _ _ => rfl⟩
theorem Keep.trans {F : Nat → Prop} {B : Nat} {a b c : World} (h : Keep F B a b) (k : Keep F B b c) : Keep F B a c :=
 ⟨k.os.trans h.os, k.tape.trans h.tape, k.output.trans h.output, Nat.le_trans h.size k.size, fun i hi hf => (k.block i hi hf).trans (h.block i hi hf)⟩
theorem Keep.of_below {F : Nat → Prop} {B B' : Nat} {w w' : World} (h : Below B' w w') (hB : B ≤ B') : Keep F B w w' :=
 ⟨h.os, h.tape, h.output, h.size, fun k hk _ => h.block k (Nat.lt_of_lt_of_le hk hB)⟩
theorem Keep.below {B : Nat} {w w' : World} (h : Keep (fun _ => False) B w w') : Below B w w' := ⟨h.os, h.tape, h.output, h.size, fun k hk => h.block k hk (fun x => x)⟩
structure HRel (F : Nat → Prop) (B : Nat) (w0 : World) (m : BM) (h : HP) (n : Nat) (w : World) : Prop where
 keep : Keep F B w0 w
 base : B ≤ w0.heap.size
 fn : m.Fn
 fresh : ∀ i g s, m i g s → i < n
 dom : ∀ i it, lkH h i = some it → ∃ g s, m i g s ∧ ItmOk F B m w g s it
 sep : ∀ i it j jt g s g' s' b, lkH h i = some it → it.mine = true → lkH h j = some jt → i ≠ j → m i g s → m j g' s' → it.blk g s b → ¬ jt.blk g' s' b
structure TRel (m : BM) (N : Nat) (t : TM) (a : Act) : Prop where
 size : a.tmps.size = N
 get : ∀ i v, lkT t i = some v → ∃ c, a.tmps[i]? = some c ∧ VR m v c
theorem HRel.base' {F : Nat → Prop} {B : Nat} {w0 : World} {m : BM} {h : HP} {n : Nat} {w : World} (H : HRel F B w0 m h n w) : B ≤ w.heap.size := Nat.le_trans H.base H.keep.size
theorem TRel.mono {m m' : BM} {N : Nat} {t : TM} {a : Act} (h : m.le m') (x : TRel m N t a) : TRel m' N t a :=
 ⟨x.size, fun i v e => let ⟨c, y, z⟩ := x.get i v e; ⟨c, y, z.mono h⟩⟩
structure TD (ds : List Deferred) (m : BM) (N : Nat) (t : TM) (a : Act) : Prop where
 r : TRel m N t a
 ds : a.defers = ds
theorem TD.mono {ds : List Deferred} {m m' : BM} {N : Nat} {t : TM} {a : Act} (h : m.le m') (x : TD ds m N t a) : TD ds m' N t a := ⟨x.r.mono h, x.ds⟩
theorem Act.put_ds (a : Act) (d : Option Tmp) (v : Value) : (a.put d v).defers = a.defers := by cases d <;> rfl
theorem HRel.later {F : Nat → Prop} {B : Nat} {w0 : World} {m : BM} {h : HP} {n : Nat} {w w' : World} (H : HRel F B w0 m h n w) (hb : Below w.heap.size w w') : HRel F B w0 m h n w' :=
 ⟨H.keep.trans (.of_below hb H.base'), H.base, H.fn, H.fresh, fun i it e => let ⟨g, s, x, y⟩ := H.dom i it e; ⟨g, s, x, y.same hb.size fun b _ hg => hb.block b hg⟩, H.sep⟩
theorem Below.drew' (w : World) : Below w.heap.size w w.drew := (Below.refl w.heap.size w).drew
theorem beq_no {a b : Nat} (h : ¬ a = b) : Nat.beq a b = false := by rw [Bool.eq_false_iff]; exact fun x => h (Nat.eq_of_beq_eq_true x)
def BM.put (m : BM) (n g s : Nat) : BM := fun i g' s' => m i g' s' ∨ (i = n ∧ g' = g ∧ s' = s)
abbrev BM.add (m : BM) (n g : Nat) : BM := m.put n g 0
theorem BM.le_put (m : BM) (n g s : Nat) : m.le (m.put n g s) := fun _ _ _ h => .inl h
theorem BM.le_add (m : BM) (n g : Nat) : m.le (m.add n g) := fun _ _ _ h => .inl h
theorem HRel.pushAt {F : Nat → Prop} {B : Nat} {w0 : World} {m : BM} {h : HP} {n : Nat} {w w' : World} (H : HRel F B w0 m h n w) {g s : Nat} {it : Itm}
 (hb : Below w.heap.size w w') (hg : ∀ b, it.blk g s b → w.heap.size ≤ b) (hi : ItmOk F B (m.put n g s) w' g s it) : HRel F B w0 (m.put n g s) ((n, it) :: h) (n + 1) w' := by
 have H' := H.later hb
 have old : ∀ i g' s, m i g' s → i ≠ n := fun i g' s x e => by have := H.fresh i g' s x; omega
 refine ⟨H'.keep, H'.base, ?_, ?_, ?_, ?_⟩
 · rintro i a s a' s' (x | ⟨rfl, rfl, rfl⟩) (y | ⟨e, rfl, rfl⟩)
   · exact H.fn _ _ _ _ _ x y
   · exact absurd e (old _ _ _ x)
   · exact absurd rfl (old _ _ _ y)
   · exact ⟨rfl, rfl⟩
 · rintro i a s (x | ⟨rfl, -, -⟩)
   · have := H.fresh _ _ _ x; omega
   · omega
 · intro i it' e
   by_cases hin : n = i
   · subst hin
     have : it' = it := by simpa [lkH] using e.symm
     subst this
     exact ⟨g, s, .inr ⟨rfl, rfl, rfl⟩, hi⟩
   · have e' : lkH h i = some it' := by
      unfold lkH at e
      rwa [beq_no hin] at e
     obtain ⟨g', s', x, y⟩ := H'.dom i it' e'
     exact ⟨g', s', .inl x, y.mono (BM.le_put m n g s)⟩
 · intro i it' j jt a s1 a2 s2 b e1 hm e2 hij x y hb1 hb2
   have look : ∀ k kt, lkH ((n, it) :: h) k = some kt → k ≠ n → lkH h k = some kt := fun k kt e hk => by
    unfold lkH at e
    rwa [beq_no fun x => hk x.symm] at e
   have here : ∀ kt, lkH ((n, it) :: h) n = some kt → kt = it := fun kt e => by simpa [lkH] using e.symm
   have below : ∀ k kt a s, lkH h k = some kt → m k a s → kt.blk a s b → b < w.heap.size := fun k kt a s e x hb => by
    obtain ⟨g', s', x', ok⟩ := H.dom k kt e
    obtain ⟨rfl, rfl⟩ := H.fn _ _ _ _ _ x x'
    exact ok.lt hb
   rcases x with x | ⟨rfl, rfl, rfl⟩
   · have e1' := look i it' e1 (old _ _ _ x)
     rcases y with y | ⟨rfl, rfl, rfl⟩
     · exact H.sep i it' j jt a s1 a2 s2 b e1' hm (look j jt e2 (old _ _ _ y)) hij x y hb1 hb2
     · obtain rfl := here jt e2
       have h1 := below _ _ _ _ e1' x hb1
       have h2 := hg b hb2
       omega
   · rcases y with y | ⟨e, -, -⟩
     · obtain rfl := here it' e1
       have h1 := below _ _ _ _ (look j jt e2 (old _ _ _ y)) y hb2
       have h2 := hg b hb1
       omega
     · exact absurd e.symm hij
theorem HRel.push {F : Nat → Prop} {B : Nat} {w0 : World} {m : BM} {h : HP} {n : Nat} {w w' : World} (H : HRel F B w0 m h n w) {g : Nat} {it : Itm}
 (hb : Below w.heap.size w w') (hg : w.heap.size ≤ g) (hi : ItmOk F B (m.add n g) w' g 0 it) (h1 : it.one = true) : HRel F B w0 (m.add n g) ((n, it) :: h) (n + 1) w' := H.pushAt hb (fun _ hb => by rw [((Itm.blk_one h1).1 hb).2]; exact hg) hi
theorem HRel.pushNil {F : Nat → Prop} {B : Nat} {w0 : World} {m : BM} {h : HP} {n : Nat} {w : World} (H : HRel F B w0 m h n w) (ty : TypeId) (size : Nat) : HRel F B w0 (m.put n 0 nilS) ((n, .lst ty size 0 []) :: h) (n + 1) w :=
 H.pushAt (Below.refl _ w) (fun _ hb => absurd rfl hb.1) (.inl ⟨rfl, rfl, rfl⟩)
theorem lkH_rm : ∀ {h : HP} {b i : Nat}, lkH (rmH h b) i = if i = b then none else lkH h i
 | [], b, i => by simp [rmH, lkH]
 | (j, y) :: r, b, i => by
  unfold rmH
  cases hj : Nat.beq j b with
  | true =>
   have : j = b := Nat.eq_of_beq_eq_true hj
   subst this
   simp only [cond_true]
   rw [lkH_rm]
   by_cases hi : i = j
   · simp [hi]
   · simp only [lkH, hi, if_false]; rw [beq_no (fun x => hi x.symm)]; simp
  | false =>
   simp only [cond_false, lkH]
   by_cases hji : j = i
   · subst hji
     have : ¬ j = b := fun x => by subst x; rw [Nat.beq_refl] at hj; cases hj
     simp [this]
   · rw [beq_no hji]; simpa using lkH_rm (h := r) (b := b) (i := i)
theorem HRel.sub_of {F : Nat → Prop} {B : Nat} {w0 : World} {m : BM} {h h' : HP} {n : Nat} {w : World} (H : HRel F B w0 m h n w) (hs : ∀ i it, lkH h' i = some it → lkH h i = some it) : HRel F B w0 m h' n w :=
 ⟨H.keep, H.base, H.fn, H.fresh, fun i it e => H.dom i it (hs i it e), fun i it j jt g s g' s' b e1 hm e2 hij => H.sep i it j jt g s g' s' b (hs _ _ e1) hm (hs _ _ e2) hij⟩
theorem HRel.rm {F : Nat → Prop} {B : Nat} {w0 : World} {m : BM} {h : HP} {n : Nat} {w : World} (H : HRel F B w0 m h n w) (b : Nat) : HRel F B w0 m (rmH h b) n w :=
 H.sub_of fun i it e => by
  rw [lkH_rm] at e
  split at e
  · cases e
  · exact e
end Go.Proofs.YtelolcagncgfpaaGreat
