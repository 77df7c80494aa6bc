/- The plain functions of the layer mix: sums over groups of four bytes; no program in sight. -/
import Derived.Laws.BitsAllLaws
namespace Go.Proofs.YtelolcagncgfpaaGreat
def rotl7 (x : Nat) : Nat := x * 128 % 4294967296 + x / 33554432
def mstep (p : Nat × Nat) (x : Nat) : Nat × Nat :=
 ((p.1 + x + p.2) % 4294967296, rotl7 ((p.2 + x + (p.1 + x + p.2) % 4294967296) % 4294967296))
def grp (a b c d : UInt8) : Nat := a.toNat * 16777216 + b.toNat * 65536 + c.toNat * 256 + d.toNat
def groups : List UInt8 → List Nat
 | a :: b :: c :: d :: r => grp a b c d :: groups r
 | [a, b, c] => [grp a b c 0]
 | [a, b] => [grp a b 0 0]
 | [a] => [grp a 0 0 0]
 | [] => []
def pairOf (n : Nat) : Nat × Nat := (n / 4294967296, n % 4294967296)
def ofPair (p : Nat × Nat) : Nat := p.1 * 4294967296 + p.2
def mixSum (n : Nat) (s : List UInt8) : Nat := ofPair ((groups s).foldl mstep (pairOf n))
def In32 (p : Nat × Nat) : Prop := p.1 < 4294967296 ∧ p.2 < 4294967296
theorem rotl7_lt {x : Nat} (h : x < 4294967296) : rotl7 x < 4294967296 := by unfold rotl7; omega
theorem rotl7_eq (x : Nat) : rotl7 x = x % 33554432 * 128 + x / 33554432 := by
 unfold rotl7
 rw [show 4294967296 = 33554432 * 128 from rfl, Nat.mul_mod_mul_right]
theorem rotl7_inj {x y : Nat} (hx : x < 4294967296) (hy : y < 4294967296) (h : rotl7 x = rotl7 y) : x = y := by
 rw [rotl7_eq, rotl7_eq] at h; omega
theorem mstep_in (p : Nat × Nat) (x : Nat) : In32 (mstep p x) := by
 refine ⟨?_, rotl7_lt ?_⟩ <;> exact Nat.mod_lt _ (by decide)
theorem pairOf_in {n : Nat} (h : n < 18446744073709551616) : In32 (pairOf n) := by
 unfold pairOf In32; simp only; omega
theorem fold_in (l : List Nat) (p : Nat × Nat) (h : In32 p) : In32 (l.foldl mstep p) := by
 induction l generalizing p with
 | nil => exact h
 | cons x l ih => exact ih _ (mstep_in p x)
theorem ofPair_lt {p : Nat × Nat} (h : In32 p) : ofPair p < 18446744073709551616 := by
 unfold In32 at h; unfold ofPair; omega
theorem ofPair_inj {p q : Nat × Nat} (h : In32 p) (h' : In32 q) (e : ofPair p = ofPair q) : p = q := by
 unfold In32 at h h'; unfold ofPair at e
 apply Prod.ext <;> omega
theorem pairOf_ofPair {p : Nat × Nat} (h : In32 p) : pairOf (ofPair p) = p := by
 unfold In32 at h; unfold ofPair pairOf
 apply Prod.ext <;> simp only <;> omega
theorem ofPair_pairOf (n : Nat) : ofPair (pairOf n) = n := by unfold ofPair pairOf; simp only; omega
theorem mixSum_lt {n : Nat} (h : n < 18446744073709551616) (s : List UInt8) : mixSum n s < 18446744073709551616 :=
 ofPair_lt (fold_in _ _ (pairOf_in h))
theorem mixSum_nil (n : Nat) : mixSum n [] = n := ofPair_pairOf n
theorem u8_lt (a : UInt8) : a.toNat < 256 := a.toNat_lt
theorem grp_lt (a b c d : UInt8) : grp a b c d < 4294967296 := by
 have := u8_lt a; have := u8_lt b; have := u8_lt c; have := u8_lt d
 unfold grp; omega
theorem grp_inj {a b c d a' b' c' d' : UInt8} (h : grp a b c d = grp a' b' c' d') : a = a' ∧ b = b' ∧ c = c' ∧ d = d' := by
 have := u8_lt a; have := u8_lt b; have := u8_lt c; have := u8_lt d
 have := u8_lt a'; have := u8_lt b'; have := u8_lt c'; have := u8_lt d'
 unfold grp at h
 refine ⟨?_, ?_, ?_, ?_⟩ <;> apply UInt8.toNat_inj.1 <;> omega
theorem mstep_inj_pair {p q : Nat × Nat} {x : Nat} (hp : In32 p) (hq : In32 q) (h : mstep p x = mstep q x) : p = q := by
 unfold In32 at hp hq
 have h1 : (p.1 + x + p.2) % 4294967296 = (q.1 + x + q.2) % 4294967296 := congrArg Prod.fst h
 have h2 := rotl7_inj (Nat.mod_lt _ (by decide)) (Nat.mod_lt _ (by decide)) (congrArg Prod.snd h)
 rw [h1] at h2
 generalize (q.1 + x + q.2) % 4294967296 = t at h2
 apply Prod.ext <;> omega
theorem mstep_inj_group {p : Nat × Nat} {x y : Nat} (hx : x < 4294967296) (hy : y < 4294967296) (h : mstep p x = mstep p y) : x = y := by
 have h1 : (p.1 + x + p.2) % 4294967296 = (p.1 + y + p.2) % 4294967296 := congrArg Prod.fst h
 omega
theorem fold_inj (l : List Nat) {p q : Nat × Nat} (hp : In32 p) (hq : In32 q) (h : l.foldl mstep p = l.foldl mstep q) : p = q := by
 induction l generalizing p q with
 | nil => exact h
 | cons x l ih => exact mstep_inj_pair hp hq (ih (mstep_in _ _) (mstep_in _ _) h)
theorem groups_append (k : Nat) : ∀ (s t : List UInt8), s.length = 4 * k → groups (s ++ t) = groups s ++ groups t := by
 induction k with
 | zero =>
  intro s t h
  have : s = [] := List.eq_nil_of_length_eq_zero (by omega)
  subst this
  rfl
 | succ k ih =>
  intro s t h
  match s, h with
  | a :: b :: c :: d :: r, h =>
   have hr : r.length = 4 * k := by simp at h; omega
   show grp a b c d :: groups (r ++ t) = grp a b c d :: (groups r ++ groups t)
   rw [ih r t hr]
  | [], h => simp at h
  | [_], h => simp at h; omega
  | [_, _], h => simp at h; omega
  | [_, _, _], h => simp at h; omega
theorem mixSum_append {n : Nat} (hn : n < 18446744073709551616) (s t : List UInt8) (h : s.length % 4 = 0) : mixSum (mixSum n s) t = mixSum n (s ++ t) := by
 unfold mixSum
 rw [pairOf_ofPair (fold_in _ _ (pairOf_in hn)), groups_append (s.length / 4) s t (by omega), List.foldl_append]
def mst (p : Nat × Nat) (s : List UInt8) : Nat → (Nat × Nat) × Nat
 | 0 => (p, 0)
 | k + 1 =>
  if k % 4 = 3 then (mstep (mst p s k).1 ((mst p s k).2 + (s.getD k 0).toNat * 2 ^ (24 - k % 4 * 8)), 0)
  else ((mst p s k).1, (mst p s k).2 + (s.getD k 0).toNat * 2 ^ (24 - k % 4 * 8))
theorem mst_succ (p : Nat × Nat) (s : List UInt8) (k : Nat) : mst p s (k + 1) =
 if k % 4 = 3 then (mstep (mst p s k).1 ((mst p s k).2 + (s.getD k 0).toNat * 2 ^ (24 - k % 4 * 8)), 0)
 else ((mst p s k).1, (mst p s k).2 + (s.getD k 0).toNat * 2 ^ (24 - k % 4 * 8)) := rfl
def mstEnd (p : Nat × Nat) (s : List UInt8) : Nat × Nat :=
 if s.length % 4 = 0 then (mst p s s.length).1 else mstep (mst p s s.length).1 (mst p s s.length).2
theorem mst_four (p : Nat × Nat) (a b c d : UInt8) (r : List UInt8) : mst p (a :: b :: c :: d :: r) 4 = (mstep p (grp a b c d), 0) := by
 have h3 : mst p (a :: b :: c :: d :: r) 3 = (p, 0 + a.toNat * 2 ^ 24 + b.toNat * 2 ^ 16 + c.toNat * 2 ^ 8) := rfl
 have : mst p (a :: b :: c :: d :: r) 4 = (mstep (mst p (a :: b :: c :: d :: r) 3).1 ((mst p (a :: b :: c :: d :: r) 3).2 + d.toNat * 2 ^ 0), 0) := rfl
 rw [this, h3]
 simp [grp]
theorem mst_shift (p : Nat × Nat) (a b c d : UInt8) (r : List UInt8) (k : Nat) : mst p (a :: b :: c :: d :: r) (k + 4) = mst (mstep p (grp a b c d)) r k := by
 induction k with
 | zero => exact mst_four p a b c d r
 | succ k ih =>
  have e : k + 1 + 4 = (k + 4) + 1 := by omega
  have e4 : (k + 4) % 4 = k % 4 := by omega
  have eg : (a :: b :: c :: d :: r).getD (k + 4) 0 = r.getD k 0 := by simp [List.getD]
  rw [e, mst_succ p _ (k + 4), mst_succ (mstep p (grp a b c d)) r k, ih, e4, eg]
theorem mstEnd_eq : ∀ (s : List UInt8) (p : Nat × Nat), mstEnd p s = (groups s).foldl mstep p
 | a :: b :: c :: d :: r, p => by
  have ih := mstEnd_eq r (mstep p (grp a b c d))
  rw [groups, List.foldl_cons, ← ih]
  unfold mstEnd
  simp only [List.length_cons]
  rw [mst_shift, show (r.length + 1 + 1 + 1 + 1) % 4 = r.length % 4 by omega]
 | [a, b, c], p => by simp [mstEnd, mst, groups, grp]
 | [a, b], p => by simp [mstEnd, mst, groups, grp]
 | [a], p => by simp [mstEnd, mst, groups, grp]
 | [], p => by simp [mstEnd, mst, groups]
theorem mst_in (p : Nat × Nat) (s : List UInt8) (hp : In32 p) (k : Nat) : In32 (mst p s k).1 := by
 induction k with
 | zero => exact hp
 | succ k ih => rw [mst]; split <;> first | exact mstep_in _ _ | exact ih
theorem mst_grp (p : Nat × Nat) (s : List UInt8) (k : Nat) : (mst p s k).2 % 2 ^ (32 - k % 4 * 8) = 0 ∧ (mst p s k).2 < 4294967296 := by
 induction k with
 | zero => exact ⟨by simp [mst], by simp [mst]⟩
 | succ k ih =>
  obtain ⟨h1, h2⟩ := ih
  have hb := u8_lt (s.getD k 0)
  rw [mst]
  have h4 : k % 4 = 0 ∨ k % 4 = 1 ∨ k % 4 = 2 ∨ k % 4 = 3 := by omega
  rcases h4 with h4 | h4 | h4 | h4
  · have h4' : (k + 1) % 4 = 1 := by omega
    rw [h4] at h1
    rw [if_neg (by omega), h4', h4]
    simp only [Nat.reduceMul, Nat.reduceSub, Nat.reducePow] at h1 ⊢
    omega
  · have h4' : (k + 1) % 4 = 2 := by omega
    rw [h4] at h1
    rw [if_neg (by omega), h4', h4]
    simp only [Nat.reduceMul, Nat.reduceSub, Nat.reducePow] at h1 ⊢
    omega
  · have h4' : (k + 1) % 4 = 3 := by omega
    rw [h4] at h1
    rw [if_neg (by omega), h4', h4]
    simp only [Nat.reduceMul, Nat.reduceSub, Nat.reducePow] at h1 ⊢
    omega
  · rw [if_pos h4]
    simp
theorem or_at (g b r : Nat) (hr : r < 4) (h1 : g % 2 ^ (32 - r * 8) = 0) (hb : b < 256) : g ||| b * 2 ^ (24 - r * 8) = g + b * 2 ^ (24 - r * 8) := by
 apply nat_join (32 - r * 8) _ _ h1
 have h4 : r = 0 ∨ r = 1 ∨ r = 2 ∨ r = 3 := by omega
 rcases h4 with h4 | h4 | h4 | h4 <;> subst h4 <;> simp only [Nat.reduceMul, Nat.reduceSub, Nat.reducePow] <;> omega
def byteAt (l : List UInt8) (i : Nat) : Nat := (l.getD i 0).toNat
theorem byteAt_lt (l : List UInt8) (i : Nat) : byteAt l i < 256 := u8_lt _
def grpAt (l : List UInt8) (j : Nat) : Nat := byteAt l j * 16777216 + byteAt l (j + 1) * 65536 + byteAt l (j + 2) * 256 + byteAt l (j + 3)
theorem grpAt_lt (l : List UInt8) (j : Nat) : grpAt l j < 4294967296 := grp_lt _ _ _ _
theorem groups_drop (l : List UInt8) (j : Nat) (h : j < l.length) : groups (l.drop j) = grpAt l j :: groups (l.drop (j + 4)) := by
 show _ = grp (l.getD j 0) (l.getD (j + 1) 0) (l.getD (j + 2) 0) (l.getD (j + 3) 0) :: groups (l.drop (j + 4))
 have e : ∀ i, l.getD (j + i) 0 = (l.drop j).getD i 0 := by intro i; simp [List.getD, List.getElem?_drop]
 have e0 := e 0
 rw [Nat.add_zero] at e0
 rw [e0, e 1, e 2, e 3, show l.drop (j + 4) = (l.drop j).drop 4 by rw [List.drop_drop]]
 have hl : 0 < (l.drop j).length := by rw [List.length_drop]; omega
 generalize l.drop j = m at hl
 match m, hl with
 | a :: b :: c :: d :: r, _ => rfl
 | [a, b, c], _ => rfl
 | [a, b], _ => rfl
 | [a], _ => rfl
theorem groups_pad : ∀ (l : List UInt8) (j : Nat), l.length + j ≤ (l.length + 3) / 4 * 4 → groups (l ++ List.replicate j 0) = groups l
 | a :: b :: c :: d :: r, j, h => by
  have hr : r.length + j ≤ (r.length + 3) / 4 * 4 := by simp only [List.length_cons] at h; omega
  show grp a b c d :: groups (r ++ List.replicate j 0) = grp a b c d :: groups r
  rw [groups_pad r j hr]
 | [a, b, c], j, h => by
  have : j = 0 ∨ j = 1 := by simp only [List.length_cons, List.length_nil] at h; omega
  rcases this with h | h <;> subst h <;> rfl
 | [a, b], j, h => by
  have : j = 0 ∨ j = 1 ∨ j = 2 := by simp only [List.length_cons, List.length_nil] at h; omega
  rcases this with h | h | h <;> subst h <;> rfl
 | [a], j, h => by
  have : j = 0 ∨ j = 1 ∨ j = 2 ∨ j = 3 := by simp only [List.length_cons, List.length_nil] at h; omega
  rcases this with h | h | h | h <;> subst h <;> rfl
 | [], j, h => by
  have : j = 0 := by simp only [List.length_nil] at h; omega
  subst this; rfl
theorem mstep_zero {p : Nat × Nat} (h : In32 p) : mstep p 0 = p ↔ p = (0, 0) := by
 obtain ⟨a, b⟩ := p
 obtain ⟨h1, h2⟩ := h
 constructor
 · intro e
   have e1 : (a + 0 + b) % 4294967296 = a := congrArg Prod.fst e
   have e2 : rotl7 ((b + 0 + (a + 0 + b) % 4294967296) % 4294967296) = b := congrArg Prod.snd e
   simp only at h1 h2
   have hb : b = 0 := by omega
   subst hb
   rw [e1] at e2
   have ha : a = 0 := by
    have : (0 + 0 + a) % 4294967296 = a := by omega
    rw [this, rotl7_eq] at e2
    omega
   rw [ha]
 · intro e; rw [e]; rfl
theorem mixSum_four {n : Nat} (hn : n < 18446744073709551616) (t : List UInt8) (h : t.length % 4 = 0) : (mixSum n (t ++ [0, 0, 0, 0]) = mixSum n t) ↔ mixSum n t = 0 := by
 unfold mixSum
 rw [groups_append (t.length / 4) t _ (by omega), List.foldl_append]
 have hp := fold_in (groups t) _ (pairOf_in hn)
 generalize (groups t).foldl mstep (pairOf n) = p at hp
 show ofPair (mstep p 0) = ofPair p ↔ ofPair p = 0
 constructor
 · intro e
   rw [(mstep_zero hp).1 (ofPair_inj (mstep_in _ _) hp e)]; rfl
 · intro e
   have : p = (0, 0) := ofPair_inj hp ⟨by decide, by decide⟩ e
   rw [this]; rfl
theorem mixSum_tells {n m : Nat} (hn : n < 18446744073709551616) (hm : m < 18446744073709551616) (s t : List UInt8) (hs : s.length % 4 = 0) (a b c d a' b' c' d' : UInt8) :
 (mixSum n (s ++ [a, b, c, d] ++ t) = mixSum n (s ++ [a', b', c', d'] ++ t) ↔ (a = a' ∧ b = b' ∧ c = c' ∧ d = d')) ∧
 (mixSum n (s ++ [a, b, c, d] ++ t) = mixSum m (s ++ [a, b, c, d] ++ t) ↔ n = m) := by
 have hg : ∀ a b c d : UInt8, groups (s ++ [a, b, c, d] ++ t) = groups s ++ (grp a b c d :: groups t) := by
  intro a b c d
  rw [List.append_assoc, groups_append (s.length / 4) s _ (by omega)]; rfl
 unfold mixSum
 rw [hg, hg]
 constructor
 · constructor
   · intro e
     have e := ofPair_inj (fold_in _ _ (pairOf_in hn)) (fold_in _ _ (pairOf_in hn)) e
     rw [List.foldl_append, List.foldl_append, List.foldl_cons, List.foldl_cons] at e
     have e := fold_inj _ (mstep_in _ _) (mstep_in _ _) e
     exact grp_inj (mstep_inj_group (grp_lt _ _ _ _) (grp_lt _ _ _ _) e)
   · rintro ⟨rfl, rfl, rfl, rfl⟩; rfl
 · constructor
   · intro e
     have e := ofPair_inj (fold_in _ _ (pairOf_in hn)) (fold_in _ _ (pairOf_in hm)) e
     have e := fold_inj _ (pairOf_in hn) (pairOf_in hm) e
     rw [← ofPair_pairOf n, ← ofPair_pairOf m, e]
   · rintro rfl; rfl
end Go.Proofs.YtelolcagncgfpaaGreat
