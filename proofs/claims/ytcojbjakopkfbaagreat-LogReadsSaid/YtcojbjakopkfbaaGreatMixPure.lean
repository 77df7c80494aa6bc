/- The plain functions of the layer mix: sums over groups of four bytes; no program in sight. -/
import Derived.Laws.BitsAllLaws
namespace Go.Proofs.YtcojbjakopkfbaaGreat
def rotl7 (x : Nat) : Nat := x * 128 % 4294967296 + x / 33554432
def mstep (p : Nat × Nat) (x : Nat) : Nat × Nat :=
 ((p.1 + x + p.2) % 4294967296, rotl7 ((p.2 + x + (p.1 + x + p.2) % 4294967296) % 4294967296))
def grp (a b c d : UInt8) : Nat := a.toNat * 16777216 + b.toNat * 65536 + c.toNat * 256 + d.toNat
def groups : List UInt8 → List Nat
 | a :: b :: c :: d :: r => grp a b c d :: groups r
 | [a, b, c] => [grp a b c 0]
 | [a, b] => [grp a b 0 0]
 | [a] => [grp a 0 0 0]
 | [] => []
def pairOf (n : Nat) : Nat × Nat := (n / 4294967296, n % 4294967296)
def ofPair (p : Nat × Nat) : Nat := p.1 * 4294967296 + p.2
def mixSum (n : Nat) (s : List UInt8) : Nat := ofPair ((groups s).foldl mstep (pairOf n))
def In32 (p : Nat × Nat) : Prop := p.1 < 4294967296 ∧ p.2 < 4294967296
theorem rotl7_lt {x : Nat} (h : x < 4294967296) : rotl7 x < 4294967296 := by unfold rotl7; omega
theorem mstep_in (p : Nat × Nat) (x : Nat) : In32 (mstep p x) := by
 refine ⟨?_, rotl7_lt ?_⟩ <;> exact Nat.mod_lt _ (by decide)
theorem pairOf_in {n : Nat} (h : n < 18446744073709551616) : In32 (pairOf n) := by
 unfold pairOf In32; simp only; omega
theorem fold_in (l : List Nat) (p : Nat × Nat) (h : In32 p) : In32 (l.foldl mstep p) := by
 induction l generalizing p with
 | nil => exact h
 | cons x l ih => exact ih _ (mstep_in p x)
theorem ofPair_lt {p : Nat × Nat} (h : In32 p) : ofPair p < 18446744073709551616 := by
 unfold In32 at h; unfold ofPair; omega
theorem mixSum_lt {n : Nat} (h : n < 18446744073709551616) (s : List UInt8) : mixSum n s < 18446744073709551616 :=
 ofPair_lt (fold_in _ _ (pairOf_in h))
theorem u8_lt (a : UInt8) : a.toNat < 256 := a.toNat_lt
theorem grp_lt (a b c d : UInt8) : grp a b c d < 4294967296 := by
 have := u8_lt a; have := u8_lt b; have := u8_lt c; have := u8_lt d
 unfold grp; omega
def mst (p : Nat × Nat) (s : List UInt8) : Nat → (Nat × Nat) × Nat
 | 0 => (p, 0)
 | k + 1 =>
  if k % 4 = 3 then (mstep (mst p s k).1 ((mst p s k).2 + (s.getD k 0).toNat * 2 ^ (24 - k % 4 * 8)), 0)
  else ((mst p s k).1, (mst p s k).2 + (s.getD k 0).toNat * 2 ^ (24 - k % 4 * 8))
theorem mst_succ (p : Nat × Nat) (s : List UInt8) (k : Nat) : mst p s (k + 1) =
 if k % 4 = 3 then (mstep (mst p s k).1 ((mst p s k).2 + (s.getD k 0).toNat * 2 ^ (24 - k % 4 * 8)), 0)
 else ((mst p s k).1, (mst p s k).2 + (s.getD k 0).toNat * 2 ^ (24 - k % 4 * 8)) := rfl
def mstEnd (p : Nat × Nat) (s : List UInt8) : Nat × Nat :=
 if s.length % 4 = 0 then (mst p s s.length).1 else mstep (mst p s s.length).1 (mst p s s.length).2
theorem mst_four (p : Nat × Nat) (a b c d : UInt8) (r : List UInt8) : mst p (a :: b :: c :: d :: r) 4 = (mstep p (grp a b c d), 0) := by
 have h3 : mst p (a :: b :: c :: d :: r) 3 = (p, 0 + a.toNat * 2 ^ 24 + b.toNat * 2 ^ 16 + c.toNat * 2 ^ 8) := rfl
 have : mst p (a :: b :: c :: d :: r) 4 = (mstep (mst p (a :: b :: c :: d :: r) 3).1 ((mst p (a :: b :: c :: d :: r) 3).2 + d.toNat * 2 ^ 0), 0) := rfl
 rw [this, h3]
 simp [grp]
theorem mst_shift (p : Nat × Nat) (a b c d : UInt8) (r : List UInt8) (k : Nat) : mst p (a :: b :: c :: d :: r) (k + 4) = mst (mstep p (grp a b c d)) r k := by
 induction k with
 | zero => exact mst_four p a b c d r
 | succ k ih =>
  have e : k + 1 + 4 = (k + 4) + 1 := by omega
  have e4 : (k + 4) % 4 = k % 4 := by omega
  have eg : (a :: b :: c :: d :: r).getD (k + 4) 0 = r.getD k 0 := by simp [List.getD]
  rw [e, mst_succ p _ (k + 4), mst_succ (mstep p (grp a b c d)) r k, ih, e4, eg]
theorem mstEnd_eq : ∀ (s : List UInt8) (p : Nat × Nat), mstEnd p s = (groups s).foldl mstep p
 | a :: b :: c :: d :: r, p => by
  have ih := mstEnd_eq r (mstep p (grp a b c d))
  rw [groups, List.foldl_cons, ← ih]
  unfold mstEnd
  simp only [List.length_cons]
  rw [mst_shift, show (r.length + 1 + 1 + 1 + 1) % 4 = r.length % 4 by omega]
 | [a, b, c], p => by simp [mstEnd, mst, groups, grp]
 | [a, b], p => by simp [mstEnd, mst, groups, grp]
 | [a], p => by simp [mstEnd, mst, groups, grp]
 | [], p => by simp [mstEnd, mst, groups]
theorem mst_in (p : Nat × Nat) (s : List UInt8) (hp : In32 p) (k : Nat) : In32 (mst p s k).1 := by
 induction k with
 | zero => exact hp
 | succ k ih => rw [mst]; split <;> first | exact mstep_in _ _ | exact ih
theorem mst_grp (p : Nat × Nat) (s : List UInt8) (k : Nat) : (mst p s k).2 % 2 ^ (32 - k % 4 * 8) = 0 ∧ (mst p s k).2 < 4294967296 := by
 induction k with
 | zero => exact ⟨by simp [mst], by simp [mst]⟩
 | succ k ih =>
  obtain ⟨h1, h2⟩ := ih
  have hb := u8_lt (s.getD k 0)
  rw [mst]
  have h4 : k % 4 = 0 ∨ k % 4 = 1 ∨ k % 4 = 2 ∨ k % 4 = 3 := by omega
  rcases h4 with h4 | h4 | h4 | h4
  · have h4' : (k + 1) % 4 = 1 := by omega
    rw [h4] at h1
    rw [if_neg (by omega), h4', h4]
    simp only [Nat.reduceMul, Nat.reduceSub, Nat.reducePow] at h1 ⊢
    omega
  · have h4' : (k + 1) % 4 = 2 := by omega
    rw [h4] at h1
    rw [if_neg (by omega), h4', h4]
    simp only [Nat.reduceMul, Nat.reduceSub, Nat.reducePow] at h1 ⊢
    omega
  · have h4' : (k + 1) % 4 = 3 := by omega
    rw [h4] at h1
    rw [if_neg (by omega), h4', h4]
    simp only [Nat.reduceMul, Nat.reduceSub, Nat.reducePow] at h1 ⊢
    omega
  · rw [if_pos h4]
    simp
theorem or_at (g b r : Nat) (hr : r < 4) (h1 : g % 2 ^ (32 - r * 8) = 0) (hb : b < 256) : g ||| b * 2 ^ (24 - r * 8) = g + b * 2 ^ (24 - r * 8) := by
 apply nat_join (32 - r * 8) _ _ h1
 have h4 : r = 0 ∨ r = 1 ∨ r = 2 ∨ r = 3 := by omega
 rcases h4 with h4 | h4 | h4 | h4 <;> subst h4 <;> simp only [Nat.reduceMul, Nat.reduceSub, Nat.reducePow] <;> omega
def byteAt (l : List UInt8) (i : Nat) : Nat := (l.getD i 0).toNat
theorem byteAt_lt (l : List UInt8) (i : Nat) : byteAt l i < 256 := u8_lt _
def grpAt (l : List UInt8) (j : Nat) : Nat := byteAt l j * 16777216 + byteAt l (j + 1) * 65536 + byteAt l (j + 2) * 256 + byteAt l (j + 3)
theorem grpAt_lt (l : List UInt8) (j : Nat) : grpAt l j < 4294967296 := grp_lt _ _ _ _
theorem groups_drop (l : List UInt8) (j : Nat) (h : j < l.length) : groups (l.drop j) = grpAt l j :: groups (l.drop (j + 4)) := by
 show _ = grp (l.getD j 0) (l.getD (j + 1) 0) (l.getD (j + 2) 0) (l.getD (j + 3) 0) :: groups (l.drop (j + 4))
 have e : ∀ i, l.getD (j + i) 0 = (l.drop j).getD i 0 := by intro i; simp [List.getD, List.getElem?_drop]
 have e0 := e 0
 rw [Nat.add_zero] at e0
 rw [e0, e 1, e 2, e 3, show l.drop (j + 4) = (l.drop j).drop 4 by rw [List.drop_drop]]
 have hl : 0 < (l.drop j).length := by rw [List.length_drop]; omega
 generalize l.drop j = m at hl
 match m, hl with
 | a :: b :: c :: d :: r, _ => rfl
 | [a, b, c], _ => rfl
 | [a, b], _ => rfl
 | [a], _ => rfl
end Go.Proofs.YtcojbjakopkfbaaGreat
