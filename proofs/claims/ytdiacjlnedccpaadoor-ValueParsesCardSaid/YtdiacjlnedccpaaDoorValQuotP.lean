/- How a quoted text is read. No program in sight. -/
import Derived.Test.YtdiacjlnedccpaaDoorValSpec
import Derived.Lib.Bytealg
namespace Go.Proofs.YtdiacjlnedccpaaDoor
def hexI (c : UInt8) : Int := Lib.indexByte hexL c
def comb (a b : UInt8) : UInt8 := UInt8.ofNat (16 * hexI a + hexI b).toNat
theorem hexI_rng (c : UInt8) : -1 ≤ hexI c ∧ hexI c < 16 := by
  have h : ∀ n : Fin 256, -1 ≤ hexI (UInt8.ofNat n.val) ∧ hexI (UInt8.ofNat n.val) < 16 := by decide +kernel
  have := h ⟨c.toNat, c.toNat_lt⟩
  have e : UInt8.ofNat c.toNat = c := by simp
  rwa [e] at this
def quot : Nat → List UInt8 → UR
  | _, [] => .bad 4
  | k, c :: r =>
    if c = 39 then
      match r with
      | [] => ⟨[], 1, 0⟩
      | b :: t => if b = 39 then (if k = 2000 then .bad 4 else (quot (k + 1) t).pre [39] 2) else ⟨[], 1, 0⟩
    else if c = 92 then
      match r with
      | [] => .bad 4
      | [_] => .bad 4
      | a :: b :: t => if hexI a < 0 ∨ hexI b < 0 then .bad 4 else if oddB (comb a b) = true then (if k = 2000 then .bad 4 else (quot (k + 1) t).pre [comb a b] 3) else .bad 4
    else if oddB c = true then .bad 4 else if k = 2000 then .bad 4 else (quot (k + 1) r).pre [c] 1
abbrev QH (l d : List UInt8) (i : Nat) : Prop := quot 0 l = (quot d.length (l.drop i)).pre d i
section
variable {l d : List UInt8} {i : Nat}
theorem q_none (hk : QH l d i) (hi : l.length ≤ i) : quot 0 l = .bad 4 := by
  unfold QH at hk
  rw [hk, List.drop_of_length_le hi]; exact UR.pre_bad _ _ (by decide)
theorem q_39 {k : Nat} {r : List UInt8} : quot k (39 :: r) = match r with
      | [] => ⟨[], 1, 0⟩
      | b :: t => if b = 39 then (if k = 2000 then .bad 4 else (quot (k + 1) t).pre [39] 2) else ⟨[], 1, 0⟩ := by
  rw [quot.eq_def]; rfl
theorem q_92 {k : Nat} {a b : UInt8} {t : List UInt8} : quot k (92 :: a :: b :: t) = if hexI a < 0 ∨ hexI b < 0 then .bad 4 else if oddB (comb a b) = true then (if k = 2000 then .bad 4 else (quot (k + 1) t).pre [comb a b] 3) else .bad 4 := by
  rw [quot.eq_def]; rfl
theorem q_oth {k : Nat} {c : UInt8} {r : List UInt8} (h1 : c ≠ 39) (h2 : c ≠ 92) : quot k (c :: r) = if oddB c = true then .bad 4 else if k = 2000 then .bad 4 else (quot (k + 1) r).pre [c] 1 := by
  rw [quot.eq_def]; dsimp only; rw [if_neg h1, if_neg h2]
theorem q_close (hk : QH l d i) (hi : i < l.length) (h : l.getD i 0 = 39) (hp : Lib.hasPrefix (l.drop (i + 1)) [39] = false) : quot 0 l = ⟨d, i + 1, 0⟩ := by
  unfold QH at hk
  rw [hk, drop_getD hi, h, q_39]
  cases ht : l.drop (i + 1) with
  | nil => simp [UR.pre]
  | cons b t =>
    have : b ≠ 39 := fun e => by rw [ht, pre1.2 ⟨t, by rw [e]⟩] at hp; cases hp
    dsimp only; rw [if_neg this]; simp [UR.pre]
theorem q_two (hk : QH l d i) (hi : i < l.length) (h : l.getD i 0 = 39) (hp : Lib.hasPrefix (l.drop (i + 1)) [39] = true) :
    i + 2 ≤ l.length ∧ (d.length = 2000 → quot 0 l = .bad 4) ∧ (d.length ≠ 2000 → QH l (d ++ [39]) (i + 2)) := by
  obtain ⟨t, ht⟩ := pre1.1 hp
  have hl : i + 2 ≤ l.length := by have := congrArg List.length ht; simp at this; omega
  have e2 := drop_getD (l := l) (i := i + 1) (by omega)
  have ht2 : t = l.drop (i + 2) := by rw [e2] at ht; injection ht with _ h; exact h.symm
  unfold QH at hk ⊢
  refine ⟨hl, fun hd => ?_, fun hd => ?_⟩
  · rw [hk, drop_getD hi, h, q_39, ht]; dsimp only; rw [if_pos rfl, if_pos hd]; exact UR.pre_bad _ _ (by decide)
  · rw [hk, drop_getD hi, h, q_39, ht]; dsimp only; rw [if_pos rfl, if_neg hd, UR.pre_pre, List.length_append, ht2]; rfl
theorem q_short (hk : QH l d i) (hi : i < l.length) (h : l.getD i 0 = 92) (hl : l.length < i + 3) : quot 0 l = .bad 4 := by
  unfold QH at hk
  rw [hk, drop_getD hi, h]
  have hlen : (l.drop (i + 1)).length < 2 := by rw [List.length_drop]; omega
  cases ht : l.drop (i + 1) with
  | nil => exact UR.pre_bad _ _ (by decide)
  | cons a t =>
    cases t with
    | nil => exact UR.pre_bad _ _ (by decide)
    | cons b t => rw [ht] at hlen; simp at hlen; omega
theorem q_drop3 (hl : i + 3 ≤ l.length) : l.drop i = l.getD i 0 :: l.getD (i + 1) 0 :: l.getD (i + 2) 0 :: l.drop (i + 3) := by
  rw [drop_getD (l := l) (i := i) (by omega), drop_getD (l := l) (i := i + 1) (by omega), drop_getD (l := l) (i := i + 2) (by omega)]
theorem q_hexbad (hk : QH l d i) (hl : i + 3 ≤ l.length) (h : l.getD i 0 = 92) (hb : hexI (l.getD (i + 1) 0) < 0 ∨ hexI (l.getD (i + 2) 0) < 0) : quot 0 l = .bad 4 := by
  unfold QH at hk
  rw [hk, q_drop3 hl, h, q_92, if_pos hb]; exact UR.pre_bad _ _ (by decide)
theorem q_notodd (hk : QH l d i) (hl : i + 3 ≤ l.length) (h : l.getD i 0 = 92) (h1 : ¬ (hexI (l.getD (i + 1) 0) < 0 ∨ hexI (l.getD (i + 2) 0) < 0)) (ho : oddB (comb (l.getD (i + 1) 0) (l.getD (i + 2) 0)) = false) : quot 0 l = .bad 4 := by
  unfold QH at hk
  rw [hk, q_drop3 hl, h, q_92, if_neg h1, if_neg (by rw [ho]; decide)]; exact UR.pre_bad _ _ (by decide)
theorem q_hex (hk : QH l d i) (hl : i + 3 ≤ l.length) (h : l.getD i 0 = 92) (h1 : ¬ (hexI (l.getD (i + 1) 0) < 0 ∨ hexI (l.getD (i + 2) 0) < 0)) (ho : oddB (comb (l.getD (i + 1) 0) (l.getD (i + 2) 0)) = true) :
    (d.length = 2000 → quot 0 l = .bad 4) ∧ (d.length ≠ 2000 → QH l (d ++ [comb (l.getD (i + 1) 0) (l.getD (i + 2) 0)]) (i + 3)) := by
  unfold QH at hk ⊢
  refine ⟨fun hd => ?_, fun hd => ?_⟩
  · rw [hk, q_drop3 hl, h, q_92, if_neg h1, if_pos ho, if_pos hd]; exact UR.pre_bad _ _ (by decide)
  · rw [hk, q_drop3 hl, h, q_92, if_neg h1, if_pos ho, if_neg hd, UR.pre_pre, List.length_append]; rfl
theorem q_oddb (hk : QH l d i) (hi : i < l.length) (h1 : l.getD i 0 ≠ 39) (h2 : l.getD i 0 ≠ 92) (ho : oddB (l.getD i 0) = true) : quot 0 l = .bad 4 := by
  unfold QH at hk
  rw [hk, drop_getD hi, q_oth h1 h2, if_pos ho]; exact UR.pre_bad _ _ (by decide)
theorem q_plain (hk : QH l d i) (hi : i < l.length) (h1 : l.getD i 0 ≠ 39) (h2 : l.getD i 0 ≠ 92) (ho : oddB (l.getD i 0) = false) :
    (d.length = 2000 → quot 0 l = .bad 4) ∧ (d.length ≠ 2000 → QH l (d ++ [l.getD i 0]) (i + 1)) := by
  unfold QH at hk ⊢
  refine ⟨fun hd => ?_, fun hd => ?_⟩
  · rw [hk, drop_getD hi, q_oth h1 h2, if_neg (by rw [ho]; decide), if_pos hd]; exact UR.pre_bad _ _ (by decide)
  · rw [hk, drop_getD hi, q_oth h1 h2, if_neg (by rw [ho]; decide), if_neg hd, UR.pre_pre, List.length_append]; rfl
theorem q_start : QH l [] 0 := by unfold QH; rw [UR.pre_nil, List.drop_zero]; rfl
end
end Go.Proofs.YtdiacjlnedccpaaDoor
