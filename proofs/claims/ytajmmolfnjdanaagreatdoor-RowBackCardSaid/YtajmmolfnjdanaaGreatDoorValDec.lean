/- Decimal digits, there and back; how a number is read, digit by digit. No program in sight. -/
import Derived.Test.YtajmmolfnjdanaaGreatDoorValParse
namespace Go.Proofs.YtajmmolfnjdanaaGreatDoor
open Go.RowKit
set_option linter.unusedSimpArgs false
set_option linter.unusedVariables false
def dval : List UInt8 → Nat → Nat
  | [], a => a
  | c :: r, a => dval r (a * 10 + (c.toNat - 48))
theorem dval_snoc (l : List UInt8) (c : UInt8) (a : Nat) : dval (l ++ [c]) a = dval l a * 10 + (c.toNat - 48) := by
  induction l generalizing a with
  | nil => rfl
  | cons x l ih => exact ih _
theorem dd_small {u : Nat} (h : u < 10) : Lib.decDigits u = [UInt8.ofNat (48 + u)] := Lib.decDigits_one h
theorem dd_big {u : Nat} (h : ¬ u < 10) : Lib.decDigits u = Lib.decDigits (u / 10) ++ [UInt8.ofNat (48 + u % 10)] := by rw [Lib.decDigits, dif_neg h]
theorem dg_nat {u : Nat} (h : u < 10) : (UInt8.ofNat (48 + u)).toNat = 48 + u := by rw [UInt8.toNat_ofNat']; omega
theorem dval_dd (u : Nat) : dval (Lib.decDigits u) 0 = u := by
  induction u using Nat.strongRecOn with
  | _ u ih =>
    by_cases h : u < 10
    · rw [dd_small h]
      show 0 * 10 + ((UInt8.ofNat (48 + u)).toNat - 48) = u
      rw [dg_nat h]; omega
    · rw [dd_big h, dval_snoc, ih _ (by omega), dg_nat (by omega)]; omega
theorem dd_inj {u v : Nat} (h : Lib.decDigits u = Lib.decDigits v) : u = v := by rw [← dval_dd u, h, dval_dd]
theorem dd_step {u d : Nat} (hu : 1 ≤ u) (hd : d < 10) : Lib.decDigits u ++ [UInt8.ofNat (48 + d)] = Lib.decDigits (10 * u + d) := by
  rw [dd_big (u := 10 * u + d) (by omega), show (10 * u + d) / 10 = u by omega, show (10 * u + d) % 10 = d by omega]
theorem dd_head (u : Nat) : ∃ c r, Lib.decDigits u = c :: r ∧ (1 ≤ u → c ≠ 48) ∧ (48 ≤ c.toNat ∧ c.toNat ≤ 57) := by
  induction u using Nat.strongRecOn with
  | _ u ih =>
    by_cases h : u < 10
    · refine ⟨_, [], dd_small h, fun hu e => ?_, by rw [dg_nat h]; omega⟩
      have := congrArg UInt8.toNat e
      rw [dg_nat h] at this
      have e48 : (48 : UInt8).toNat = 48 := rfl
      omega
    · obtain ⟨c, r, e, h1, h2⟩ := ih (u / 10) (by omega)
      exact ⟨c, r ++ [UInt8.ofNat (48 + u % 10)], by rw [dd_big h, e]; rfl, fun _ => h1 (by omega), h2⟩
theorem dd_zero : Lib.decDigits 0 = [48] := dd_small (by decide)
theorem parse_snoc (l : List UInt8) (c : UInt8) (acc v : Nat) (h : Lib.parseUint10 acc l = .ok v) : Lib.parseUint10 acc (l ++ [c]) = Lib.parseUint10 v [c] := by
  induction l generalizing acc with
  | nil => injection h with h; subst h; rfl
  | cons x l ih =>
    rw [List.cons_append]
    unfold Lib.parseUint10 at h
    conv => lhs; unfold Lib.parseUint10
    split at h
    · split at h
      · cases h
      · split at h
        · cases h
        · rename_i a b c'
          rw [if_pos a, if_neg b, if_neg c']
          exact ih _ h
    · cases h
theorem parse_one {v d : Nat} (hd : d < 10) (h : v * 10 + d < 18446744073709551616) : Lib.parseUint10 v [UInt8.ofNat (48 + d)] = .ok (v * 10 + d) := by
  unfold Lib.parseUint10
  rw [dg_nat hd, if_pos (by omega), if_neg (by omega), if_neg (by omega), show v * 10 + (48 + d - 48) = v * 10 + d by omega]
  rfl
theorem parse_dd (u : Nat) (hu : u < 18446744073709551616) : Lib.parseUint10 0 (Lib.decDigits u) = .ok u := by
  induction u using Nat.strongRecOn with
  | _ u ih =>
    by_cases h : u < 10
    · rw [dd_small h, parse_one h (by omega)]; congr 1; omega
    · rw [dd_big h, parse_snoc _ _ _ _ (ih (u / 10) (by omega) (by omega)), parse_one (by omega) (by omega)]; congr 1; omega
theorem mag_dd {u : Nat} (hu : u < 18446744073709551616) : Lib.parseMag (Lib.decDigits u) = .ok u := by
  unfold Lib.parseMag
  obtain ⟨c, r, e, _⟩ := dd_head u
  rw [if_neg (by rw [e]; simp), parse_dd u hu]
theorem atoi_pos {u : Nat} (hu : u < 9223372036854775808) : Lib.atoiAll (Lib.decDigits u) = .ok (u : Int) := by
  have hm := mag_dd (u := u) (by omega)
  obtain ⟨c, r, e, -, h1, h2⟩ := dd_head u
  rw [e] at hm ⊢
  unfold Lib.atoiAll
  dsimp only
  rw [if_neg (by omega), hm]
  dsimp only
  rw [if_neg (by omega), if_neg (by omega), if_neg (by omega)]
theorem atoi_neg {u : Nat} (hu : u ≤ 9223372036854775808) : Lib.atoiAll (45 :: Lib.decDigits u) = .ok (-(u : Int)) := by
  have e45 : (45 : UInt8).toNat = 45 := rfl
  unfold Lib.atoiAll
  dsimp only
  rw [if_pos (by omega), mag_dd (u := u) (by omega)]
  dsimp only
  rw [if_neg (by omega), if_neg (by omega), if_pos (by omega)]
theorem n01 : ¬ (0 : Nat) = 1 := by decide
def sg (F : Nat) : List UInt8 := if F = 1 then [45] else []
def sI (F : Nat) (N : Nat) : Int := if F = 1 then -(N : Int) else N
theorem itoa_sg {F N : Nat} (hF : F = 0 ∨ F = 1) (h : ¬ (F = 1 ∧ N = 0)) : Lib.itoa (sI F N) = sg F ++ Lib.decDigits N := by
  unfold Lib.itoa sI sg
  rcases hF with rfl | rfl
  · rw [if_neg n01, if_neg n01, if_neg (by omega)]; rfl
  · rw [if_pos (rfl : (1 : Nat) = 1), if_pos (rfl : (1 : Nat) = 1), if_pos (by omega), show (-(N : Int)).natAbs = N by omega]; rfl
theorem atoi_sg {F N : Nat} (hF : F = 0 ∨ F = 1) (h : N + 1 ≤ 9223372036854775808 + F) : Lib.atoiAll (sg F ++ Lib.decDigits N) = .ok (sI F N) := by
  unfold sI sg
  rcases hF with rfl | rfl
  · rw [if_neg n01, if_neg n01]; exact atoi_pos (by omega)
  · rw [if_pos (rfl : (1 : Nat) = 1), if_pos (rfl : (1 : Nat) = 1)]; exact atoi_neg (by omega)
/-- What itoa writes is the sign and the digits of the number, no other. -/
theorem itoa_is {F : Nat} (hF : F = 0 ∨ F = 1) {n : Int} {r : List UInt8} {c : UInt8} (hc : 48 ≤ c.toNat ∧ c.toNat ≤ 57) (h : Lib.itoa n = sg F ++ c :: r) : ∃ u : Nat, n = sI F u ∧ ¬ (F = 1 ∧ u = 0) ∧ Lib.decDigits u = c :: r := by
  have e45 : (45 : UInt8).toNat = 45 := rfl
  unfold Lib.itoa sg at h
  unfold sI
  rcases hF with rfl | rfl
  · rw [if_neg n01] at h
    by_cases hn : n < 0
    · rw [if_pos hn] at h
      injection h with h _
      rw [← h] at hc
      omega
    · rw [if_neg hn] at h
      exact ⟨n.toNat, by rw [if_neg n01]; omega, by omega, h⟩
  · rw [if_pos (rfl : (1 : Nat) = 1)] at h
    by_cases hn : n < 0
    · rw [if_pos hn] at h
      injection h with _ h
      exact ⟨n.natAbs, by rw [if_pos (rfl : (1 : Nat) = 1)]; omega, by omega, h⟩
    · rw [if_neg hn] at h
      obtain ⟨c', r', e, -, h1⟩ := dd_head n.toNat
      rw [e] at h
      injection h with h _
      rw [h] at h1
      omega
theorem NumD.uniq {l : List UInt8} {en : Nat} {b : Int} {a : Nat} {x x' : Int} {y y' : Nat} (h : NumD l en b a x y) (h' : NumD l en b a x' y') : x = x' ∧ y = y' := by
  induction h with
  | stop hd =>
    cases h' with
    | stop _ => exact ⟨rfl, rfl⟩
    | cut hd' _ => exact absurd hd' hd
    | step hd' _ _ _ => exact absurd hd' hd
  | cut hd hc =>
    cases h' with
    | stop hd' => exact absurd hd hd'
    | cut _ _ => exact ⟨rfl, rfl⟩
    | step _ h1 h2 _ => exact absurd ⟨h1, h2⟩ (hc _)
  | step hd h1 h2 _ ih =>
    cases h' with
    | stop hd' => exact absurd hd hd'
    | cut _ hc => exact absurd ⟨h1, h2⟩ (hc _)
    | step _ h1' _ h3 =>
      rw [h1] at h1'
      injection h1' with e
      subst e
      exact ih h3
theorem NumR.uniq {l : List UInt8} {y z : Int × Int × Int × Int} (h : NumR l y) (k : NumR l z) : y = z := by
  obtain ⟨b, a, h1, h2⟩ := h
  obtain ⟨b', a', k1, k2⟩ := k
  obtain ⟨rfl, rfl⟩ := h1.uniq k1
  rcases h2 with ⟨e, rfl⟩ | ⟨e, rfl⟩ <;> rcases k2 with ⟨e', rfl⟩ | ⟨e', rfl⟩ <;> first | rfl | exact absurd e e' | exact absurd e' e
section
variable {l : List UInt8} {F i N : Nat}
abbrev NHl (l : List UInt8) (F en : Nat) (best : Int) (a : Nat) : Prop := ∀ b' a', NumD l en best a b' a' → NumD l F 0 0 b' a'
def dgt (l : List UInt8) (i : Nat) : Nat := (l.getD i 0).toNat - 48
/-- How far a number is read: the digits from F to i spell N. -/
structure NI (l : List UInt8) (F i N : Nat) : Prop where
  f : F = 0 ∨ F = 1
  lo : F ≤ i
  hi : i ≤ l.length
  pre : l.take F = sg F
  st : (i = F ∧ N = 0 ∧ NHl l F F 0 0) ∨ (F < i ∧ l.take i = sg F ++ Lib.decDigits N ∧ N + 1 ≤ 9223372036854775808 + F ∧ ((F = 1 ∧ N = 0 ∧ NumD l F 0 0 0 0) ∨ (¬ (F = 1 ∧ N = 0) ∧ NHl l F i (sI F N) i)))
/-- How reading a number ends. -/
structure NE (l : List UInt8) (F i N : Nat) : Prop where
  no : i = F ∨ (F = 1 ∧ N = 0) → NumD l F 0 0 0 0
  ok : i ≠ F → ¬ (F = 1 ∧ N = 0) → NumD l F 0 0 (sI F N) i
theorem sg_len (hF : F = 0 ∨ F = 1) : (sg F).length = F := by rcases hF with rfl | rfl <;> rfl
theorem dig_get (hd : Dig l i) : l.take (i + 1) = l.take i ++ [UInt8.ofNat (48 + dgt l i)] ∧ dgt l i < 10 := by
  obtain ⟨h1, h2, h3⟩ := hd
  have e : UInt8.ofNat (48 + dgt l i) = l.getD i 0 := by
    unfold dgt
    rw [show 48 + ((l.getD i 0).toNat - 48) = (l.getD i 0).toNat by omega]; simp
  refine ⟨?_, by unfold dgt; omega⟩
  rw [e, List.take_add_one, List.getD_eq_getElem?_getD, List.getElem?_eq_getElem h1]; rfl
theorem nh_cut {b : Int} {a : Nat} (h : NHl l F i b a) (hd : Dig l i) (hn : ∀ n, Lib.atoiAll (l.take (i + 1)) = .ok n → Lib.itoa n = l.take (i + 1) → False) : NumD l F 0 0 b a :=
  h _ _ (.cut hd (fun n hh => hn n hh.1 hh.2))
/-- A number's own digits only. -/
theorem no_other {M : Nat} (hF : F = 0 ∨ F = 1) (ht : l.take (i + 1) = sg F ++ Lib.decDigits M) (hM : 9223372036854775808 + F ≤ M ∨ (F = 1 ∧ M = 0)) {n : Int} (h1 : Lib.atoiAll (l.take (i + 1)) = .ok n) (h2 : Lib.itoa n = l.take (i + 1)) : False := by
  obtain ⟨c, r, e, -, hc⟩ := dd_head M
  rw [ht, e] at h2
  obtain ⟨u, rfl, hu, hd⟩ := itoa_is hF hc h2
  rw [← e] at hd
  have := dd_inj hd
  subst this
  have hr := atoi_rng h1
  unfold sI at hr
  rcases hF with rfl | rfl
  · rw [if_neg (by decide)] at hr; omega
  · rw [if_pos rfl] at hr; omega
theorem NI.first (h : NI l F i N) (hi : F < i) (hN : N = 0) : i = F + 1 ∧ l.getD F 0 = 48 := by
  rcases h.st with ⟨e, _⟩ | ⟨_, ht, _⟩
  · omega
  · rw [hN, dd_zero] at ht
    have hl := congrArg List.length ht
    rw [List.length_take, List.length_append, sg_len h.f] at hl
    have := h.hi
    simp only [List.length_cons, List.length_nil] at hl
    have e : i = F + 1 := by omega
    refine ⟨e, ?_⟩
    subst e
    have g := congrArg (fun l : List UInt8 => l.getD F 0) ht
    have hf := sg_len h.f
    rw [List.getD_eq_getElem?_getD, List.getD_eq_getElem?_getD, List.getElem?_take, if_pos (by omega), List.getElem?_append_right (by omega), hf, Nat.sub_self] at g
    rw [List.getD_eq_getElem?_getD, g]; rfl
theorem NI.spells (h : NI l F i N) (hd : Dig l i) (hz : ¬ (i = F + 1 ∧ l.getD F 0 = 48)) : l.take (i + 1) = sg F ++ Lib.decDigits (10 * N + dgt l i) := by
  have g := dig_get hd
  rw [g.1]
  rcases h.st with ⟨e, hN, _⟩ | ⟨hlt, ht, _⟩
  · subst e; subst hN
    rw [h.pre, Nat.mul_zero, Nat.zero_add, dd_small g.2]
  · have hN : 1 ≤ N := by
      rcases Nat.eq_zero_or_pos N with e | e
      · exact absurd (h.first hlt e) hz
      · exact e
    rw [ht, List.append_assoc, dd_step hN g.2]
theorem ni_stop (h : NI l F i N) (hd : ¬ Dig l i) : NE l F i N := by
  rcases h.st with ⟨e, hN, hh⟩ | ⟨hlt, _, _, hh⟩
  · refine ⟨fun _ => hh _ _ (.stop (by rw [← e]; exact hd)), fun k => absurd e k⟩
  · rcases hh with ⟨f, hN, hh⟩ | ⟨f, hh⟩
    · exact ⟨fun _ => hh, fun _ k => absurd ⟨f, hN⟩ k⟩
    · exact ⟨fun k => by rcases k with k | k; omega; exact absurd k f, fun _ _ => hh _ _ (.stop hd)⟩
theorem ni_cut (h : NI l F i N) (hd : Dig l i) (hn : ∀ n, Lib.atoiAll (l.take (i + 1)) = .ok n → Lib.itoa n = l.take (i + 1) → False) : NE l F i N := by
  rcases h.st with ⟨e, hN, hh⟩ | ⟨hlt, _, _, hh⟩
  · subst e
    exact ⟨fun _ => nh_cut hh hd hn, fun k => absurd rfl k⟩
  · rcases hh with ⟨f, hN, hh⟩ | ⟨f, hh⟩
    · exact ⟨fun _ => hh, fun _ k => absurd ⟨f, hN⟩ k⟩
    · exact ⟨fun k => by rcases k with k | k; omega; exact absurd k f, fun _ _ => nh_cut hh hd hn⟩
theorem ni_zero (h : NI l F i N) (hd : Dig l i) (hi : i = F + 1) (hz : l.getD F 0 = 48) : NE l F i N := by
  refine ni_cut h hd (fun n h1 h2 => ?_)
  have hdF : Dig l F := ⟨by have := hd.1; omega, by rw [hz]; decide, by rw [hz]; decide⟩
  have g := dig_get hd
  have gF := dig_get hdF
  have e0 : UInt8.ofNat (48 + dgt l F) = 48 := by unfold dgt; rw [hz]; rfl
  rw [g.1, hi, gF.1, h.pre, e0, List.append_assoc] at h2
  obtain ⟨u, -, -, hu⟩ := itoa_is h.f (by decide) h2
  rcases Nat.eq_zero_or_pos u with e | e
  · subst e; rw [dd_zero] at hu; injection hu with _ hu; cases hu
  · obtain ⟨c, r, e', h3, _⟩ := dd_head u
    rw [e'] at hu
    injection hu with hu _
    exact h3 e hu
theorem ni_big (h : NI l F i N) (hd : Dig l i) (hz : ¬ (i = F + 1 ∧ l.getD F 0 = 48)) (hM : 9223372036854775808 + F ≤ 10 * N + dgt l i) : NE l F i N :=
  ni_cut h hd (fun n h1 h2 => no_other h.f (h.spells hd hz) (.inl hM) h1 h2)
theorem ni_step (h : NI l F i N) (hd : Dig l i) (hz : ¬ (i = F + 1 ∧ l.getD F 0 = 48)) (hM : 10 * N + dgt l i + 1 ≤ 9223372036854775808 + F) : NI l F (i + 1) (10 * N + dgt l i) := by
  have hs := h.spells hd hz
  have lo := h.lo
  refine ⟨h.f, by omega, hd.1, h.pre, .inr ⟨by omega, hs, hM, ?_⟩⟩
  have mk : ¬ (F = 1 ∧ 10 * N + dgt l i = 0) → ∀ b a, NHl l F i b a → NHl l F (i + 1) (sI F (10 * N + dgt l i)) (i + 1) := fun hz' b a hh b' a' x =>
    hh b' a' (.step hd (by rw [hs]; exact atoi_sg h.f hM) (by rw [hs]; exact itoa_sg h.f hz') x)
  by_cases hz' : F = 1 ∧ 10 * N + dgt l i = 0
  · refine .inl ⟨hz'.1, hz'.2, ?_⟩
    rcases h.st with ⟨e, hN, hh⟩ | ⟨hlt, ht, _, _⟩
    · subst e
      exact nh_cut hh hd (fun n h1 h2 => no_other h.f hs (.inr hz') h1 h2)
    · exact absurd (h.first hlt (by omega)) hz
  · refine .inr ⟨hz', ?_⟩
    rcases h.st with ⟨e, hN, hh⟩ | ⟨hlt, ht, _, hh⟩
    · subst e; exact mk hz' _ _ hh
    · rcases hh with ⟨f, hN, _⟩ | ⟨f, hh⟩
      · exact absurd (h.first hlt hN) hz
      · exact mk hz' _ _ hh
theorem ni_start (hF : F = 0 ∨ F = 1) (hi : F ≤ l.length) (hp : l.take F = sg F) : NI l F F 0 := ⟨hF, Nat.le_refl _, hi, hp, .inl ⟨rfl, rfl, fun _ _ x => x⟩⟩
end
end Go.Proofs.YtajmmolfnjdanaaGreatDoor
