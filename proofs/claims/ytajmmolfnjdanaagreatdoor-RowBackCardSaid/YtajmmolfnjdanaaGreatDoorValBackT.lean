/- Texts of values are read again as the values. No program in sight. -/
import Derived.Test.YtajmmolfnjdanaaGreatDoorValDec
import Derived.Test.YtajmmolfnjdanaaGreatDoorValParse
import Derived.Test.YtajmmolfnjdanaaGreatDoorValBackK
namespace Go.Proofs.YtajmmolfnjdanaaGreatDoor
open Go.RowKit
set_option linter.unusedSimpArgs false
set_option linter.unusedVariables false
theorem byte_self (c : UInt8) : UInt8.ofNat c.toNat = c := by simp
theorem esc_hex (c : UInt8) (ho : oddB c = true) : ¬ (hexI (hexL.getD (c.toNat / 16) 0) < 0 ∨ hexI (hexL.getD (c.toNat % 16) 0) < 0) ∧ comb (hexL.getD (c.toNat / 16) 0) (hexL.getD (c.toNat % 16) 0) = c := by
  have h : ∀ n : Fin 256, oddB (UInt8.ofNat n.val) = true → ¬ (hexI (hexL.getD (n.val / 16) 0) < 0 ∨ hexI (hexL.getD (n.val % 16) 0) < 0) ∧ comb (hexL.getD (n.val / 16) 0) (hexL.getD (n.val % 16) 0) = UInt8.ofNat n.val := by decide +kernel
  have := h ⟨c.toNat, u8_lt c⟩
  dsimp only at this
  rw [byte_self] at this
  exact this ho
theorem hex_back {a : UInt8} (h : 0 ≤ hexI a) : hexL.getD (hexI a).toNat 0 = a := by
  have g : ∀ n : Fin 256, 0 ≤ hexI (UInt8.ofNat n.val) → hexL.getD (hexI (UInt8.ofNat n.val)).toNat 0 = UInt8.ofNat n.val := by decide +kernel
  have := g ⟨a.toNat, u8_lt a⟩
  dsimp only at this
  rw [byte_self] at this
  exact this h
theorem esc_comb {a b : UInt8} (h : ¬ (hexI a < 0 ∨ hexI b < 0)) (ho : oddB (comb a b) = true) : escB (comb a b) = [92, a, b] := by
  have ra := hexI_rng a; have rb := hexI_rng b
  have e : (comb a b).toNat = 16 * (hexI a).toNat + (hexI b).toNat := by
    unfold comb; rw [UInt8.toNat_ofNat']; omega
  rw [esc_odd ho, e, show (16 * (hexI a).toNat + (hexI b).toNat) / 16 = (hexI a).toNat by omega, show (16 * (hexI a).toNat + (hexI b).toNat) % 16 = (hexI b).toNat by omega, hex_back (by omega), hex_back (by omega)]
theorem odd_92 : oddB 92 = true := by decide
theorem odd_39 : oddB 39 = false := by decide
theorem esc_39 : escB 39 = [39, 39] := by decide
theorem quot_fin {k : Nat} {t : List UInt8} (ht : ∀ r, t ≠ 39 :: r) : quot k (39 :: t) = ⟨[], 1, 0⟩ := by
  rw [q_39]
  cases t with
  | nil => rfl
  | cons b r => dsimp only; rw [if_neg (fun e => ht r (by rw [e]))]
theorem quot_text : ∀ (d : List UInt8) (k : Nat) (t : List UInt8), (∀ r, t ≠ 39 :: r) → k + d.length ≤ 2000 → quot k (d.flatMap escB ++ 39 :: t) = ⟨d, (d.flatMap escB).length + 1, 0⟩
  | [], k, t, ht, _ => quot_fin ht
  | b :: d, k, t, ht, h => by
    simp only [List.length_cons] at h
    have ih := quot_text d (k + 1) t ht (by omega)
    rw [List.flatMap_cons, List.append_assoc]
    by_cases ho : oddB b = true
    · have hx := esc_hex b ho
      rw [esc_odd ho]
      show quot k (92 :: _ :: _ :: (d.flatMap escB ++ 39 :: t)) = _
      rw [q_92, if_neg hx.1, hx.2, if_pos ho, if_neg (by omega), ih, UR.pre_at rfl]
      simp only [List.length_append, List.length_cons, List.length_nil, List.cons_append, List.nil_append]
      congr 1; omega
    · by_cases h39 : b = 39
      · subst h39
        rw [esc_39]
        show quot k (39 :: 39 :: (d.flatMap escB ++ 39 :: t)) = _
        rw [q_39]
        dsimp only
        rw [if_pos rfl, if_neg (by omega), ih, UR.pre_at rfl]
        simp only [List.length_append, List.length_cons, List.length_nil, List.cons_append, List.nil_append]
        congr 1; omega
      · have e : escB b = [b] := by unfold escB; rw [if_neg ho, if_neg h39]
        have h92 : b ≠ 92 := fun x => ho (by rw [x]; exact odd_92)
        rw [e]
        show quot k (b :: (d.flatMap escB ++ 39 :: t)) = _
        rw [q_oth h39 h92, if_neg ho, if_neg (by omega), ih, UR.pre_at rfl]
        simp only [List.length_append, List.length_cons, List.length_nil, List.cons_append, List.nil_append]
        congr 1; omega
/-- What was read of a quoted text. -/
structure QBk (k : Nat) (l : List UInt8) (z : UR) : Prop where
  t : l.take z.n = z.d.flatMap escB ++ [39]
  k : k + z.d.length ≤ 2000
  n : z.n ≤ l.length
theorem QBk.mk' {k j : Nat} {p l : List UInt8} {x : UInt8} {z : UR} (h : QBk (k + 1) l z) (hp : p = escB x) (hj : j = p.length) : QBk k (p ++ l) ⟨[x] ++ z.d, j + z.n, 0⟩ := by
  subst hp; subst hj
  refine ⟨?_, ?_, ?_⟩
  · show (escB x ++ l).take ((escB x).length + z.n) = _
    rw [List.take_length_add_append, h.t]; simp
  · have := h.k; simp only [List.length_append, List.length_cons, List.length_nil]; omega
  · have := h.n; simp only [List.length_append]; omega
theorem quot_back (k : Nat) (l : List UInt8) (hk : k ≤ 2000) (h : (quot k l).e = 0) : QBk k l (quot k l) := by
  fun_induction quot k l
  all_goals first
    | (exfalso; revert h; decide)
    | exact ⟨rfl, by simpa using hk, by simp⟩
    | skip
  all_goals first
    | (rename_i ih; rw [UR.pre_e] at h; have q := ih (by omega) h; rw [UR.pre_at h]; first | exact q.mk' (p := [39, 39]) esc_39.symm rfl | exact q.mk' (p := [92, _, _]) (esc_comb ‹_› ‹_›).symm rfl | exact q.mk' (p := [_]) (by unfold escB; rw [if_neg ‹_›, if_neg ‹_›]) rfl)
    | trace_state
theorem quot_bad (k : Nat) (l : List UInt8) (h : (quot k l).e ≠ 0) : quot k l = .bad 4 := by
  fun_induction quot k l
  all_goals first
    | rfl
    | exact absurd rfl h
    | (rename_i ih; rw [UR.pre_e] at h; rw [ih h]; exact UR.pre_bad _ _ (by decide))
    | trace_state
theorem get_app {l x r : List UInt8} {c : UInt8} {F : Nat} (h : l.drop F = x ++ c :: r) : F + x.length < l.length ∧ l.getD (F + x.length) 0 = c := by
  have hl := congrArg List.length h
  rw [List.length_drop, List.length_append, List.length_cons] at hl
  refine ⟨by omega, ?_⟩
  have g := congrArg (fun l : List UInt8 => l[x.length]?) h
  rw [List.getElem?_drop, List.getElem?_append_right (Nat.le_refl _), Nat.sub_self] at g
  rw [List.getD_eq_getElem?_getD, g]; rfl
theorem dig_of {l : List UInt8} {i u : Nat} (hi : i < l.length) (hu : u < 10) (h : l.getD i 0 = UInt8.ofNat (48 + u)) : Dig l i ∧ dgt l i = u := by
  have := dg_nat hu
  refine ⟨⟨hi, by rw [h]; omega, by rw [h]; omega⟩, by unfold dgt; rw [h]; omega⟩
theorem ni_dd {l : List UInt8} {F : Nat} (hF : F = 0 ∨ F = 1) (hi : F ≤ l.length) (hp : l.take F = sg F) (N : Nat) : ∀ rest, l.drop F = Lib.decDigits N ++ rest → N + 1 ≤ 9223372036854775808 + F → NI l F (F + (Lib.decDigits N).length) N := by
  induction N using Nat.strongRecOn with
  | _ N ih =>
    intro rest hr hN
    by_cases h : N < 10
    · rw [dd_small h] at hr ⊢
      have g := get_app (x := []) hr
      have d : Dig l F ∧ dgt l F = N := dig_of g.1 h g.2
      have := ni_step (ni_start hF hi hp) d.1 (by omega) (by rw [d.2]; omega)
      rw [d.2, Nat.mul_zero, Nat.zero_add] at this
      exact this
    · have e := dd_big h
      rw [e, List.append_assoc] at hr
      have h0 := ih (N / 10) (by omega) _ hr (by omega)
      have g := get_app hr
      have d := dig_of g.1 (by omega) g.2
      have hz : ¬ (F + (Lib.decDigits (N / 10)).length = F + 1 ∧ l.getD F 0 = 48) := by
        rintro ⟨_, hz⟩
        obtain ⟨c, r, ec, hc, _⟩ := dd_head (N / 10)
        rw [ec] at hr
        have := get_app (x := []) hr
        exact hc (by omega) (this.2.symm.trans hz)
      have hm : 10 * (N / 10) + dgt l (F + (Lib.decDigits (N / 10)).length) = N := by rw [d.2]; omega
      have := ni_step h0 d.1 hz (by rw [hm]; exact hN)
      rw [hm] at this
      rw [e, List.length_append]; exact this
theorem hp_ne {c a : UInt8} {l p : List UInt8} (h : c ≠ a) : Lib.hasPrefix (c :: l) (a :: p) = false := by
  unfold Lib.hasPrefix; simp [List.isPrefixOf]; intro e; exact absurd e.symm h
theorem sg_head {F N : Nat} (hF : F = 0 ∨ F = 1) : ∃ c r, sg F ++ Lib.decDigits N = c :: r ∧ ((F = 1 ∧ c = 45) ∨ (F = 0 ∧ 48 ≤ c.toNat ∧ c.toNat ≤ 57)) := by
  rcases hF with rfl | rfl
  · obtain ⟨c, r, e, _, h⟩ := dd_head N
    exact ⟨c, r, e, .inr ⟨rfl, h⟩⟩
  · exact ⟨45, Lib.decDigits N, rfl, .inl ⟨rfl, rfl⟩⟩
theorem num_at {F N : Nat} (hF : F = 0 ∨ F = 1) (t : List UInt8) : numAt (sg F ++ Lib.decDigits N ++ t) = F := by
  obtain ⟨c, r, e, h⟩ := sg_head (N := N) hF
  rw [e]
  unfold numAt
  rcases h with ⟨rfl, rfl⟩ | ⟨rfl, h⟩
  · rw [if_pos (by unfold Lib.hasPrefix; simp [List.isPrefixOf])]
  · rw [if_neg]
    rw [List.cons_append, hp_ne (fun e => by rw [e] at h; revert h; decide)]; decide
theorem num_read {F N : Nat} (hF : F = 0 ∨ F = 1) (hz : ¬ (F = 1 ∧ N = 0)) (hN : N + 1 ≤ 9223372036854775808 + F) (t : List UInt8) : NumR (sg F ++ Lib.decDigits N ++ 41 :: t) (1, sI F N, ((sg F ++ Lib.decDigits N).length : Nat), 0) := by
  have hl := sg_len hF
  have hp : (sg F ++ Lib.decDigits N ++ 41 :: t).take F = sg F := by
    rw [List.append_assoc, List.take_append_of_le_length (by omega), List.take_of_length_le (by omega)]
  have hd : (sg F ++ Lib.decDigits N ++ 41 :: t).drop F = Lib.decDigits N ++ 41 :: t := by
    rw [List.append_assoc, List.drop_append_of_le_length (by omega), List.drop_of_length_le (by omega)]; rfl
  have h := ni_dd hF (by simp only [List.length_append]; omega) hp N _ hd hN
  have g := get_app hd
  have hs : ¬ Dig (sg F ++ Lib.decDigits N ++ 41 :: t) (F + (Lib.decDigits N).length) := by
    rintro ⟨_, h1, _⟩; rw [g.2] at h1; revert h1; decide
  have e := ni_stop h hs
  obtain ⟨c, r, ec, _⟩ := dd_head N
  have hne : F + (Lib.decDigits N).length ≠ F := by rw [ec]; simp only [List.length_cons]; omega
  refine ⟨sI F N, F + (Lib.decDigits N).length, ?_, .inr ⟨by omega, ?_⟩⟩
  · rw [num_at hF]; exact e.ok hne hz
  · rw [List.length_append, hl]
theorem itoa_form (n : Int) (h : -9223372036854775808 ≤ n ∧ n ≤ 9223372036854775807) : ∃ F N : Nat, (F = 0 ∨ F = 1) ∧ ¬ (F = 1 ∧ N = 0) ∧ N + 1 ≤ 9223372036854775808 + F ∧ n = sI F N ∧ Lib.itoa n = sg F ++ Lib.decDigits N := by
  by_cases hn : n < 0
  · have e : n = sI 1 n.natAbs := by unfold sI; rw [if_pos rfl]; omega
    exact ⟨1, n.natAbs, .inr rfl, by omega, by omega, e, by conv => lhs; rw [e]
                                                            exact itoa_sg (.inr rfl) (by omega)⟩
  · have e : n = sI 0 n.toNat := by unfold sI; rw [if_neg (by decide)]; omega
    exact ⟨0, n.toNat, .inl rfl, by omega, by omega, e, by conv => lhs; rw [e]
                                                           exact itoa_sg (.inl rfl) (by omega)⟩
/-- A number that was read. -/
def NBk (l : List UInt8) (b : Int) (a : Nat) : Prop := a = 0 ∨ (a ≤ l.length ∧ Lib.itoa b = l.take a ∧ -9223372036854775808 ≤ b ∧ b ≤ 9223372036854775807)
theorem num_back {l : List UInt8} {en : Nat} {b : Int} {a : Nat} {b' : Int} {a' : Nat} (h : NumD l en b a b' a') (h0 : NBk l b a) : NBk l b' a' := by
  induction h with
  | stop _ => exact h0
  | cut _ _ => exact h0
  | step hd h1 h2 _ ih => exact ih (.inr ⟨hd.1, h2, atoi_rng h1⟩)
def showL (v : Vl) : List UInt8 :=
  if v.1 = 0 then [110, 117, 108, 108] else if v.1 = 1 then Lib.itoa v.2.1 else if v.1 = 3 then 120 :: quoteL (bytesOf v.2.2) else quoteL (bytesOf v.2.2)
theorem ShowD.at {k n : Int} {s z : ByteArray} (h : ShowD k n s z) (ok : OkV (k, n, s)) : z = strOf (showL (k, n, s)) := by
  unfold showL
  dsimp only
  by_cases h0 : k = 0
  · rw [if_pos h0]; exact h.null ok h0
  rw [if_neg h0]
  by_cases h1 : k = 1
  · rw [if_pos h1]; exact h.int ok h1
  rw [if_neg h1]
  by_cases h3 : k = 3
  · rw [if_pos h3]; exact h.blob ok h3
  · rw [if_neg h3]
    refine h.text ok ?_
    have := ok_kind ok; dsimp only at this; omega
theorem QRes.at {t : ByteArray} {kd j : Int} {z : Res} {d : List UInt8} {n : Nat} (h : QRes t kd j z) (hq : quot 0 (bytesOf t) = ⟨d, n, 0⟩) : z = (kd, 0, strOf d, (n : Nat) + j, 0) := by
  obtain ⟨⟨q1, q2, q3, q4⟩, hd, h⟩ := h
  have e := hd.e; have ek := hd.k; have ed := hd.d; have em := hd.m
  rw [hq] at e ek ed em
  dsimp only at e ek ed em h
  rw [if_pos rfl] at ek
  subst e; subst ek; subst ed; subst em
  rcases h with ⟨_, rfl⟩ | ⟨x, _⟩
  · rfl
  · exact absurd rfl x
theorem trim_at {l p : List UInt8} {r : List UInt8} (h : l = p ++ r) : Lib.trimPrefix l p = r := by
  subst h
  unfold Lib.trimPrefix Lib.hasPrefix
  rw [if_pos]
  · rw [List.drop_left]
  · rw [List.isPrefixOf_iff_prefix]; exact ⟨r, rfl⟩
theorem hp_app (p r : List UInt8) : Lib.hasPrefix (p ++ r) p = true := by
  unfold Lib.hasPrefix; rw [List.isPrefixOf_iff_prefix]; exact ⟨r, rfl⟩
theorem parse_show {v : Vl} (ok : OkV v) (hi : In64 v) (t : List UInt8) {s : ByteArray} (hs : bytesOf s = showL v ++ 41 :: t) {z : Res} (h : ParD s z) : z = (v.1, v.2.1, v.2.2, (((showL v).length : Nat) : Int), 0) := by
  obtain ⟨k, n, x⟩ := v
  unfold showL at hs ⊢
  unfold In64 at hi
  dsimp only at *
  by_cases h0 : k = 0
  · rw [if_pos h0] at hs ⊢
    have := h.null (by rw [hs]; exact hp_app _ _)
    rw [this]
    subst h0
    rcases ok with ⟨_, h1, h2⟩ | ⟨h1, _⟩ | ⟨h1, _⟩
    · dsimp only at h1 h2
      have e : x = ⟨#[]⟩ := strEq_eq x ⟨#[]⟩ |>.1 (strEq_none.2 h2)
      rw [h1, e]; rfl
    · cases h1
    · rcases h1 with h1 | h1 <;> cases h1
  rw [if_neg h0] at hs ⊢
  by_cases h1 : k = 1
  · rw [if_pos h1] at hs ⊢
    obtain ⟨F, N, hF, hz, hN, hn, e⟩ := itoa_form n hi
    rw [e] at hs ⊢
    obtain ⟨c, r, ec, hc⟩ := sg_head (N := N) hF
    have hne : ∀ a : UInt8, a = 110 ∨ a = 39 ∨ a = 120 → c ≠ a := by
      rintro a ha rfl
      rcases hc with ⟨_, hc⟩ | ⟨_, hc⟩
      · rw [hc] at ha; revert ha; decide
      · rcases ha with rfl | rfl | rfl <;> (revert hc; decide)
    have hr := num_read hF hz hN t
    obtain ⟨y, hy, rfl⟩ := h.num (by rw [hs, ec]; exact hp_ne (hne _ (.inl rfl))) (by rw [hs, ec]; exact hp_ne (hne _ (.inr (.inl rfl)))) (by rw [hs, ec]; exact hp_ne (hne _ (.inr (.inr rfl))))
    rw [hs] at hy
    have ey := hy.uniq hr
    subst ey
    have hx : x = ⟨#[]⟩ := by
      rcases ok with ⟨h2, _⟩ | ⟨_, h2⟩ | ⟨h2, _⟩
      · exact absurd h2 h0
      · exact (strEq_eq x ⟨#[]⟩).1 (strEq_none.2 h2)
      · dsimp only at h2; omega
    rw [hx, h1, hn]
  rw [if_neg h1] at hs ⊢
  have hk : (k = 2 ∨ k = 3) ∧ n = 0 ∧ x.size ≤ 2000 := by
    rcases ok with ⟨h2, _⟩ | ⟨h2, _⟩ | h2
    · exact absurd h2 h0
    · exact absurd h2 h1
    · exact h2
  have hq := quot_text (bytesOf x) 0 (41 :: t) (fun r e => by injection e with e _; revert e; decide) (by rw [bytesOf_length]; omega)
  by_cases h3 : k = 3
  · rw [if_pos h3] at hs ⊢
    unfold quoteL at hs ⊢
    have e : bytesOf s = [120, 39] ++ ((bytesOf x).flatMap escB ++ 39 :: 41 :: t) := by rw [hs]; simp
    have hb := h.blob (by rw [e]; exact hp_ne (by decide)) (by rw [e]; exact hp_ne (by decide)) (by rw [e]; exact hp_app _ _)
    rw [trim_at e] at hb
    have := hb.at (by rw [bytesOf_strOf]; exact hq)
    rw [this, strOf_bytesOf, h3, hk.2.1]
    simp only [List.length_append, List.length_cons, List.length_nil]
    congr 4; omega
  · rw [if_neg h3] at hs ⊢
    unfold quoteL at hs ⊢
    have e : bytesOf s = [39] ++ ((bytesOf x).flatMap escB ++ 39 :: 41 :: t) := by rw [hs]; simp
    have hb := h.text (by rw [e]; exact hp_ne (by decide)) (by rw [e]; exact hp_app _ _)
    rw [trim_at e] at hb
    have := hb.at (by rw [bytesOf_strOf]; exact hq)
    have h2 : k = 2 := by omega
    rw [this, strOf_bytesOf, h2, hk.2.1]
    simp only [List.length_append, List.length_cons, List.length_nil]
    congr 4; omega
/-- What a text that was read is. -/
structure TB (s : ByteArray) (z : Res) : Prop where
  ok : OkV (z.1, z.2.1, z.2.2.1)
  i : In64 (z.1, z.2.1, z.2.2.1)
  t : ∃ m : Nat, z.2.2.2.1 = (m : Nat) ∧ 1 ≤ m ∧ m ≤ s.size ∧ showL (z.1, z.2.1, z.2.2.1) = (bytesOf s).take m
theorem hp_form {l p : List UInt8} (h : Lib.hasPrefix l p = true) : ∃ r, l = p ++ r := by
  unfold Lib.hasPrefix at h; rw [List.isPrefixOf_iff_prefix] at h; obtain ⟨r, h⟩ := h; exact ⟨r, h.symm⟩
theorem QRes.back {s : ByteArray} {p : List UInt8} {kd j : Int} {z : Res} (h : QRes (strOf (Lib.trimPrefix (bytesOf s) p)) kd j z) (hp : Lib.hasPrefix (bytesOf s) p = true) (hj : j = (p.length : Nat)) (hk : (kd = 2 ∧ p = [39]) ∨ (kd = 3 ∧ p = [120, 39])) :
    (z.2.2.2.2 = 0 → TB s z) ∧ (z.2.2.2.2 ≠ 0 → z = (0, 0, ⟨#[]⟩, 0, z.2.2.2.2)) := by
  obtain ⟨r, hr⟩ := hp_form hp
  rw [trim_at hr] at h
  obtain ⟨⟨q1, q2, q3, q4⟩, hd, h⟩ := h
  have e := hd.e; have ek := hd.k; have ed := hd.d; have em := hd.m
  rw [bytesOf_strOf] at e ek ed em
  dsimp only at e ek ed em h
  constructor
  · intro hz
    rcases h with ⟨h0, rfl⟩ | ⟨h0, rfl⟩
    · rw [e] at h0
      have hb := quot_back 0 r (by decide) h0
      rw [if_pos h0] at ek
      have hkd : kd = 2 ∨ kd = 3 := by rcases hk with ⟨h, _⟩ | ⟨h, _⟩; exact .inl h; exact .inr h
      have hl := congrArg List.length hr
      rw [bytesOf_length, List.length_append] at hl
      have hn := hb.n; have hkk := hb.k
      have hp1 : 1 ≤ p.length := by rcases hk with ⟨_, h⟩ | ⟨_, h⟩ <;> rw [h] <;> decide
      refine ⟨.inr (.inr ⟨by dsimp only; omega, rfl, by dsimp only; rw [ed, strOf_size]; omega⟩), ⟨by show (-9223372036854775808 : Int) ≤ 0; decide, by show (0 : Int) ≤ 9223372036854775807; decide⟩, (quot 0 r).n + p.length, by dsimp only; omega, by omega, by omega, ?_⟩
      unfold showL quoteL
      dsimp only
      rw [ek, if_neg (by omega), if_neg (by omega), ed, bytesOf_strOf, hr, Nat.add_comm, List.take_length_add_append, hb.t]
      rcases hk with ⟨h, h'⟩ | ⟨h, h'⟩
      · rw [if_neg (by omega), h']; simp
      · rw [if_pos h, h']; simp
    · exact absurd hz h0
  · intro hz
    rcases h with ⟨h0, rfl⟩ | ⟨h0, rfl⟩
    · exact absurd h0 hz
    · dsimp only at hz ⊢
      have hz' : (quot 0 r).e ≠ 0 := by rw [← e]; exact hz
      rw [if_neg hz', ] at ek
      have hb := quot_bad 0 r hz'
      rw [hb] at ed em
      rw [ek, ed, em]; rfl
theorem show_parse {s : ByteArray} {z : Res} (h : ParD s z) : (z.2.2.2.2 = 0 → TB s z) ∧ (z.2.2.2.2 ≠ 0 → z = (0, 0, ⟨#[]⟩, 0, z.2.2.2.2)) := by
  cases h1 : Lib.hasPrefix (bytesOf s) [110, 117, 108, 108] with
  | true =>
    have := h.null h1
    subst this
    obtain ⟨r, hr⟩ := hp_form h1
    have hl := congrArg List.length hr
    rw [bytesOf_length, List.length_append] at hl
    refine ⟨fun _ => ⟨.inl ⟨rfl, rfl, rfl⟩, ⟨by decide, by decide⟩, 4, rfl, by decide, by simp only [List.length_cons] at hl; omega, ?_⟩, fun x => absurd rfl x⟩
    rw [hr]; rfl
  | false =>
    cases h2 : Lib.hasPrefix (bytesOf s) [39] with
    | true => exact (h.text h1 h2).back h2 rfl (.inl ⟨rfl, rfl⟩)
    | false =>
      cases h3 : Lib.hasPrefix (bytesOf s) [120, 39] with
      | true => exact (h.blob h1 h2 h3).back h3 rfl (.inr ⟨rfl, rfl⟩)
      | false =>
        obtain ⟨y, ⟨b, a, hD, hy⟩, rfl⟩ := h.num h1 h2 h3
        rcases hy with ⟨_, rfl⟩ | ⟨ha, rfl⟩
        · exact ⟨fun x => absurd x (by decide), fun _ => rfl⟩
        · refine ⟨fun _ => ?_, fun x => absurd rfl x⟩
          rcases num_back hD (.inl rfl) with hb | ⟨hb1, hb2, hb3⟩
          · exact absurd hb ha
          · rw [bytesOf_length] at hb1
            exact ⟨.inr (.inl ⟨rfl, rfl⟩), hb3, a, rfl, by omega, hb1, hb2⟩
end Go.Proofs.YtajmmolfnjdanaaGreatDoor
