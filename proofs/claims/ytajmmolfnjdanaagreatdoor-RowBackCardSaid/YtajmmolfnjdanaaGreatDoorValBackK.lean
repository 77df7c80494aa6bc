/- The keys of values: they stand as the values do, and are read again. No program in sight. -/
import Derived.Test.YtajmmolfnjdanaaGreatDoorValSpec
import Derived.Lib.Replace
import Derived.Lib.IndexBytes
namespace Go.Proofs.YtajmmolfnjdanaaGreatDoor
set_option linter.unusedSimpArgs false
set_option linter.unusedVariables false
def keyB (b : UInt8) : List UInt8 := if b = 0 then [0, 255] else [b]
def keyL (v : Vl) : List UInt8 :=
  if v.1 = 0 then [0] else if v.1 = 1 then 1 :: fixedL (v.2.1 + 9223372036854775808).toNat 8 else UInt8.ofNat v.1.toNat :: ((bytesOf v.2.2).flatMap keyB ++ [0, 1])
theorem index_cons_ne {b c : UInt8} (h : b ≠ c) (t : List UInt8) : Lib.index (b :: t) [c] = if Lib.index t [c] == -1 then -1 else Lib.index t [c] + 1 := by
  conv => lhs; unfold Lib.index
  rw [if_neg]
  simp [List.isPrefixOf]; exact fun e => h e.symm
theorem index_cons_eq (c : UInt8) (t : List UInt8) : Lib.index (c :: t) [c] = (0 : Nat) := by
  unfold Lib.index; rw [if_pos (by simp [List.isPrefixOf])]; rfl
theorem rep_eq (c : UInt8) (new t : List UInt8) : Lib.replaceK [c] new (Lib.count (c :: t) [c]) (c :: t) = new ++ Lib.replaceK [c] new (Lib.count t [c]) t := by
  rw [Lib.count_hit (by simp) (index_cons_eq c t), Nat.add_comm 1, Lib.replaceK_hit _ _ _ _ 0 (index_cons_eq c t)]
  rfl
theorem rep_ne {b c : UInt8} (h : b ≠ c) (new t : List UInt8) : Lib.replaceK [c] new (Lib.count (b :: t) [c]) (b :: t) = b :: Lib.replaceK [c] new (Lib.count t [c]) t := by
  have e := index_cons_ne h t
  by_cases hm : Lib.index t [c] = -1
  · rw [hm] at e
    have e' : Lib.index (b :: t) [c] = -1 := by rw [e]; rfl
    rw [Lib.count_miss e', Lib.count_miss hm]; rfl
  · have hge := Lib.index_ge t [c]
    obtain ⟨i, hi⟩ : ∃ i : Nat, Lib.index t [c] = i := ⟨(Lib.index t [c]).toNat, by omega⟩
    rw [if_neg (fun x => hm (beq_iff_eq.1 x)), hi] at e
    have e' : Lib.index (b :: t) [c] = (i + 1 : Nat) := by rw [e]; rfl
    rw [Lib.count_hit (by simp) e', Lib.count_hit (by simp) hi, Nat.add_comm 1, Lib.replaceK_hit _ _ _ _ _ e', Nat.add_comm 1, Lib.replaceK_hit _ _ _ _ _ hi]
    have d : ∀ n, (b :: t).drop (i + 1 + n) = t.drop (i + n) := fun n => by rw [show i + 1 + n = (i + n) + 1 by omega]; rfl
    rw [d]; rfl
theorem rep_key (l : List UInt8) : Lib.replaceAll l [0] [0, 255] = l.flatMap keyB := by
  unfold Lib.replaceAll Lib.replace Lib.replaceNum
  rw [if_neg (by decide), if_pos (.inl (by decide))]
  induction l with
  | nil => rfl
  | cons b t ih =>
    by_cases h : b = 0
    · subst h; rw [rep_eq, ih]; rfl
    · rw [rep_ne h, ih]; unfold keyB; simp [h]
theorem count_one (l : List UInt8) (c : UInt8) : Lib.count l [c] ≤ l.length := by
  induction l with
  | nil => rw [Lib.count_miss (by rfl)]; exact Nat.zero_le _
  | cons b t ih =>
    by_cases h : b = c
    · subst h
      rw [Lib.count_hit (by simp) (index_cons_eq b t)]
      show 1 + Lib.count t [b] ≤ t.length + 1
      omega
    · have e := index_cons_ne h t
      by_cases hm : Lib.index t [c] = -1
      · rw [hm] at e
        rw [Lib.count_miss (by rw [e]; rfl)]; exact Nat.zero_le _
      · have hge := Lib.index_ge t [c]
        obtain ⟨i, hi⟩ : ∃ i : Nat, Lib.index t [c] = i := ⟨(Lib.index t [c]).toNat, by omega⟩
        rw [if_neg (fun x => hm (beq_iff_eq.1 x)), hi] at e
        have e' : Lib.index (b :: t) [c] = (i + 1 : Nat) := by rw [e]; rfl
        rw [Lib.count_hit (by simp) hi] at ih
        rw [Lib.count_hit (by simp) e']
        have d : (b :: t).drop (i + 1 + [c].length) = t.drop (i + [c].length) := by rw [show i + 1 + [c].length = (i + [c].length) + 1 by omega]; rfl
        rw [d]; simp only [List.length_cons] at *; omega
/-- Less at a byte: whatever stands behind. -/
def SL (x y : List UInt8) : Prop := ∃ p c d x' y', x = p ++ c :: x' ∧ y = p ++ d :: y' ∧ c < d
theorem sl_cons (b : UInt8) {x y : List UInt8} (h : SL x y) : SL (b :: x) (b :: y) := by
  obtain ⟨p, c, d, x', y', rfl, rfl, h⟩ := h
  exact ⟨b :: p, c, d, x', y', rfl, rfl, h⟩
theorem sl_pre (q : List UInt8) {x y : List UInt8} (h : SL x y) : SL (q ++ x) (q ++ y) := by
  obtain ⟨p, c, d, x', y', rfl, rfl, h⟩ := h
  exact ⟨q ++ p, c, d, x', y', by simp, by simp, h⟩
theorem sl_head {c d : UInt8} (h : c < d) (x y : List UInt8) : SL (c :: x) (d :: y) := ⟨[], c, d, x, y, rfl, rfl, h⟩
theorem SL.lt {x y : List UInt8} (h : SL x y) (u v : List UInt8) : x ++ u < y ++ v := by
  obtain ⟨p, c, d, x', y', rfl, rfl, h⟩ := h
  rw [List.append_assoc, List.append_assoc]
  induction p with
  | nil => exact List.cons_lt_cons_iff.2 (.inl h)
  | cons b p ih => exact List.cons_lt_cons_iff.2 (.inr ⟨rfl, ih⟩)
theorem SL.not_pre {x y : List UInt8} (h : SL x y) : y.take x.length ≠ x ∧ x.take y.length ≠ y := by
  obtain ⟨p, c, d, x', y', rfl, rfl, h⟩ := h
  have hne : c ≠ d := fun e => by rw [e] at h; exact Nat.lt_irrefl _ (UInt8.lt_iff_toNat_lt.1 h)
  have g : ∀ (a b : UInt8) (u v : List UInt8) (n : Nat), a ≠ b → (p ++ a :: u).take n ≠ p ++ b :: v := by
    intro a b u v n hab e
    have hl := congrArg List.length e
    rw [List.length_take, List.length_append, List.length_append, List.length_cons, List.length_cons] at hl
    have := congrArg (fun l : List UInt8 => l[p.length]?) e
    rw [List.getElem?_take, if_pos (by omega), List.getElem?_append_right (Nat.le_refl _), List.getElem?_append_right (Nat.le_refl _), Nat.sub_self] at this
    exact hab (Option.some.inj this)
  exact ⟨g d c y' x' _ hne.symm, g c d x' y' _ hne⟩
theorem sl_fixed : ∀ (k a b : Nat), a % 256 ^ k < b % 256 ^ k → SL (fixedL a k) (fixedL b k) := by
  intro k a b h
  have e := fixedL_order k a b
  rw [decide_eq_true h, bytesLess_eq, decide_eq_true_eq] at e
  have hl : (fixedL a k).length = (fixedL b k).length := by rw [fixedL_length, fixedL_length]
  revert e hl
  generalize fixedL a k = x
  generalize fixedL b k = y
  intro e hl
  induction x generalizing y with
  | nil => cases y with
    | nil => exact absurd e (List.lt_irrefl _)
    | cons d y => cases hl
  | cons c x ih => cases y with
    | nil => cases hl
    | cons d y =>
      rcases List.cons_lt_cons_iff.1 e with e1 | ⟨e0, e1⟩
      · exact sl_head e1 _ _
      · subst e0; exact sl_cons c (ih y e1 (by simpa using hl))
theorem pos_byte {b : UInt8} (h : b ≠ 0) : (0 : UInt8) < b := by
  refine UInt8.lt_iff_toNat_lt.2 ?_
  have : b.toNat ≠ 0 := fun e => h (UInt8.toNat_inj.1 e)
  show 0 < b.toNat
  omega
theorem sl_text : ∀ {x y : List UInt8}, x < y → SL (x.flatMap keyB ++ [0, 1]) (y.flatMap keyB ++ [0, 1])
  | _, [], h => by cases h
  | [], b :: y, _ => by
    show SL [0, 1] ((keyB b ++ y.flatMap keyB) ++ [0, 1])
    unfold keyB
    split
    · exact sl_cons 0 (sl_head (by decide) _ _)
    · exact sl_head (pos_byte ‹_›) _ _
  | a :: x, b :: y, h => by
    rw [List.flatMap_cons, List.flatMap_cons, List.append_assoc, List.append_assoc]
    rcases List.cons_lt_cons_iff.1 h with h | ⟨h0, h1⟩
    · have hb : b ≠ 0 := fun e => by subst e; exact absurd (UInt8.lt_iff_toNat_lt.1 h) (Nat.not_lt_zero _)
      have eb : keyB b = [b] := by unfold keyB; rw [if_neg hb]
      rw [eb]
      by_cases ha : a = 0
      · have ea : keyB a = [0, 255] := by unfold keyB; rw [if_pos ha]
        rw [ea]; rw [ha] at h
        exact sl_head h _ _
      · have ea : keyB a = [a] := by unfold keyB; rw [if_neg ha]
        rw [ea]; exact sl_head h _ _
    · subst h0; exact sl_pre _ (sl_text h1)
def In64 (v : Vl) : Prop := -9223372036854775808 ≤ v.2.1 ∧ v.2.1 ≤ 9223372036854775807
theorem key_head (v : Vl) (h : OkV v) : ∃ r, keyL v = UInt8.ofNat v.1.toNat :: r := by
  unfold keyL
  rcases h with ⟨h, _⟩ | ⟨h, _⟩ | ⟨h, _⟩
  · rw [if_pos h, h]; exact ⟨_, rfl⟩
  · rw [if_neg (by omega), if_pos h, h]; exact ⟨_, rfl⟩
  · rw [if_neg (by omega), if_neg (by omega)]; exact ⟨_, rfl⟩
theorem ok_kind {v : Vl} (h : OkV v) : 0 ≤ v.1 ∧ v.1 ≤ 3 := by
  rcases h with ⟨h, _⟩ | ⟨h, _⟩ | ⟨h, _⟩ <;> omega
theorem key_sl {a b : Vl} (ha : OkV a) (hb : OkV b) (ia : In64 a) (ib : In64 b) (h : cmpV a b < 0) : SL (keyL a) (keyL b) := by
  have ka := ok_kind ha; have kb := ok_kind hb
  unfold cmpV at h
  by_cases hk : a.1 = b.1
  · have : cmpI a.1 b.1 = 0 := (ord_int.eq _ _).2 hk
    unfold orI at h
    rw [if_pos this] at h
    by_cases hn : a.2.1 = b.2.1
    · rw [if_pos ((ord_int.eq _ _).2 hn)] at h
      have hr := ord_str.rng a.2.2 b.2.2
      have hs := (strLt_lt _ _).1 (cmpS_lt.1 (show cmpS a.2.2 b.2.2 = -1 by omega))
      have hne : ∀ x y : ByteArray, x.size = 0 → y.size = 0 → ¬ bytesOf x < bytesOf y := fun x y hx hy e => by
        rw [List.eq_nil_of_length_eq_zero (l := bytesOf y) (by rw [bytesOf_length]; exact hy)] at e; exact List.not_lt_nil _ e
      unfold keyL
      rcases ha with ⟨h0, _, hz⟩ | ⟨h0, hz⟩ | ⟨h0, _, _⟩
      · rcases hb with ⟨h1, _, hz'⟩ | ⟨h1, hz'⟩ | ⟨h1, _, _⟩
        · exact absurd hs (hne _ _ hz hz')
        · omega
        · omega
      · rcases hb with ⟨h1, _, hz'⟩ | ⟨h1, hz'⟩ | ⟨h1, _, _⟩
        · omega
        · exact absurd hs (hne _ _ hz hz')
        · omega
      · rw [if_neg (by omega), if_neg (by omega), if_neg (by omega), if_neg (by omega), hk]
        exact sl_cons _ (sl_text hs)
    · have hc : cmpI a.2.1 b.2.1 ≠ 0 := fun e => hn ((ord_int.eq _ _).1 e)
      rw [if_neg hc] at h
      have hlt : a.2.1 < b.2.1 := by unfold cmpI at h; (repeat' split at h) <;> omega
      have h1 : a.1 = 1 := by
        rcases ha with ⟨h0, z, _⟩ | ⟨h0, _⟩ | ⟨h0, z, _⟩
        · rcases hb with ⟨h1, z', _⟩ | ⟨h1, _⟩ | ⟨h1, z', _⟩ <;> omega
        · exact h0
        · rcases hb with ⟨h1, z', _⟩ | ⟨h1, _⟩ | ⟨h1, z', _⟩ <;> omega
      unfold keyL
      rw [if_neg (by omega), if_pos h1, if_neg (by omega), if_pos (by omega)]
      refine sl_cons _ (sl_fixed _ _ _ ?_)
      have e : (256 : Nat) ^ 8 = 18446744073709551616 := by decide
      unfold In64 at ia ib
      rw [e, Nat.mod_eq_of_lt (by omega), Nat.mod_eq_of_lt (by omega)]
      omega
  · have hc : cmpI a.1 b.1 ≠ 0 := fun e => hk ((ord_int.eq _ _).1 e)
    unfold orI at h
    rw [if_neg hc] at h
    have hlt : a.1 < b.1 := by unfold cmpI at h; (repeat' split at h) <;> omega
    obtain ⟨ra, ea⟩ := key_head a ha
    obtain ⟨rb, eb⟩ := key_head b hb
    rw [ea, eb]
    refine sl_head (UInt8.lt_iff_toNat_lt.2 ?_) _ _
    rw [UInt8.toNat_ofNat', UInt8.toNat_ofNat']; omega
end Go.Proofs.YtajmmolfnjdanaaGreatDoor
namespace Go.Proofs.YtajmmolfnjdanaaGreatDoor
set_option linter.unusedSimpArgs false
set_option linter.unusedVariables false
theorem UR.pre_e (z : UR) (d : List UInt8) (k : Nat) : (z.pre d k).e = z.e := by
  unfold UR.pre; split
  · exact (‹z.e = 0›).symm
  · rfl
theorem UR.pre_at {z : UR} (h : z.e = 0) (d : List UInt8) (k : Nat) : z.pre d k = ⟨d ++ z.d, k + z.n, 0⟩ := by unfold UR.pre; rw [if_pos h]
theorem unesc_esc {k : Nat} {t : List UInt8} (hk : k ≠ 2000) : unesc k (0 :: 255 :: t) = (unesc (k + 1) t).pre [0] 2 := by simp [unesc, hk]
theorem unesc_fin {k : Nat} {t : List UInt8} : unesc k (0 :: 1 :: t) = ⟨[], 2, 0⟩ := by simp [unesc]
theorem unesc_text : ∀ (d : List UInt8) (k : Nat) (t : List UInt8), k + d.length ≤ 2000 → unesc k (d.flatMap keyB ++ [0, 1] ++ t) = ⟨d, (d.flatMap keyB).length + 2, 0⟩
  | [], k, t, _ => unesc_fin
  | b :: d, k, t, h => by
    simp only [List.length_cons] at h
    have ih := unesc_text d (k + 1) t (by omega)
    by_cases hb : b = 0
    · subst hb
      show unesc k (0 :: 255 :: (d.flatMap keyB ++ [0, 1] ++ t)) = _
      rw [unesc_esc (by omega), ih, UR.pre_at rfl]
      simp [keyB]; omega
    · have e : (b :: d).flatMap keyB ++ [0, 1] ++ t = b :: (d.flatMap keyB ++ [0, 1] ++ t) := by simp [keyB, hb]
      rw [e, unesc_ne hb, if_neg (by omega), ih, UR.pre_at rfl]
      simp [keyB, hb]; omega
/-- What was read of an escaped text. -/
structure UB (k : Nat) (l : List UInt8) (z : UR) : Prop where
  t : l.take z.n = z.d.flatMap keyB ++ [0, 1]
  k : k + z.d.length ≤ 2000
  n : z.n ≤ l.length
theorem unesc_back (k : Nat) (l : List UInt8) (hk : k ≤ 2000) (h : (unesc k l).e = 0) : UB k l (unesc k l) := by
  fun_induction unesc k l
  case case1 => cases h
  case case2 => cases h
  all_goals first
    | (exfalso; revert h; decide)
    | skip
  case case3 k t =>
    exact ⟨rfl, by simpa using hk, by simp⟩
  case case5 k t hk' _ ih =>
    rw [UR.pre_e] at h
    have := ih (by omega) h
    rw [UR.pre_at h]
    refine ⟨?_, ?_, ?_⟩
    · show (0 :: 255 :: t).take (2 + _) = _
      rw [Nat.add_comm 2]
      simp only [List.take_succ_cons, this.t]; rfl
    · have := this.k; simp only [List.length_append, List.length_cons, List.length_nil]; omega
    · have := this.n; simp only [List.length_cons]; omega
  case case8 k a r ha hk' ih =>
    rw [UR.pre_e] at h
    have := ih (by omega) h
    rw [UR.pre_at h]
    refine ⟨?_, ?_, ?_⟩
    · show (a :: r).take (1 + _) = _
      rw [Nat.add_comm 1]
      simp only [List.take_succ_cons, this.t, List.cons_append, List.nil_append, List.flatMap_cons]
      unfold keyB; rw [if_neg ha]; rfl
    · have := this.k; simp only [List.length_append, List.length_cons, List.length_nil]; omega
    · have := this.n; simp only [List.length_cons]; omega
theorem str_nil {s : ByteArray} (h : s.size = 0) : bytesOf s = [] := List.eq_nil_of_length_eq_zero (by rw [bytesOf_length]; exact h)
theorem unkey_key {v : Vl} (h : OkV v) (hi : In64 v) (t : List UInt8) : unkey (keyL v ++ t) = ⟨v.1, v.2.1, bytesOf v.2.2, (keyL v).length, 0⟩ := by
  obtain ⟨k, n, s⟩ := v
  unfold In64 at hi
  unfold keyL
  dsimp only at *
  rcases h with ⟨h0, h1, h2⟩ | ⟨h0, h1⟩ | ⟨h0, h1, h2⟩
  · dsimp only at h0 h1 h2
    subst h0; subst h1
    rw [if_pos rfl, str_nil h2]; rfl
  · dsimp only at h0 h1
    subst h0
    rw [if_neg (by decide), if_pos rfl, str_nil h1]
    have hl := fixedL_length (n + 9223372036854775808).toNat 8
    have e : ((1 :: fixedL (n + 9223372036854775808).toNat 8 ++ t).take 9).drop 1 = fixedL (n + 9223372036854775808).toNat 8 := by
      rw [List.cons_append, List.take_succ_cons, List.drop_succ_cons, List.drop_zero, List.take_append_of_le_length (by omega), List.take_of_length_le (by omega)]
    unfold unkey
    dsimp only [List.cons_append] at e ⊢
    rw [if_neg (by decide), if_pos (by decide), if_neg (by simp only [List.length_cons, List.length_append]; omega), e, fixedL_eight (by omega)]
    simp only [List.length_cons, hl]
    congr 1; omega
  · dsimp only at h0 h1 h2
    rw [if_neg (by omega), if_neg (by omega)]
    have e : (UInt8.ofNat k.toNat = 2 ∨ UInt8.ofNat k.toNat = 3) ∧ (((UInt8.ofNat k.toNat).toNat : Nat) : Int) = k := by rcases h0 with rfl | rfl <;> exact ⟨by decide, rfl⟩
    have ht := unesc_text (bytesOf s) 0 t (by rw [bytesOf_length]; omega)
    rw [List.cons_append]
    unfold unkey
    dsimp only
    rw [if_neg (by rcases e.1 with e | e <;> rw [e] <;> decide), if_neg (by rcases e.1 with e | e <;> rw [e] <;> decide), if_pos e.1, ht, e.2]
    dsimp only
    rw [if_pos rfl, h1]
    simp only [List.length_cons, List.length_append, List.length_nil]
/-- What a key that was read is. -/
structure KB (l : List UInt8) (r : KR) : Prop where
  ok : OkV (r.k, r.n, strOf r.d)
  i : In64 (r.k, r.n, strOf r.d)
  t : keyL (r.k, r.n, strOf r.d) = l.take r.m
  lo : 1 ≤ r.m
  hi : r.m ≤ l.length
theorem key_back {l : List UInt8} (h : (unkey l).e = 0) : KB l (unkey l) := by
  unfold unkey at *
  match l with
  | [] => exact absurd h (by decide)
  | a :: r =>
    dsimp only at *
    by_cases h0 : a = 0
    · rw [if_pos h0]; subst h0
      exact ⟨.inl ⟨rfl, rfl, rfl⟩, by constructor <;> decide, rfl, Nat.le_refl _, by simp⟩
    rw [if_neg h0] at *
    by_cases h1 : a = 1
    · rw [if_pos h1] at *
      by_cases h9 : (a :: r).length < 9
      · rw [if_pos h9] at h; exact absurd h (by decide)
      rw [if_neg h9] at *
      have hl : ((((a :: r).take 9).drop 1)).length = 8 := by rw [List.length_drop, List.length_take]; omega
      have hb := numOf_lt (((a :: r).take 9).drop 1)
      rw [hl] at hb
      have e : (256 : Nat) ^ 8 = 18446744073709551616 := by decide
      refine ⟨.inr (.inl ⟨rfl, rfl⟩), ⟨by dsimp only; omega, by dsimp only; omega⟩, ?_, by dsimp only; omega, by dsimp only; omega⟩
      unfold keyL
      dsimp only
      rw [if_neg (by decide), if_pos rfl, Int.sub_add_cancel, Int.toNat_natCast, fixedL_of_numOf hl, h1]
      rfl
    rw [if_neg h1] at *
    by_cases h2 : a = 2 ∨ a = 3
    · rw [if_pos h2] at *
      by_cases he : (unesc 0 r).e = 0
      · rw [if_pos he] at *
        have hu := unesc_back 0 r (by decide) he
        have hk : ((a.toNat : Nat) : Int) = 2 ∨ ((a.toNat : Nat) : Int) = 3 := by rcases h2 with rfl | rfl; exact .inl rfl; exact .inr rfl
        have hd := hu.k
        refine ⟨.inr (.inr ⟨hk, rfl, by dsimp only; rw [strOf_size]; omega⟩), ⟨by dsimp only; omega, by dsimp only; omega⟩, ?_, by dsimp only; omega, by have := hu.n; simp only [List.length_cons]; omega⟩
        unfold keyL
        dsimp only
        rw [if_neg (by omega), if_neg (by omega), bytesOf_strOf, Int.toNat_natCast, ← hu.t, List.take_succ_cons]
        congr 1; simp
      · rw [if_neg he] at h; exact absurd h he
    · rw [if_neg h2] at h; exact absurd h (by decide)
theorem key_bad {l : List UInt8} (h : (unkey l).e ≠ 0) : unkey l = .bad (unkey l).e := by
  unfold unkey at *
  match l with
  | [] => rfl
  | a :: r =>
    dsimp only at *
    by_cases h0 : a = 0
    · rw [if_pos h0] at h; exact absurd rfl h
    rw [if_neg h0] at *
    by_cases h1 : a = 1
    · rw [if_pos h1] at *
      by_cases h9 : (a :: r).length < 9
      · rw [if_pos h9]; rfl
      · rw [if_neg h9] at h; exact absurd rfl h
    rw [if_neg h1] at *
    by_cases h2 : a = 2 ∨ a = 3
    · rw [if_pos h2] at *
      by_cases he : (unesc 0 r).e = 0
      · rw [if_pos he] at h; exact absurd rfl h
      · rw [if_neg he]; rfl
    · rw [if_neg h2]; rfl
end Go.Proofs.YtajmmolfnjdanaaGreatDoor
