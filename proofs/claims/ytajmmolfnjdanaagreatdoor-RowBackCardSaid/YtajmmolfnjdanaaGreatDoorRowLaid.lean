/- Rows' texts there and back; the law's awake; the rows' variables. -/
import Derived.Test.YtajmmolfnjdanaaGreatDoorRowParse
import Derived.Test.YtajmmolfnjdanaaGreatDoorRowKey
import Derived.Test.YtajmmolfnjdanaaGreatDoorFrameS
import Derived.Test.YtajmmolfnjdanaaGreatDoorRows
import Derived.Stop.LaidErr
import Derived.Lib.LaidTab
import Derived.LaidMore
namespace Go.Proofs.YtajmmolfnjdanaaGreatDoor
open Go.RowKit
set_option linter.unusedSimpArgs false
set_option linter.unusedVariables false
theorem num_readG {F N : Nat} (hF : F = 0 ∨ F = 1) (hz : ¬ (F = 1 ∧ N = 0)) (hN : N + 1 ≤ 9223372036854775808 + F) {c0 : UInt8} (hc0 : c0 = 41 ∨ c0 = 44) (t : List UInt8) : NumR (sg F ++ Lib.decDigits N ++ c0 :: t) (1, sI F N, ((sg F ++ Lib.decDigits N).length : Nat), 0) := by
  have hl := sg_len hF
  have hp : (sg F ++ Lib.decDigits N ++ c0 :: t).take F = sg F := by
    rw [List.append_assoc, List.take_append_of_le_length (by omega), List.take_of_length_le (by omega)]
  have hd : (sg F ++ Lib.decDigits N ++ c0 :: t).drop F = Lib.decDigits N ++ c0 :: t := by
    rw [List.append_assoc, List.drop_append_of_le_length (by omega), List.drop_of_length_le (by omega)]; rfl
  have h := ni_dd hF (by simp only [List.length_append]; omega) hp N _ hd hN
  have g := get_app hd
  have hs : ¬ Dig (sg F ++ Lib.decDigits N ++ c0 :: t) (F + (Lib.decDigits N).length) := by
    rintro ⟨_, h1, _⟩; rw [g.2] at h1; rcases hc0 with rfl | rfl <;> (revert h1; decide)
  have e := ni_stop h hs
  obtain ⟨c, r, ec, _⟩ := dd_head N
  have hne : F + (Lib.decDigits N).length ≠ F := by rw [ec]; simp only [List.length_cons]; omega
  refine ⟨sI F N, F + (Lib.decDigits N).length, ?_, .inr ⟨by omega, ?_⟩⟩
  · rw [num_at hF]; exact e.ok hne hz
  · rw [List.length_append, hl]
theorem parse_showG {v : Vl} (ok : OkV v) (hi : In64 v) {c0 : UInt8} (hc0 : c0 = 41 ∨ c0 = 44) (t : List UInt8) {s : ByteArray} (hs : bytesOf s = showL v ++ c0 :: t) {z : Res} (h : ParD s z) : z = (v.1, v.2.1, v.2.2, (((showL v).length : Nat) : Int), 0) := by
  obtain ⟨k, n, x⟩ := v
  unfold showL at hs ⊢
  unfold In64 at hi
  dsimp only at *
  by_cases h0 : k = 0
  · rw [if_pos h0] at hs ⊢
    have := h.null (by rw [hs]; exact hp_app _ _)
    rw [this]
    subst h0
    rcases ok with ⟨_, h1, h2⟩ | ⟨h1, _⟩ | ⟨h1, _⟩
    · dsimp only at h1 h2
      have e : x = ⟨#[]⟩ := strEq_eq x ⟨#[]⟩ |>.1 (strEq_none.2 h2)
      rw [h1, e]; rfl
    · cases h1
    · rcases h1 with h1 | h1 <;> cases h1
  rw [if_neg h0] at hs ⊢
  by_cases h1 : k = 1
  · rw [if_pos h1] at hs ⊢
    obtain ⟨F, N, hF, hz, hN, hn, e⟩ := itoa_form n hi
    rw [e] at hs ⊢
    obtain ⟨c, r, ec, hc⟩ := sg_head (N := N) hF
    have hne : ∀ a : UInt8, a = 110 ∨ a = 39 ∨ a = 120 → c ≠ a := by
      rintro a ha rfl
      rcases hc with ⟨_, hc⟩ | ⟨_, hc⟩
      · rw [hc] at ha; revert ha; decide
      · rcases ha with rfl | rfl | rfl <;> (revert hc; decide)
    have hr := num_readG hF hz hN hc0 t
    obtain ⟨y, hy, rfl⟩ := h.num (by rw [hs, ec]; exact hp_ne (hne _ (.inl rfl))) (by rw [hs, ec]; exact hp_ne (hne _ (.inr (.inl rfl)))) (by rw [hs, ec]; exact hp_ne (hne _ (.inr (.inr rfl))))
    rw [hs] at hy
    have ey := hy.uniq hr
    subst ey
    have hx : x = ⟨#[]⟩ := by
      rcases ok with ⟨h2, _⟩ | ⟨_, h2⟩ | ⟨h2, _⟩
      · exact absurd h2 h0
      · exact (strEq_eq x ⟨#[]⟩).1 (strEq_none.2 h2)
      · dsimp only at h2; omega
    rw [hx, h1, hn]
  rw [if_neg h1] at hs ⊢
  have hk : (k = 2 ∨ k = 3) ∧ n = 0 ∧ x.size ≤ 2000 := by
    rcases ok with ⟨h2, _⟩ | ⟨h2, _⟩ | h2
    · exact absurd h2 h0
    · exact absurd h2 h1
    · exact h2
  have hq := quot_text (bytesOf x) 0 (c0 :: t) (fun r e => by injection e with e _; rcases hc0 with rfl | rfl <;> (revert e; decide)) (by rw [bytesOf_length]; omega)
  by_cases h3 : k = 3
  · rw [if_pos h3] at hs ⊢
    unfold quoteL at hs ⊢
    have e : bytesOf s = [120, 39] ++ ((bytesOf x).flatMap escB ++ 39 :: c0 :: t) := by rw [hs]; simp
    have hb := h.blob (by rw [e]; exact hp_ne (by decide)) (by rw [e]; exact hp_ne (by decide)) (by rw [e]; exact hp_app _ _)
    rw [trim_at e] at hb
    have := hb.at (by rw [bytesOf_strOf]; exact hq)
    rw [this, strOf_bytesOf, h3, hk.2.1]
    simp only [List.length_append, List.length_cons, List.length_nil]
    congr 4; omega
  · rw [if_neg h3] at hs ⊢
    unfold quoteL at hs ⊢
    have e : bytesOf s = [39] ++ ((bytesOf x).flatMap escB ++ 39 :: c0 :: t) := by rw [hs]; simp
    have hb := h.text (by rw [e]; exact hp_ne (by decide)) (by rw [e]; exact hp_app _ _)
    rw [trim_at e] at hb
    have := hb.at (by rw [bytesOf_strOf]; exact hq)
    have h2 : k = 2 := by omega
    rw [this, strOf_bytesOf, h2, hk.2.1]
    simp only [List.length_append, List.length_cons, List.length_nil]
    congr 4; omega
theorem numD_total (l : List UInt8) : ∀ (k en : Nat) (b : Int) (a : Nat), l.length ≤ en + k → ∃ b' a', NumD l en b a b' a'
  | 0, en, b, a, h => ⟨b, a, .stop (fun d => by have := d.1; omega)⟩
  | k + 1, en, b, a, h => by
    by_cases hd : Dig l en
    · by_cases hn : ∃ n, Lib.atoiAll (l.take (en + 1)) = .ok n ∧ Lib.itoa n = l.take (en + 1)
      · obtain ⟨n, h1, h2⟩ := hn
        obtain ⟨b', a', ih⟩ := numD_total l k (en + 1) n (en + 1) (by omega)
        exact ⟨b', a', .step hd h1 h2 ih⟩
      · exact ⟨b, a, .cut hd (fun n hh => hn ⟨n, hh⟩)⟩
    · exact ⟨b, a, .stop hd⟩
theorem numR_total (l : List UInt8) : ∃ y, NumR l y := by
  obtain ⟨b, a, h⟩ := numD_total l l.length (numAt l) 0 0 (by omega)
  by_cases ha : a = 0
  · exact ⟨_, b, a, h, .inl ⟨ha, rfl⟩⟩
  · exact ⟨_, b, a, h, .inr ⟨ha, rfl⟩⟩
theorem quoD_total (t : ByteArray) (kd : Int) : ∃ q, QuoD t kd q := ⟨(_, _, _, _), rfl, rfl, rfl, rfl⟩
theorem qres_total (t : ByteArray) (kd j : Int) : ∃ z, QRes t kd j z := by
  obtain ⟨q, hq⟩ := quoD_total t kd
  by_cases h : q.2.2.2 = 0
  · exact ⟨_, q, hq, .inl ⟨h, rfl⟩⟩
  · exact ⟨_, q, hq, .inr ⟨h, rfl⟩⟩
theorem parD_total (s : ByteArray) : ∃ z, ParD s z := by
  cases h1 : Lib.hasPrefix (bytesOf s) [110, 117, 108, 108] with
  | true => exact ⟨_, par_null h1⟩
  | false =>
    cases h2 : Lib.hasPrefix (bytesOf s) [39] with
    | true =>
      obtain ⟨z, hz⟩ := qres_total (strOf (Lib.trimPrefix (bytesOf s) [39])) 2 1
      exact ⟨z, fun h => tf h h1, fun _ _ => hz, fun _ h => tf h2 h, fun _ h => tf h2 h⟩
    | false =>
      cases h3 : Lib.hasPrefix (bytesOf s) [120, 39] with
      | true =>
        obtain ⟨z, hz⟩ := qres_total (strOf (Lib.trimPrefix (bytesOf s) [120, 39])) 3 2
        exact ⟨z, fun h => tf h h1, fun _ h => tf h h2, fun _ _ _ => hz, fun _ _ h => tf h3 h⟩
      | false =>
        obtain ⟨y, hy⟩ := numR_total (bytesOf s)
        exact ⟨_, par_num h1 h2 h3 hy⟩
theorem parD_show {v : Vl} (ok : OkV v) (hi : In64 v) {c0 : UInt8} (hc0 : c0 = 41 ∨ c0 = 44) {t : List UInt8} {s : ByteArray} (hs : bytesOf s = showL v ++ c0 :: t) : ParD s (v.1, v.2.1, v.2.2, (((showL v).length : Nat) : Int), 0) := by
  obtain ⟨z, hz⟩ := parD_total s
  rw [← parse_showG ok hi hc0 t hs hz]; exact hz
theorem showL_head {v : Vl} (h : OkV v) : ∃ c r, showL v = c :: r ∧ c ≠ 41 := by
  unfold showL
  rcases h with ⟨h0, _⟩ | ⟨h0, _⟩ | ⟨h0, _, _⟩
  · rw [if_pos h0]; exact ⟨_, _, rfl, by decide⟩
  · rw [if_neg (by omega), if_pos h0]
    unfold Lib.itoa
    split
    · exact ⟨_, _, rfl, by decide⟩
    · obtain ⟨c, r, e, _, hc⟩ := dd_head v.2.1.toNat
      exact ⟨c, r, e, fun e => by rw [e] at hc; revert hc; decide⟩
  · rw [if_neg (by omega), if_neg (by omega)]
    split
    · exact ⟨_, _, rfl, by decide⟩
    · unfold quoteL; exact ⟨_, _, rfl, by decide⟩
theorem drop_app {l a b : List UInt8} {i : Nat} (h : l.drop i = a ++ b) : l.drop (i + a.length) = b := by
  rw [← List.drop_drop, h, List.drop_left]
abbrev tailL (l : Rw) : List UInt8 := Lib.joinTail [44, 32] (l.map showL)
theorem tail_cons (v : Vl) (l : Rw) : tailL (v :: l) = 44 :: 32 :: (showL v ++ tailL l) := by
  unfold tailL Lib.joinTail; simp
theorem show_cons (v : Vl) (l : Rw) : showR (v :: l) = 40 :: (showL v ++ (tailL l ++ [41])) := by
  unfold showR; rw [List.map_cons, Lib.join_cons, List.append_assoc]
theorem parL_show {s : ByteArray} {rest : List UInt8} : ∀ (l : Rw) (v : Vl) (out : Rw) (i : Nat), (∀ x ∈ v :: l, OkV x) → (∀ x ∈ v :: l, In64 x) → out.length + l.length < 16 → (bytesOf s).drop i = showL v ++ (tailL l ++ 41 :: rest) → ParL s i out (out ++ v :: l, ((i + (showL v ++ tailL l).length + 1 : Nat) : Int), 0)
  | [], v, out, i, ok, hi, hl, h => by
    have h' : (bytesOf s).drop i = showL v ++ 41 :: rest := h
    have d := parD_show (s := sfrom s i) (ok v (List.mem_cons_self ..)) (hi v (List.mem_cons_self ..)) (.inl rfl) (by rw [bytesOf_sfrom]; exact h')
    have := ParL.done (out := out) d rfl (by simp at hl; omega) rfl (by rw [drop_app h']; exact pre1.2 ⟨_, rfl⟩)
    rw [show showL v ++ tailL [] = showL v from List.append_nil _]
    exact this
  | w :: l, v, out, i, ok, hi, hl, h => by
    rw [tail_cons] at h
    have h' : (bytesOf s).drop i = showL v ++ 44 :: (32 :: (showL w ++ (tailL l ++ 41 :: rest))) := by rw [h]; simp
    have d := parD_show (s := sfrom s i) (ok v (List.mem_cons_self ..)) (hi v (List.mem_cons_self ..)) (.inr rfl) (by rw [bytesOf_sfrom]; exact h')
    have e := drop_app h'
    have e2 : (bytesOf s).drop (i + (showL v).length + 2) = showL w ++ (tailL l ++ 41 :: rest) := by rw [← List.drop_drop, e]; rfl
    have ih := parL_show l w (out ++ [v]) _ (fun x hx => ok x (List.mem_cons_of_mem _ hx)) (fun x hx => hi x (List.mem_cons_of_mem _ hx)) (by simp at hl ⊢; omega) e2
    have hn : ((i + (showL v ++ tailL (w :: l)).length + 1 : Nat) : Int) = ((i + (showL v).length + 2 + (showL w ++ tailL l).length + 1 : Nat) : Int) := by
      rw [tail_cons]; simp only [List.length_append, List.length_cons]; omega
    rw [hn, show out ++ v :: w :: l = out ++ [v] ++ w :: l by simp]
    exact ParL.more (out := out) d rfl (by simp at hl; omega) rfl (by rw [e]; exact hp_ne (by decide)) (by rw [e]; exact pre2.2 ⟨_, rfl⟩) ih
theorem parT_show {r : Rw} (ok : OkR r) (hi : InR r) {rest : List UInt8} {s : ByteArray} (hs : bytesOf s = showR r ++ rest) : ParT s (r, (((showR r).length : Nat) : Int), 0) := by
  cases r with
  | nil => exact ParT.of_two (pre2.2 ⟨rest, hs⟩)
  | cons v l =>
    have e := hs
    rw [show_cons] at e
    obtain ⟨c, q, hc, hne⟩ := showL_head (ok.2 v (List.mem_cons_self ..))
    have n2 : Lib.hasPrefix (bytesOf s) [40, 41] = false := by
      rw [Bool.eq_false_iff]; intro h
      obtain ⟨t, ht⟩ := pre2.1 h
      rw [e, hc] at ht
      injection ht with _ ht
      injection ht with ht _
      exact hne ht
    have n1 : Lib.hasPrefix (bytesOf s) [40] = true := pre1.2 ⟨_, e⟩
    refine ⟨fun h => tf h n2, fun _ h => tf n1 h, fun _ _ => ?_⟩
    have hl := ok.1
    have := parL_show (s := s) (rest := rest) l v [] 1 ok.2 hi (by simp at hl ⊢; omega) (by rw [e]; simp)
    have hn : (((showR (v :: l)).length : Nat) : Int) = ((1 + (showL v ++ tailL l).length + 1 : Nat) : Int) := by
      rw [show_cons]; simp only [List.length_append, List.length_cons, List.length_nil]; omega
    rw [hn]; exact this
/-- What a row's text that was read is. -/
structure LB (s : ByteArray) (i : Nat) (out : Rw) (r : RR5) : Prop where
  ex : ∃ (v : Vl) (l : Rw) (n : Nat), r.1 = out ++ v :: l ∧ r.2.1 = (n : Nat) ∧ (∀ x ∈ v :: l, OkV x ∧ In64 x) ∧ out.length + (l.length + 1) ≤ 16 ∧ i < n ∧ n ≤ s.size ∧ ((bytesOf s).drop i).take (n - i) = showL v ++ (tailL l ++ [41])
theorem take_app {l a : List UInt8} {m n : Nat} (h1 : l.take m = a) (hm : m ≤ l.length) : l.take (m + n) = a ++ (l.drop m).take n := by
  rw [List.take_add, h1]
theorem parL_back {s : ByteArray} {i : Nat} {out : Rw} {r : RR5} (h : ParL s i out r) : (r.2.2 = 0 → out.length ≤ 16 → LB s i out r) ∧ (r.2.2 ≠ 0 → r = ([], 0, 4)) := by
  induction h with
  | bad _ _ => exact ⟨fun h => absurd h (by decide), fun _ => rfl⟩
  | stop _ _ _ _ _ _ => exact ⟨fun h => absurd h (by decide), fun _ => rfl⟩
  | @done i out z m hz he hl hm hp =>
    refine ⟨fun _ hle => ?_, fun h => absurd rfl h⟩
    have b := (show_parse hz).1 he
    obtain ⟨m', h1, h2, h3, h4⟩ := b.t
    have e : m' = m := Int.ofNat.inj (h1.symm.trans hm)
    subst e
    rw [size_sfrom] at h3
    rw [bytesOf_sfrom] at h4
    obtain ⟨t, ht⟩ := pre1.1 hp
    have hlen := congrArg List.length ht
    rw [List.length_drop, bytesOf_length, List.length_cons] at hlen
    refine ⟨_, [], i + m' + 1, rfl, rfl, fun x hx => ?_, by simp; omega, by omega, by omega, ?_⟩
    · have : x = (z.1, z.2.1, z.2.2.1) := by simpa using hx
      rw [this]; exact ⟨b.ok, b.i⟩
    · rw [show i + m' + 1 - i = m' + 1 by omega, take_app h4.symm (by rw [List.length_drop, bytesOf_length]; omega), List.drop_drop, ht]; rfl
  | @more i out z m r hz he hl hm hp hq hr ih =>
    refine ⟨fun h0 hle => ?_, ih.2⟩
    have b := (show_parse hz).1 he
    obtain ⟨m', h1, h2, h3, h4⟩ := b.t
    have e : m' = m := Int.ofNat.inj (h1.symm.trans hm)
    subst e
    rw [size_sfrom] at h3
    rw [bytesOf_sfrom] at h4
    obtain ⟨t, ht⟩ := pre2.1 hq
    obtain ⟨v, l, n, e1, e2, e3, e4, e5, e6, e7⟩ := (ih.1 h0 (by simp; omega)).ex
    refine ⟨(z.1, z.2.1, z.2.2.1), v :: l, n, by rw [e1]; simp, e2, fun x hx => ?_, by simp at e4 ⊢; omega, by omega, e6, ?_⟩
    · rcases List.mem_cons.1 hx with hx | hx
      · rw [hx]; exact ⟨b.ok, b.i⟩
      · exact e3 x hx
    · have ed : (bytesOf s).drop (i + m') = [44, 32] ++ (bytesOf s).drop (i + m' + 2) := by rw [← List.drop_drop (i := 2), ht]; rfl
      rw [show n - i = m' + (2 + (n - (i + m' + 2))) by omega, take_app h4.symm (by rw [List.length_drop, bytesOf_length]; omega), List.drop_drop, ed, tail_cons]
      have : ([44, 32] ++ (bytesOf s).drop (i + m' + 2)).take (2 + (n - (i + m' + 2))) = [44, 32] ++ ((bytesOf s).drop (i + m' + 2)).take (n - (i + m' + 2)) := List.take_length_add_append (l₁ := [44, 32]) _
      rw [this, e7]; simp
structure TBR (s : ByteArray) (r : Rw) (n : Int) : Prop where
  ok : OkR r
  i : InR r
  t : ∃ m : Nat, n = (m : Nat) ∧ 2 ≤ m ∧ m ≤ s.size ∧ showR r = (bytesOf s).take m
theorem parT_back {s : ByteArray} {r : RR5} (h : ParT s r) : (r.2.2 = 0 → TBR s r.1 r.2.1) ∧ (r.2.2 ≠ 0 → r = ([], 0, 4)) := by
  cases h1 : Lib.hasPrefix (bytesOf s) [40, 41] with
  | true =>
    rw [h.two h1]
    obtain ⟨t, ht⟩ := pre2.1 h1
    have hl := congrArg List.length ht
    rw [bytesOf_length, List.length_cons, List.length_cons] at hl
    exact ⟨fun _ => ⟨⟨Nat.zero_le _, fun v hv => by simp at hv⟩, fun v hv => by simp at hv, 2, rfl, Nat.le_refl _, by omega, by rw [ht]; rfl⟩, fun x => absurd rfl x⟩
  | false =>
    cases h2 : Lib.hasPrefix (bytesOf s) [40] with
    | false => rw [h.none h1 h2]; exact ⟨fun x => absurd x (by decide), fun _ => rfl⟩
    | true =>
      have b := parL_back (h.on h1 h2)
      refine ⟨fun h0 => ?_, b.2⟩
      obtain ⟨v, l, n, e1, e2, e3, e4, e5, e6, e7⟩ := (b.1 h0 (Nat.zero_le _)).ex
      obtain ⟨t, ht⟩ := pre1.1 h2
      rw [List.nil_append] at e1
      simp only [List.length_nil, Nat.zero_add] at e4
      have hn2 : 1 ≤ n - 1 := by omega
      refine ⟨⟨by rw [e1]; simpa using e4, fun x hx => (e3 x (by rw [e1] at hx; exact hx)).1⟩, fun x hx => (e3 x (by rw [e1] at hx; exact hx)).2, n, e2, by omega, e6, ?_⟩
      rw [e1, show_cons, ← e7, ht, show n = (n - 1) + 1 by omega]; rfl
theorem decN_len : ∀ (n : Nat) (l : List UInt8), (decN n l).1.length ≤ n
  | 0, _ => Nat.le_refl _
  | n + 1, l => by
    unfold decN
    have ih := decN_len n (l.drop (decV l).2.1)
    (repeat' split)
    · exact Nat.zero_le _
    · exact Nat.zero_le _
    · simp only [List.length_cons]; omega
theorem decR_len (l : List UInt8) : (decR l).1.length ≤ 16 := by
  unfold decR resN
  have := decN_len (unvar l).1 (l.drop (unvar l).2.1)
  (repeat' split) <;> simp <;> omega
theorem dec_len {s : ByteArray} {a : Rw} {c : Nat} {e : Int} (h : DecD s a c e) : a.length ≤ 16 := by rw [h.r]; exact decR_len _
theorem pt_len {s : ByteArray} {a : Rw} {c : Nat} {n e : Int} (h : PtD s a c n e) : a.length ≤ 16 := by
  have b := parT_back h.r
  by_cases he : e = 0
  · exact (b.1 he).ok.1
  · have := b.2 he
    simp only [Prod.mk.injEq] at this
    rw [this.1]; exact Nat.zero_le _
end Go.Proofs.YtajmmolfnjdanaaGreatDoor
namespace Go.Proofs.YtajmmolfnjdanaaGreatDoor
open Go.RowKit
set_option linter.unusedSimpArgs false
set_option linter.unusedVariables false
def row0 : Rw := [(1, 1, ⟨#[]⟩), (0, 0, ⟨#[]⟩), (2, 0, ⟨#[97]⟩)]
theorem row0_ok : OkR row0 := ⟨by decide, fun v hv => by
  unfold row0 at hv
  simp only [List.mem_cons, List.not_mem_nil, or_false] at hv
  rcases hv with rfl | rfl | rfl
  · exact .inr (.inl ⟨rfl, rfl⟩)
  · exact .inl ⟨rfl, rfl, rfl⟩
  · exact .inr (.inr ⟨.inl rfl, rfl, by decide⟩)⟩
theorem row0_in : InR row0 := fun v hv => by
  unfold row0 at hv
  simp only [List.mem_cons, List.not_mem_nil, or_false] at hv
  unfold In64
  rcases hv with rfl | rfl | rfl <;> decide
theorem none_ok : OkR [] := ⟨by decide, fun v hv => by simp at hv⟩
theorem none_in : InR [] := fun v hv => by simp at hv
theorem enc0 : encR row0 = [3, 1, 2, 0, 2, 1, 97] := by decide +kernel
theorem dec0 : decR [3, 1, 2, 0, 2, 1, 97] = (row0, 0) := by decide +kernel
theorem dec1 : decR [2, 0] = ([], 3) := by decide +kernel
theorem dec2 : decR [0, 0] = ([], 4) := by decide +kernel
theorem show0 : showR row0 = [40, 49, 44, 32, 110, 117, 108, 108, 44, 32, 39, 97, 39, 41] := by
  have : Lib.itoa 1 = [49] := by unfold Lib.itoa; rw [if_neg (by decide)]; exact dd_small (u := 1) (by decide)
  unfold showR row0 showL
  simp only [List.map_cons, List.map_nil]
  rw [this]
  decide +kernel
theorem key0 : (keyR row0).length = 14 := by decide +kernel
theorem cmp0 : cmpR row0 [] = 1 := rfl
section
theorem a_enc {s : ByteArray} {e : Int} (h : EncD row0 s e) : strEq s ⟨#[3, 1, 2, 0, 2, 1, 97]⟩ = true ∧ e = 0 ∧ s.size ≤ 281474976710656 := by
  obtain ⟨h1, h2⟩ := h.ok row0_ok
  rw [enc0] at h1; subst h1
  exact ⟨(strEq_eq _ _).2 rfl, h2, by decide⟩
theorem a_dec {s : ByteArray} {e : Int} {out : Rw} {cap : Nat} {f : Int} (h : EncD row0 s e) (d : DecD s out cap f) : out = row0 ∧ f = 0 := by
  obtain ⟨h1, h2⟩ := h.ok row0_ok
  rw [enc0] at h1; subst h1
  have e1 := d.r; have e2 := d.e
  rw [bytesOf_strOf, dec0] at e1 e2
  exact ⟨e1, e2⟩
theorem a_dec1 {out : Rw} {cap : Nat} {f : Int} (d : DecD ⟨#[2, 0]⟩ out cap f) : f = 3 := by
  have e2 := d.e
  rw [show bytesOf ⟨#[2, 0]⟩ = [2, 0] from rfl, dec1] at e2; exact e2
theorem a_dec2 {out : Rw} {cap : Nat} {f : Int} (d : DecD ⟨#[0, 0]⟩ out cap f) : f = 4 := by
  have e2 := d.e
  rw [show bytesOf ⟨#[0, 0]⟩ = [0, 0] from rfl, dec2] at e2; exact e2
theorem a_par {out : Rw} {cap : Nat} {n f : Int} (d : PtD ⟨#[40, 49, 44, 32, 110, 117, 108, 108, 44, 32, 39, 97, 39, 41, 32, 115, 111]⟩ out cap n f) : out = row0 ∧ n = 14 ∧ f = 0 := by
  have h := parT_show (s := ⟨#[40, 49, 44, 32, 110, 117, 108, 108, 44, 32, 39, 97, 39, 41, 32, 115, 111]⟩) row0_ok row0_in (rest := [32, 115, 111]) (by rw [show0]; rfl)
  have e := d.r.uniq h
  simp only [Prod.mk.injEq] at e
  obtain ⟨e1, e2, e3⟩ := e
  rw [show0] at e2
  exact ⟨e1, e2, e3⟩
theorem a_show {z : ByteArray} (h : TxtD showR row0 z) : strEq z ⟨#[40, 49, 44, 32, 110, 117, 108, 108, 44, 32, 39, 97, 39, 41]⟩ = true := by
  rw [h.ok row0_ok, show0]; exact (strEq_eq _ _).2 rfl
theorem a_key {z : ByteArray} (h : TxtD keyR row0 z) : z.size = 14 := by
  rw [h.ok row0_ok, strOf_size, key0]
theorem a_cmp {z : Int} (h : CmpD row0 [] z) : z = 1 := (h.1 row0_ok none_ok).trans cmp0
end
attribute [local irreducible] numOf fixedL bytesOf strOf strEq strLt sfrom eqVal encR keyR showR decR cmpR
set_option maxRecDepth 100000 in
set_option maxHeartbeats 4000000 in
theorem awakeR_c (gP gR gS g : Nat) (oP oR oS o : Obj) (hP : PowAt gP oP) (hR : ErrAt "strconv.ErrRange" gR oR) (hS : ErrAt "strconv.ErrSyntax" gS oS) (hM : MaxAt g o) :
    CallOb Tryz.prog 8 [] [(0, .gv gP oP), (1, .gv gR oR), (2, .gv gS oS), (3, .gv g o)] 4 (fun v hh m => ∃ z : Bool, z = true ∧ v = .bool z ∧ hh = [] ∧ m = 4) := by
  refine call_spec tabOk mixed Tryz.call8 Tryz.func8 rfl [] (fun z : Bool => z = true) (fun z => .bool z) (fun _ => []) (fun _ => 4) ?_ ?_
  · exact (Nat.le_of_ble_eq_true rfl)
  (repeat' ((try (conv => whnf)); first | (guard_target =~ ∃ (_ : Value), ∃ (_ : HP), ∃ (_ : HP), _; refine ⟨_, _, _, (by refine ⟨?_, ?_, ?_⟩; (first | apply rR_tuple | apply rR_one rfl | exact rfl); all_goals (repeat' (first | (with_reducible (first | exact relH_nil | apply rn_lst | apply rn_own | apply rn_mp | apply rn_row | exact wo_nil)) | apply wo_keep rfl | apply wo_drop rfl | exact relH_nil | exact r1_flat rfl | exact r0_flat rfl | exact rl_nil | exact wo_nil | exact bk_old rfl | exact bk_new rfl | exact bk_nil rfl | apply rl_cons | (exact relL_flat (flat_bindF (f := rowv) (fun _ => rfl) _)) | exact relL_flat (flat_map (fun _ => rfl) _) | exact relL_flat flat_nil | apply relL_to | apply rn_lst | apply rn_own | apply rn_mp | apply rn_row | apply relH_view rfl | apply relH_lview rfl | apply wo_keep rfl | apply wo_drop rfl | apply r1_agg | apply rn_ptr | apply rn_slice | apply rn_iface | apply rn_map | apply rn_ifacem | apply r0_map | apply r0_ifacem | apply r0_ptr | apply r0_slice | apply r0_iface)); (first | done | fail)), ?_⟩; (try (dsimp only [Nat.reduceAdd, List.cons_append, List.nil_append]))) | ((guard_target =~ CallOb _ 10 _ _ _ _; refine call_q (encode_c row0 3 (by decide) row0_in) [(0, some 4)] (by (repeat' (first | exact True.intro | (with_reducible exact rfl) | (guard_target =~ @Eq Nat _ _; first | exact rfl | omega) | (guard_target =~ List.map _ _ = []; exact rfl) | (first | exact congrArg (Value.int _) (by (try dsimp only); omega) | (guard_target =~ @Eq (List Value) _ _; exact rfl) | exact covL_of rfl (flat_bindF (f := rowv) (fun _ => rfl) _)) | (exact congrArg (Value.int _) (by omega)) | (exact covL_flat (flat_map (fun _ => rfl) _)) | (exact covL_flat flat_nil) | (refine covP_all ?_) | (refine covL_each ?_) | (refine ⟨?_, ?_⟩) | ((conv => whnf); (first | exact True.intro | (with_reducible exact rfl) | (guard_target =~ @Eq Nat _ _; first | exact rfl | omega) | (guard_target =~ List.map _ _ = []; exact rfl) | (first | exact congrArg (Value.int _) (by (try dsimp only); omega) | (guard_target =~ @Eq (List Value) _ _; exact rfl) | exact covL_of rfl (flat_bindF (f := rowv) (fun _ => rfl) _)) | (exact congrArg (Value.int _) (by omega)) | (exact covL_flat (flat_map (fun _ => rfl) _)) | (exact covL_flat flat_nil) | (refine covP_all ?_) | (refine covL_each ?_) | (refine ⟨?_, ?_⟩) | done)))); (first | done | fail)) (by rfl) (by rfl) (by rfl) (fun v h1 n1 hp => ?_); obtain ⟨⟨s, e⟩, hE, rfl, rfl, rfl⟩ := hp); dsimp only at hE; obtain ⟨hs, he, hsz⟩ := a_enc hE; (try (dsimp only [Nat.reduceAdd, List.cons_append, List.nil_append]))) | (exfalso; with_reducible exact tf hs hb) | (exfalso; with_reducible exact tf hsh hb) | (exfalso; with_reducible exact tf hsm hb) | (exfalso; with_reducible exact tf hsn hb) | (exfalso; with_reducible exact tf hgd hb) | ((guard_target =~ CallOb _ 20 _ _ _ _; refine call_q (decode_c s hsz) [] (by (repeat' (first | exact True.intro | (with_reducible exact rfl) | (guard_target =~ @Eq Nat _ _; first | exact rfl | omega) | (guard_target =~ List.map _ _ = []; exact rfl) | (first | exact congrArg (Value.int _) (by (try dsimp only); omega) | (guard_target =~ @Eq (List Value) _ _; exact rfl) | exact covL_of rfl (flat_bindF (f := rowv) (fun _ => rfl) _)) | (exact congrArg (Value.int _) (by omega)) | (exact covL_flat (flat_map (fun _ => rfl) _)) | (exact covL_flat flat_nil) | (refine covP_all ?_) | (refine covL_each ?_) | (refine ⟨?_, ?_⟩) | ((conv => whnf); (first | exact True.intro | (with_reducible exact rfl) | (guard_target =~ @Eq Nat _ _; first | exact rfl | omega) | (guard_target =~ List.map _ _ = []; exact rfl) | (first | exact congrArg (Value.int _) (by (try dsimp only); omega) | (guard_target =~ @Eq (List Value) _ _; exact rfl) | exact covL_of rfl (flat_bindF (f := rowv) (fun _ => rfl) _)) | (exact congrArg (Value.int _) (by omega)) | (exact covL_flat (flat_map (fun _ => rfl) _)) | (exact covL_flat flat_nil) | (refine covP_all ?_) | (refine covL_each ?_) | (refine ⟨?_, ?_⟩) | done)))); (first | done | fail)) (by rfl) (by rfl) (by rfl) (fun v h1 n1 hp => ?_); obtain ⟨⟨b, cb, f⟩, hD, rfl, rfl, rfl⟩ := hp); dsimp only at hD; obtain ⟨hb1, hf⟩ := a_dec hE hD; subst hb1; (try (dsimp only [Nat.reduceAdd, List.cons_append, List.nil_append]))) | ((guard_target =~ CallOb _ 20 _ _ _ _; refine call_q (decode_c ⟨#[2, 0]⟩ (by decide)) [] (by (repeat' (first | exact True.intro | (with_reducible exact rfl) | (guard_target =~ @Eq Nat _ _; first | exact rfl | omega) | (guard_target =~ List.map _ _ = []; exact rfl) | (first | exact congrArg (Value.int _) (by (try dsimp only); omega) | (guard_target =~ @Eq (List Value) _ _; exact rfl) | exact covL_of rfl (flat_bindF (f := rowv) (fun _ => rfl) _)) | (exact congrArg (Value.int _) (by omega)) | (exact covL_flat (flat_map (fun _ => rfl) _)) | (exact covL_flat flat_nil) | (refine covP_all ?_) | (refine covL_each ?_) | (refine ⟨?_, ?_⟩) | ((conv => whnf); (first | exact True.intro | (with_reducible exact rfl) | (guard_target =~ @Eq Nat _ _; first | exact rfl | omega) | (guard_target =~ List.map _ _ = []; exact rfl) | (first | exact congrArg (Value.int _) (by (try dsimp only); omega) | (guard_target =~ @Eq (List Value) _ _; exact rfl) | exact covL_of rfl (flat_bindF (f := rowv) (fun _ => rfl) _)) | (exact congrArg (Value.int _) (by omega)) | (exact covL_flat (flat_map (fun _ => rfl) _)) | (exact covL_flat flat_nil) | (refine covP_all ?_) | (refine covL_each ?_) | (refine ⟨?_, ?_⟩) | done)))); (first | done | fail)) (by rfl) (by rfl) (by rfl) (fun v h1 n1 hp => ?_); obtain ⟨⟨b1, c1, g1⟩, hD1, rfl, rfl, rfl⟩ := hp); dsimp only at hD1; have hg1 := a_dec1 hD1; clear hD1; (try (dsimp only [Nat.reduceAdd, List.cons_append, List.nil_append]))) | ((guard_target =~ CallOb _ 20 _ _ _ _; refine call_q (decode_c ⟨#[0, 0]⟩ (by decide)) [] (by (repeat' (first | exact True.intro | (with_reducible exact rfl) | (guard_target =~ @Eq Nat _ _; first | exact rfl | omega) | (guard_target =~ List.map _ _ = []; exact rfl) | (first | exact congrArg (Value.int _) (by (try dsimp only); omega) | (guard_target =~ @Eq (List Value) _ _; exact rfl) | exact covL_of rfl (flat_bindF (f := rowv) (fun _ => rfl) _)) | (exact congrArg (Value.int _) (by omega)) | (exact covL_flat (flat_map (fun _ => rfl) _)) | (exact covL_flat flat_nil) | (refine covP_all ?_) | (refine covL_each ?_) | (refine ⟨?_, ?_⟩) | ((conv => whnf); (first | exact True.intro | (with_reducible exact rfl) | (guard_target =~ @Eq Nat _ _; first | exact rfl | omega) | (guard_target =~ List.map _ _ = []; exact rfl) | (first | exact congrArg (Value.int _) (by (try dsimp only); omega) | (guard_target =~ @Eq (List Value) _ _; exact rfl) | exact covL_of rfl (flat_bindF (f := rowv) (fun _ => rfl) _)) | (exact congrArg (Value.int _) (by omega)) | (exact covL_flat (flat_map (fun _ => rfl) _)) | (exact covL_flat flat_nil) | (refine covP_all ?_) | (refine covL_each ?_) | (refine ⟨?_, ?_⟩) | done)))); (first | done | fail)) (by rfl) (by rfl) (by rfl) (fun v h1 n1 hp => ?_); obtain ⟨⟨b2, c2, g2⟩, hD2, rfl, rfl, rfl⟩ := hp); dsimp only at hD2; have hg2 := a_dec2 hD2; clear hD2; (try (dsimp only [Nat.reduceAdd, List.cons_append, List.nil_append]))) | ((guard_target =~ CallOb _ 22 _ _ _ _; refine call_q (parser_c gP gR gS oP oR oS hP hR hS ⟨#[40, 49, 44, 32, 110, 117, 108, 108, 44, 32, 39, 97, 39, 41, 32, 115, 111]⟩ (by decide)) [(0, some 0), (1, some 1), (2, some 2)] (by (repeat' (first | exact True.intro | (with_reducible exact rfl) | (guard_target =~ @Eq Nat _ _; first | exact rfl | omega) | (guard_target =~ List.map _ _ = []; exact rfl) | (first | exact congrArg (Value.int _) (by (try dsimp only); omega) | (guard_target =~ @Eq (List Value) _ _; exact rfl) | exact covL_of rfl (flat_bindF (f := rowv) (fun _ => rfl) _)) | (exact congrArg (Value.int _) (by omega)) | (exact covL_flat (flat_map (fun _ => rfl) _)) | (exact covL_flat flat_nil) | (refine covP_all ?_) | (refine covL_each ?_) | (refine ⟨?_, ?_⟩) | ((conv => whnf); (first | exact True.intro | (with_reducible exact rfl) | (guard_target =~ @Eq Nat _ _; first | exact rfl | omega) | (guard_target =~ List.map _ _ = []; exact rfl) | (first | exact congrArg (Value.int _) (by (try dsimp only); omega) | (guard_target =~ @Eq (List Value) _ _; exact rfl) | exact covL_of rfl (flat_bindF (f := rowv) (fun _ => rfl) _)) | (exact congrArg (Value.int _) (by omega)) | (exact covL_flat (flat_map (fun _ => rfl) _)) | (exact covL_flat flat_nil) | (refine covP_all ?_) | (refine covL_each ?_) | (refine ⟨?_, ?_⟩) | done)))); (first | done | fail)) (by rfl) (by rfl) (by rfl) (fun v h1 n1 hp => ?_); obtain ⟨⟨cc, ccap, pn, pe⟩, hPt, rfl, rfl, rfl⟩ := hp); dsimp only at hPt; obtain ⟨hc1, hpn, hpe⟩ := a_par hPt; subst hc1; clear hPt; (try (dsimp only [Nat.reduceAdd, List.cons_append, List.nil_append]))) | ((guard_target =~ CallOb _ 24 _ _ _ _; refine call_q (same_c row0 row0 cb 3 (by decide) (by decide)) [(0, some _), (1, some 4)] (by (repeat' (first | exact True.intro | (with_reducible exact rfl) | (guard_target =~ @Eq Nat _ _; first | exact rfl | omega) | (guard_target =~ List.map _ _ = []; exact rfl) | (first | exact congrArg (Value.int _) (by (try dsimp only); omega) | (guard_target =~ @Eq (List Value) _ _; exact rfl) | exact covL_of rfl (flat_bindF (f := rowv) (fun _ => rfl) _)) | (exact congrArg (Value.int _) (by omega)) | (exact covL_flat (flat_map (fun _ => rfl) _)) | (exact covL_flat flat_nil) | (refine covP_all ?_) | (refine covL_each ?_) | (refine ⟨?_, ?_⟩) | ((conv => whnf); (first | exact True.intro | (with_reducible exact rfl) | (guard_target =~ @Eq Nat _ _; first | exact rfl | omega) | (guard_target =~ List.map _ _ = []; exact rfl) | (first | exact congrArg (Value.int _) (by (try dsimp only); omega) | (guard_target =~ @Eq (List Value) _ _; exact rfl) | exact covL_of rfl (flat_bindF (f := rowv) (fun _ => rfl) _)) | (exact congrArg (Value.int _) (by omega)) | (exact covL_flat (flat_map (fun _ => rfl) _)) | (exact covL_flat flat_nil) | (refine covP_all ?_) | (refine covL_each ?_) | (refine ⟨?_, ?_⟩) | done)))); (first | done | fail)) (by rfl) (by rfl) (by rfl) (fun v h1 n1 hp => ?_); obtain ⟨sm, hsm, rfl, rfl, rfl⟩ := hp); replace hsm := hsm.2 rfl; (try (dsimp only [Nat.reduceAdd, List.cons_append, List.nil_append]))) | ((guard_target =~ CallOb _ 24 _ _ _ _; refine call_q (same_c row0 row0 ccap 3 (by decide) (by decide)) [(0, some _), (1, some 4)] (by (repeat' (first | exact True.intro | (with_reducible exact rfl) | (guard_target =~ @Eq Nat _ _; first | exact rfl | omega) | (guard_target =~ List.map _ _ = []; exact rfl) | (first | exact congrArg (Value.int _) (by (try dsimp only); omega) | (guard_target =~ @Eq (List Value) _ _; exact rfl) | exact covL_of rfl (flat_bindF (f := rowv) (fun _ => rfl) _)) | (exact congrArg (Value.int _) (by omega)) | (exact covL_flat (flat_map (fun _ => rfl) _)) | (exact covL_flat flat_nil) | (refine covP_all ?_) | (refine covL_each ?_) | (refine ⟨?_, ?_⟩) | ((conv => whnf); (first | exact True.intro | (with_reducible exact rfl) | (guard_target =~ @Eq Nat _ _; first | exact rfl | omega) | (guard_target =~ List.map _ _ = []; exact rfl) | (first | exact congrArg (Value.int _) (by (try dsimp only); omega) | (guard_target =~ @Eq (List Value) _ _; exact rfl) | exact covL_of rfl (flat_bindF (f := rowv) (fun _ => rfl) _)) | (exact congrArg (Value.int _) (by omega)) | (exact covL_flat (flat_map (fun _ => rfl) _)) | (exact covL_flat flat_nil) | (refine covP_all ?_) | (refine covL_each ?_) | (refine ⟨?_, ?_⟩) | done)))); (first | done | fail)) (by rfl) (by rfl) (by rfl) (fun v h1 n1 hp => ?_); obtain ⟨sn, hsn, rfl, rfl, rfl⟩ := hp); replace hsn := hsn.2 rfl; (try (dsimp only [Nat.reduceAdd, List.cons_append, List.nil_append]))) | ((guard_target =~ CallOb _ 18 _ _ _ _; refine call_q (showr_c gP oP hP row0 3 (by decide) row0_in) [(0, some 4), (1, some 0)] (by (repeat' (first | exact True.intro | (with_reducible exact rfl) | (guard_target =~ @Eq Nat _ _; first | exact rfl | omega) | (guard_target =~ List.map _ _ = []; exact rfl) | (first | exact congrArg (Value.int _) (by (try dsimp only); omega) | (guard_target =~ @Eq (List Value) _ _; exact rfl) | exact covL_of rfl (flat_bindF (f := rowv) (fun _ => rfl) _)) | (exact congrArg (Value.int _) (by omega)) | (exact covL_flat (flat_map (fun _ => rfl) _)) | (exact covL_flat flat_nil) | (refine covP_all ?_) | (refine covL_each ?_) | (refine ⟨?_, ?_⟩) | ((conv => whnf); (first | exact True.intro | (with_reducible exact rfl) | (guard_target =~ @Eq Nat _ _; first | exact rfl | omega) | (guard_target =~ List.map _ _ = []; exact rfl) | (first | exact congrArg (Value.int _) (by (try dsimp only); omega) | (guard_target =~ @Eq (List Value) _ _; exact rfl) | exact covL_of rfl (flat_bindF (f := rowv) (fun _ => rfl) _)) | (exact congrArg (Value.int _) (by omega)) | (exact covL_flat (flat_map (fun _ => rfl) _)) | (exact covL_flat flat_nil) | (refine covP_all ?_) | (refine covL_each ?_) | (refine ⟨?_, ?_⟩) | done)))); (first | done | fail)) (by rfl) (by rfl) (by rfl) (fun v h1 n1 hp => ?_); obtain ⟨sh, hsh, rfl, rfl, rfl⟩ := hp); replace hsh := a_show hsh; (try (dsimp only [Nat.reduceAdd, List.cons_append, List.nil_append]))) | ((guard_target =~ CallOb _ 12 _ _ _ _; refine call_q (good_c row0 3 (by decide)) [(0, some 4)] (by (repeat' (first | exact True.intro | (with_reducible exact rfl) | (guard_target =~ @Eq Nat _ _; first | exact rfl | omega) | (guard_target =~ List.map _ _ = []; exact rfl) | (first | exact congrArg (Value.int _) (by (try dsimp only); omega) | (guard_target =~ @Eq (List Value) _ _; exact rfl) | exact covL_of rfl (flat_bindF (f := rowv) (fun _ => rfl) _)) | (exact congrArg (Value.int _) (by omega)) | (exact covL_flat (flat_map (fun _ => rfl) _)) | (exact covL_flat flat_nil) | (refine covP_all ?_) | (refine covL_each ?_) | (refine ⟨?_, ?_⟩) | ((conv => whnf); (first | exact True.intro | (with_reducible exact rfl) | (guard_target =~ @Eq Nat _ _; first | exact rfl | omega) | (guard_target =~ List.map _ _ = []; exact rfl) | (first | exact congrArg (Value.int _) (by (try dsimp only); omega) | (guard_target =~ @Eq (List Value) _ _; exact rfl) | exact covL_of rfl (flat_bindF (f := rowv) (fun _ => rfl) _)) | (exact congrArg (Value.int _) (by omega)) | (exact covL_flat (flat_map (fun _ => rfl) _)) | (exact covL_flat flat_nil) | (refine covP_all ?_) | (refine covL_each ?_) | (refine ⟨?_, ?_⟩) | done)))); (first | done | fail)) (by rfl) (by rfl) (by rfl) (fun v h1 n1 hp => ?_); obtain ⟨gd, hgd, rfl, rfl, rfl⟩ := hp); replace hgd := hgd.2 row0_ok; (try (dsimp only [Nat.reduceAdd, List.cons_append, List.nil_append]))) | ((guard_target =~ CallOb _ 14 _ _ _ _; refine call_q (compare_c row0 [] 3 0 (by decide) (by decide)) [(0, some 4), (1, none)] (by (repeat' (first | exact True.intro | (with_reducible exact rfl) | (guard_target =~ @Eq Nat _ _; first | exact rfl | omega) | (guard_target =~ List.map _ _ = []; exact rfl) | (first | exact congrArg (Value.int _) (by (try dsimp only); omega) | (guard_target =~ @Eq (List Value) _ _; exact rfl) | exact covL_of rfl (flat_bindF (f := rowv) (fun _ => rfl) _)) | (exact congrArg (Value.int _) (by omega)) | (exact covL_flat (flat_map (fun _ => rfl) _)) | (exact covL_flat flat_nil) | (refine covP_all ?_) | (refine covL_each ?_) | (refine ⟨?_, ?_⟩) | ((conv => whnf); (first | exact True.intro | (with_reducible exact rfl) | (guard_target =~ @Eq Nat _ _; first | exact rfl | omega) | (guard_target =~ List.map _ _ = []; exact rfl) | (first | exact congrArg (Value.int _) (by (try dsimp only); omega) | (guard_target =~ @Eq (List Value) _ _; exact rfl) | exact covL_of rfl (flat_bindF (f := rowv) (fun _ => rfl) _)) | (exact congrArg (Value.int _) (by omega)) | (exact covL_flat (flat_map (fun _ => rfl) _)) | (exact covL_flat flat_nil) | (refine covP_all ?_) | (refine covL_each ?_) | (refine ⟨?_, ?_⟩) | done)))); (first | done | fail)) (by rfl) (by rfl) (by rfl) (fun v h1 n1 hp => ?_); obtain ⟨cz, hcz, rfl, rfl, rfl⟩ := hp); replace hcz := a_cmp hcz; (try (dsimp only [Nat.reduceAdd, List.cons_append, List.nil_append]))) | ((guard_target =~ CallOb _ 16 _ _ _ _; refine call_q (keyr_c g o hM row0 3 (by decide) row0_in) [(0, some 4), (1, some 3)] (by (repeat' (first | exact True.intro | (with_reducible exact rfl) | (guard_target =~ @Eq Nat _ _; first | exact rfl | omega) | (guard_target =~ List.map _ _ = []; exact rfl) | (first | exact congrArg (Value.int _) (by (try dsimp only); omega) | (guard_target =~ @Eq (List Value) _ _; exact rfl) | exact covL_of rfl (flat_bindF (f := rowv) (fun _ => rfl) _)) | (exact congrArg (Value.int _) (by omega)) | (exact covL_flat (flat_map (fun _ => rfl) _)) | (exact covL_flat flat_nil) | (refine covP_all ?_) | (refine covL_each ?_) | (refine ⟨?_, ?_⟩) | ((conv => whnf); (first | exact True.intro | (with_reducible exact rfl) | (guard_target =~ @Eq Nat _ _; first | exact rfl | omega) | (guard_target =~ List.map _ _ = []; exact rfl) | (first | exact congrArg (Value.int _) (by (try dsimp only); omega) | (guard_target =~ @Eq (List Value) _ _; exact rfl) | exact covL_of rfl (flat_bindF (f := rowv) (fun _ => rfl) _)) | (exact congrArg (Value.int _) (by omega)) | (exact covL_flat (flat_map (fun _ => rfl) _)) | (exact covL_flat flat_nil) | (refine covP_all ?_) | (refine covL_each ?_) | (refine ⟨?_, ?_⟩) | done)))); (first | done | fail)) (by rfl) (by rfl) (by rfl) (fun v h1 n1 hp => ?_); obtain ⟨ky, hky, rfl, rfl, rfl⟩ := hp); replace hky := a_key hky; (try (dsimp only [Nat.reduceAdd, List.cons_append, List.nil_append]))) | (with_reducible refine chk_in (Nat.ble_eq_true_of_le (by omega)) ?_) | (with_reducible refine ifB_in ?_ ?_ <;> intro hb <;> (try simp only [decide_eq_true_eq, decide_eq_false_iff_not, Int.not_lt, Int.not_le, ne_eq, Decidable.not_not, Bool.not_eq_true', Bool.not_eq_false', gt_iff_lt, ge_iff_le] at hb) <;> (try (exfalso; omega))) | (with_reducible refine ⟨_, w64b _, ?_⟩) | (with_reducible refine ⟨_, w64 (by omega) (by omega), ?_⟩) | (with_reducible refine ⟨_, wu64 (by omega) (by omega), ?_⟩) | (with_reducible refine ⟨_, wu8 (by omega) (by omega), ?_⟩) | (with_reducible refine ⟨_, w64 (by (simp only [size_sfrom, ByteArray.size_extract, ByteArray.size_append, strOf_size, fixedL_length, lit_size, List.size_toArray, List.length_cons, List.length_nil, List.length_append, List.length_replicate]; omega)) (by (simp only [size_sfrom, ByteArray.size_extract, ByteArray.size_append, strOf_size, fixedL_length, lit_size, List.size_toArray, List.length_cons, List.length_nil, List.length_append, List.length_replicate]; omega)), ?_⟩) | (with_reducible refine ⟨_, rfl, ?_⟩) | (with_reducible refine ⟨rfl, ?_⟩) | (intro cap) | (with_reducible refine ⟨trivial, ?_⟩) | (guard_target =~ (planChk _ _ = true) ∧ _; refine ⟨by kernel_rfl, ?_⟩) | (guard_target =~ (_ ∧ _) ∧ _; refine ⟨by ((repeat (first | exact trivial | refine ⟨rfl, ?_⟩)); (first | done | fail)), ?_⟩) | (refine ⟨by omega, ?_⟩) | (refine ⟨by (simp only [size_sfrom, ByteArray.size_extract, ByteArray.size_append, strOf_size, fixedL_length, lit_size, List.size_toArray, List.length_cons, List.length_nil, List.length_append, List.length_replicate]; omega), ?_⟩) | (refine ⟨0, rfl, ?_⟩) | (refine ⟨1, rfl, ?_⟩) | (refine ⟨2, rfl, ?_⟩) | (refine ⟨3, rfl, ?_⟩) | (refine ⟨4, rfl, ?_⟩) | (refine ⟨5, rfl, ?_⟩) | (refine cell_at1 (by assumption) ?_) | (refine cell_in1 (by omega) (fun x hx => ?_)) | fail)) <;> (try (conv => whnf))
  all_goals first
    | (exfalso; omega)
    | ((refine Ends.go (_) ?_ [] (Fit.q (by (repeat' (first | exact True.intro | (with_reducible exact rfl) | (guard_target =~ @Eq Nat _ _; first | exact rfl | omega) | (guard_target =~ List.map _ _ = []; exact rfl) | (first | exact congrArg (Value.int _) (by (try dsimp only); omega) | (guard_target =~ @Eq (List Value) _ _; exact rfl) | exact covL_of rfl (flat_bindF (f := rowv) (fun _ => rfl) _)) | (exact congrArg (Value.int _) (by omega)) | (exact covL_flat (flat_map (fun _ => rfl) _)) | (exact covL_flat flat_nil) | (refine covP_all ?_) | (refine covL_each ?_) | (refine ⟨?_, ?_⟩) | ((conv => whnf); (first | exact True.intro | (with_reducible exact rfl) | (guard_target =~ @Eq Nat _ _; first | exact rfl | omega) | (guard_target =~ List.map _ _ = []; exact rfl) | (first | exact congrArg (Value.int _) (by (try dsimp only); omega) | (guard_target =~ @Eq (List Value) _ _; exact rfl) | exact covL_of rfl (flat_bindF (f := rowv) (fun _ => rfl) _)) | (exact congrArg (Value.int _) (by omega)) | (exact covL_flat (flat_map (fun _ => rfl) _)) | (exact covL_flat flat_nil) | (refine covP_all ?_) | (refine covL_each ?_) | (refine ⟨?_, ?_⟩) | done)))); (first | done | fail)) (by rfl) (by rfl))); exact decide_eq_true (by omega))
    | trace_state
end Go.Proofs.YtajmmolfnjdanaaGreatDoor
namespace Go.Proofs.YtajmmolfnjdanaaGreatDoor
open Go.RowKit
set_option linter.unusedSimpArgs false
set_option linter.unusedVariables false
theorem var_at {name : String} {g : Nat} (hg : Tryz.prog.globalNamed name = some g) {W : World} {cs : Array Value} (hv : W.var? Tryz.prog name = some cs) : ∃ o, W.heap[g]? = some o ∧ ∀ w : World, w.heap[g]? = some o → w.var? Tryz.prog name = some cs := by
  unfold World.var? at hv
  simp only [hg, Option.bind_some] at hv
  cases h : W.heap[g]? with
  | none => rw [h] at hv; cases hv
  | some o =>
    refine ⟨o, rfl, fun w hw => ?_⟩
    unfold World.var?
    simp only [hg, Option.bind_some]
    rw [hw]; rw [h] at hv; exact hv
theorem star_err : Tryz.prog.typeName? 3 139 = some "*errors.errorString" := by kernel_rfl
theorem row_err (u : TypeId) (h : Tryz.prog.typeName? 3 u = some "*errors.errorString") : u = 139 :=
  typeName_ptr_named (nm := "errors.errorString") (by kernel_rfl) (by kernel_rfl) (by decide) u h
/-- The three variables, as the rows list them. -/
structure Glob (W : World) where
  gP : Nat
  gR : Nat
  gS : Nat
  oP : Obj
  oR : Obj
  oS : Obj
  hP : PowAt gP oP
  hR : ErrAt "strconv.ErrRange" gR oR
  hS : ErrAt "strconv.ErrSyntax" gS oS
  wP : W.heap[gP]? = some oP
  wR : W.heap[gR]? = some oR
  wS : W.heap[gS]? = some oS
theorem glob_of {W : World} (h1 : Lib.TabIs Tryz.prog W "internal/strconv.uint64pow10" .u64 Lib.pow10Tab) (h2 : ∃ tp p, W.var? Tryz.prog "strconv.ErrRange" = some #[.iface tp p]) (h3 : ∃ tp p, W.var? Tryz.prog "strconv.ErrSyntax" = some #[.iface tp p]) : Nonempty (Glob W) := by
  obtain ⟨t2, p2, h2⟩ := h2
  obtain ⟨t3, p3, h3⟩ := h3
  obtain ⟨oP, wP, vP⟩ := var_at (g := 3) (by kernel_rfl) h1
  obtain ⟨oR, wR, vR⟩ := var_at (g := 5) (by kernel_rfl) h2
  obtain ⟨oS, wS, vS⟩ := var_at (g := 4) (by kernel_rfl) h3
  exact ⟨⟨3, 5, 4, oP, oR, oS, fun w hw => vP w hw, fun w hw => ⟨t2, p2, vR w hw⟩, fun w hw => ⟨t3, p3, vS w hw⟩, wP, wR, wS⟩⟩
theorem laid_glob {W : World} (h0 : laidMetH Tryz.prog Rows.rowOrderRow.laid W) : Nonempty (Glob W) := by
  rw [MakeChecks.laidMetH_plain _ _ _ (by kernel_rfl)] at h0
  have h : laidMet Tryz.prog Rows.rowOrderRow.laid W := h0
  have h3 := h.tail.tail
  have h5 := h3.tail.tail
  have h6 := h5.tail
  have t1 : Lib.TabIs Tryz.prog W "internal/strconv.uint64pow10" .u64 Lib.pow10Tab := Lib.tabIs_of_head (g := 3) (t := 126) (e := 53) (n := 20) (by kernel_rfl) (by kernel_rfl) (by kernel_rfl) (by kernel_rfl) (by kernel_rfl) (by kernel_rfl) h3
  obtain ⟨a0, s0, hv0, -, -, -⟩ := laid_sentinel (g := 5) h5 (by kernel_rfl) (by kernel_rfl) Tryz.underlying49 row_err Tryz.underlying139 Tryz.underlying141 rfl rfl Tryz.underlying9 (by kernel_rfl) (by kernel_rfl)
  obtain ⟨a1, s1, hv1, -, -, -⟩ := laid_sentinel (g := 4) h6 (by kernel_rfl) (by kernel_rfl) Tryz.underlying49 row_err Tryz.underlying139 Tryz.underlying141 rfl rfl Tryz.underlying9 (by kernel_rfl) (by kernel_rfl)
  exact glob_of t1 ⟨_, _, hv0⟩ ⟨_, _, hv1⟩
theorem cell_at {g : Nat} {W : World} {v : Value} (h : W.cell? ⟨g, 0, none⟩ = some v) : ∃ o, W.heap[g]? = some o ∧ ∀ w : World, w.heap[g]? = some o → w.cell? ⟨g, 0, none⟩ = some v := by
  unfold World.cell? at *
  dsimp only at *
  cases hg : W.heap[g]? with
  | none => rw [hg] at h; cases h
  | some o =>
    refine ⟨o, rfl, fun w hw => ?_⟩
    rw [hg] at h; rw [hw]; exact h
theorem laid_max {W : World} (SH : W.ShapedOpen Tryz.prog) : ∃ o, W.heap[0]? = some o ∧ MaxAt 0 o := by
  obtain ⟨m, hm⟩ := Tryz.laysM155.s1_3 W SH
  obtain ⟨o, ho, hc⟩ := cell_at (g := 0) hm
  exact ⟨o, ho, fun w hw => ⟨m, hc w hw⟩⟩
/-- The four variables, seen. -/
theorem start_globM {W : World} (G : Glob W) {oM : Obj} (wM : W.heap[0]? = some oM) : ∃ m, HRel (fun _ => False) W.heap.size W m [(3, .gv 0 oM), (2, .gv G.gS G.oS), (1, .gv G.gR G.oR), (0, .gv G.gP G.oP)] 4 W ∧ (∀ i it, lkH [(3, .gv 0 oM), (2, .gv G.gS G.oS), (1, .gv G.gR G.oR), (0, .gv G.gP G.oP)] i = some it → it.mine = false) := by
  obtain ⟨m1, _, H1, v1⟩ := (HRel.start W).gvar (fun i it e => by cases e) G.wP
  obtain ⟨m2, _, H2, v2⟩ := H1.gvar v1 G.wR
  obtain ⟨m3, _, H3, v3⟩ := H2.gvar v2 G.wS
  obtain ⟨m4, _, H4, v4⟩ := H3.gvar v3 wM
  exact ⟨m4, H4, v4⟩
abbrev gv4 (gP gR gS g : Nat) (oP oR oS o : Obj) : HP := [(0, .gv gP oP), (1, .gv gR oR), (2, .gv gS oS), (3, .gv g o)]
end Go.Proofs.YtajmmolfnjdanaaGreatDoor
