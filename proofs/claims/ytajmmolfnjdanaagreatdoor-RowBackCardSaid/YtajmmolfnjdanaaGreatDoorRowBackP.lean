/- Rows' bytes, there and back. No program in sight. -/
import Derived.Test.YtajmmolfnjdanaaGreatDoorRowSee
namespace Go.Proofs.YtajmmolfnjdanaaGreatDoor
open Go.RowKit
set_option linter.unusedSimpArgs false
set_option linter.unusedVariables false
theorem ok_str0 {x : ByteArray} (h : x.size = 0) : x = strOf [] := (strEq_eq x ⟨#[]⟩).1 (strEq_none.2 h)
theorem decV_enc {v : Vl} (ok : OkV v) (hi : In64 v) (t : List UInt8) : decV (encV v ++ t) = (v, (encV v).length, 0) := by
  obtain ⟨k, n, x⟩ := v
  unfold In64 at hi
  unfold encV
  dsimp only at *
  rcases ok with ⟨h0, h1, h2⟩ | ⟨h0, h1⟩ | ⟨h0, h1, h2⟩
  · dsimp only at h0 h1 h2
    subst h0; subst h1
    rw [if_neg (by decide), if_neg (by decide), ok_str0 h2]; rfl
  · dsimp only at h0 h1
    subst h0
    rw [if_pos rfl, List.cons_append]
    have hu := unvar_varL (foldI_lt hi.1 hi.2) t
    have e : (UInt8.ofNat (1 : Int).toNat) = 1 := rfl
    rw [e]
    unfold decV
    dsimp only
    rw [if_neg (by decide), if_pos rfl, hu]
    dsimp only
    rw [if_neg (by decide), unfold_fold, ok_str0 h1, List.length_cons, Nat.add_comm]
  · dsimp only at h0 h1 h2
    rw [if_neg (by omega), if_pos h0, List.cons_append, List.append_assoc]
    have hu := unvar_varL (n := x.size) (by omega) (bytesOf x ++ t)
    have e : (UInt8.ofNat k.toNat = 2 ∨ UInt8.ofNat k.toNat = 3) ∧ (((UInt8.ofNat k.toNat).toNat : Nat) : Int) = k := by rcases h0 with rfl | rfl <;> exact ⟨by decide, rfl⟩
    unfold decV
    dsimp only
    rw [if_neg (by rcases e.1 with e | e <;> rw [e] <;> decide), if_neg (by rcases e.1 with e | e <;> rw [e] <;> decide), if_pos e.1, hu, e.2]
    dsimp only
    rw [if_neg (by decide), if_neg (by omega), if_neg (by rw [List.length_append, List.length_append, bytesOf_length]; omega), List.drop_left, List.take_append_of_le_length (by rw [bytesOf_length]; exact Nat.le_refl _), List.take_of_length_le (by rw [bytesOf_length]; exact Nat.le_refl _), strOf_bytesOf, h1]
    simp only [List.length_cons, List.length_append, bytesOf_length]
    congr 2; omega
theorem decN_enc : ∀ (l : Rw) (t : List UInt8), (∀ v ∈ l, OkV v) → (∀ v ∈ l, In64 v) → decN l.length (l.flatMap encV ++ t) = (l, (l.flatMap encV).length, 0)
  | [], t, _, _ => rfl
  | v :: l, t, ok, hi => by
    have hv := decV_enc (ok v (List.mem_cons_self ..)) (hi v (List.mem_cons_self ..)) (l.flatMap encV ++ t)
    have ih := decN_enc l t (fun w hw => ok w (List.mem_cons_of_mem _ hw)) (fun w hw => hi w (List.mem_cons_of_mem _ hw))
    rw [List.flatMap_cons, List.append_assoc, List.length_cons]
    unfold decN
    rw [hv]
    dsimp only
    rw [if_neg (by decide), List.drop_left, ih]
    dsimp only
    rw [if_neg (by decide), List.length_append]
theorem decR_at {r : Rw} (ok : OkR r) (hi : InR r) (t : List UInt8) : decR (encR r ++ t) = if t.length = 0 then (r, 0) else ([], 4) := by
  have h16 := ok.1
  have hu := unvar_varL (n := r.length) (by omega) (r.flatMap encV ++ t)
  have hd := decN_enc r t ok.2 hi
  unfold decR encR
  rw [List.append_assoc, hu]
  dsimp only
  rw [if_neg (by decide), if_neg (by omega)]
  unfold resN
  rw [List.drop_left, hd]
  dsimp only
  rw [if_neg (by decide)]
  simp only [List.length_append, List.nil_append]
  by_cases ht : t.length = 0
  · rw [if_neg (by omega), if_pos ht]
  · rw [if_pos (by omega), if_neg ht]
theorem decR_enc {r : Rw} (ok : OkR r) (hi : InR r) : decR (encR r) = (r, 0) := by
  have := decR_at ok hi []
  rwa [List.append_nil] at this
theorem decR_more {r : Rw} (ok : OkR r) (hi : InR r) (x : UInt8) : decR (encR r ++ [x]) = ([], 4) := decR_at ok hi [x]
theorem take_pre {a b : List UInt8} {k : Nat} (h : k ≤ a.length) : (a ++ b).take k = a.take k := List.take_append_of_le_length h
theorem take_post {a b : List UInt8} {k : Nat} (h : a.length ≤ k) : (a ++ b).take k = a ++ b.take (k - a.length) := by
  rw [List.take_append, List.take_of_length_le h]
theorem decV_cut {v : Vl} (ok : OkV v) (hi : In64 v) {k : Nat} (hk : k < (encV v).length) : decV ((encV v).take k) = badV 3 := by
  obtain ⟨kd, n, x⟩ := v
  unfold In64 at hi
  unfold encV at *
  dsimp only at *
  cases k with
  | zero => rfl
  | succ k =>
    rw [List.length_cons] at hk
    rw [List.take_succ_cons]
    rcases ok with ⟨h0, h1, h2⟩ | ⟨h0, h1⟩ | ⟨h0, h1, h2⟩
    · dsimp only at h0
      rw [if_neg (by omega), if_neg (by omega), List.length_nil] at hk
      omega
    · dsimp only at h0
      subst h0
      rw [if_pos rfl] at hk ⊢
      have hu := varL_cut (foldI_lt hi.1 hi.2) (show k < _ by omega)
      have e : (UInt8.ofNat (1 : Int).toNat) = 1 := rfl
      rw [e]
      unfold decV
      dsimp only
      rw [if_neg (by decide), if_pos rfl, hu]; rfl
    · dsimp only at h0 h1 h2
      rw [if_neg (by omega), if_pos h0] at hk ⊢
      rw [List.length_append, bytesOf_length] at hk
      have e : UInt8.ofNat kd.toNat = 2 ∨ UInt8.ofNat kd.toNat = 3 := by rcases h0 with rfl | rfl <;> decide
      unfold decV
      dsimp only
      rw [if_neg (by rcases e with e | e <;> rw [e] <;> decide), if_neg (by rcases e with e | e <;> rw [e] <;> decide), if_pos e]
      by_cases hv : k < (varL x.size).length
      · rw [take_pre (by omega), varL_cut (by omega) hv]; rfl
      · rw [take_post (by omega), unvar_varL (by omega)]
        dsimp only
        rw [if_neg (by decide), if_neg (by omega), if_pos (by rw [List.length_append, List.length_take, bytesOf_length]; omega)]
theorem decN_cut : ∀ (l : Rw) (k : Nat), (∀ v ∈ l, OkV v) → (∀ v ∈ l, In64 v) → k < (l.flatMap encV).length → decN l.length ((l.flatMap encV).take k) = ([], 0, 3)
  | [], k, _, _, hk => by simp at hk
  | v :: l, k, ok, hi, hk => by
    rw [List.flatMap_cons, List.length_append] at hk
    rw [List.flatMap_cons, List.length_cons]
    by_cases h : k < (encV v).length
    · rw [take_pre (by omega)]
      unfold decN
      rw [decV_cut (ok v (List.mem_cons_self ..)) (hi v (List.mem_cons_self ..)) h]; rfl
    · rw [take_post (by omega)]
      have hv := decV_enc (ok v (List.mem_cons_self ..)) (hi v (List.mem_cons_self ..)) ((l.flatMap encV).take (k - (encV v).length))
      have ih := decN_cut l (k - (encV v).length) (fun w hw => ok w (List.mem_cons_of_mem _ hw)) (fun w hw => hi w (List.mem_cons_of_mem _ hw)) (by omega)
      unfold decN
      rw [hv]
      dsimp only
      rw [if_neg (by decide), List.drop_left, ih]; rfl
theorem decR_cut {r : Rw} (ok : OkR r) (hi : InR r) {k : Nat} (hk : k < (encR r).length) : decR ((encR r).take k) = ([], 3) := by
  have h16 := ok.1
  unfold encR at *
  rw [List.length_append] at hk
  unfold decR
  by_cases h : k < (varL r.length).length
  · rw [take_pre (by omega), varL_cut (by omega) h]; rfl
  · rw [take_post (by omega), unvar_varL (by omega)]
    dsimp only
    rw [if_neg (by decide), if_neg (by omega)]
    unfold resN
    rw [List.drop_left, decN_cut r _ ok.2 hi (by omega)]; rfl
/-- What a value that was read of bytes is. -/
structure VBk (l : List UInt8) (z : VR3) : Prop where
  ok : OkV z.1
  i : In64 z.1
  t : encV z.1 = l.take z.2.1
  m : z.2.1 ≤ l.length
theorem decV_back {l : List UInt8} (h : (decV l).2.2 = 0) : VBk l (decV l) := by
  have hm := decV_le l
  match l with
  | [] => exact absurd h (by decide)
  | a :: r =>
    unfold decV at h hm ⊢
    dsimp only at h hm ⊢
    by_cases h0 : a = 0
    · rw [if_pos h0]
      refine ⟨.inl ⟨rfl, rfl, rfl⟩, ⟨by decide, by decide⟩, ?_, by rw [List.length_cons]; dsimp only; omega⟩
      subst h0; rfl
    · rw [if_neg h0] at h hm ⊢
      obtain ⟨u, hu⟩ : ∃ u, unvar r = u := ⟨_, rfl⟩
      rw [hu] at h hm ⊢
      obtain ⟨b, m, e⟩ := u
      dsimp only at h hm ⊢
      by_cases h1 : a = 1
      · rw [if_pos h1] at h hm ⊢
        by_cases he : e = 0
        · subst he
          rw [if_neg (by decide)] at hm ⊢
          have o := unvar_ok hu
          refine ⟨.inr (.inl ⟨rfl, rfl⟩), unfoldN_bd o.2.2.2, ?_, hm⟩
          unfold encV
          dsimp only
          rw [if_pos rfl, fold_unfold, Nat.add_comm, List.take_succ_cons, h1, o.2.2.1]; rfl
        · rw [if_pos he] at h; exact absurd h he
      · rw [if_neg h1] at h hm ⊢
        by_cases h2 : a = 2 ∨ a = 3
        · rw [if_pos h2] at h hm ⊢
          by_cases he : e = 0
          · subst he
            rw [if_neg (by decide)] at h hm ⊢
            have o := unvar_ok hu
            by_cases hg : 2000 < b
            · rw [if_pos hg] at h; exact absurd h (by decide)
            · rw [if_neg hg] at h hm ⊢
              by_cases hs : r.length - m < b
              · rw [if_pos hs] at h; exact absurd h (by decide)
              · rw [if_neg hs] at hm ⊢
                have hk : (((a.toNat : Nat) : Int) = 2 ∨ ((a.toNat : Nat) : Int) = 3) := by rcases h2 with h2 | h2 <;> rw [h2] <;> decide
                have hlen : ((r.drop m).take b).length = b := by rw [List.length_take, List.length_drop]; omega
                refine ⟨.inr (.inr ⟨hk, rfl, by dsimp only; rw [strOf_size, hlen]; omega⟩), ⟨by show (-9223372036854775808 : Int) ≤ 0; decide, by show (0 : Int) ≤ 9223372036854775807; decide⟩, ?_, hm⟩
                unfold encV
                dsimp only
                rw [if_neg (by omega), if_pos hk, strOf_size, hlen, bytesOf_strOf, o.2.2.1]
                have ea : UInt8.ofNat ((a.toNat : Nat) : Int).toNat = a := by rw [Int.toNat_natCast]; exact byte_self a
                rw [ea, show 1 + m + b = (m + b) + 1 by omega, List.take_succ_cons, List.take_add]
          · rw [if_pos he] at h; exact absurd h he
        · rw [if_neg h2] at h; exact absurd h (by decide)
structure NBk2 (n : Nat) (l : List UInt8) (z : RR3) : Prop where
  len : z.1.length = n
  ok : ∀ v ∈ z.1, OkV v
  i : ∀ v ∈ z.1, In64 v
  t : z.1.flatMap encV = l.take z.2.1
  m : z.2.1 ≤ l.length
theorem decN_back : ∀ (n : Nat) (l : List UInt8), (decN n l).2.2 = 0 → NBk2 n l (decN n l)
  | 0, l, _ => ⟨rfl, fun v hv => (by cases hv), fun v hv => (by cases hv), rfl, Nat.zero_le _⟩
  | n + 1, l, h => by
    unfold decN at h ⊢
    by_cases hv : (decV l).2.2 = 0
    · rw [if_neg (not_not_intro hv)] at h ⊢
      by_cases hn : (decN n (l.drop (decV l).2.1)).2.2 = 0
      · rw [if_neg (not_not_intro hn)]
        have b := decV_back hv
        have ih := decN_back n _ hn
        have hm := ih.m
        rw [List.length_drop] at hm
        have hm2 := b.m
        refine ⟨by simp [ih.len], fun w hw => ?_, fun w hw => ?_, ?_, by dsimp only; omega⟩
        · rcases List.mem_cons.1 hw with e | e
          · rw [e]; exact b.ok
          · exact ih.ok w e
        · rcases List.mem_cons.1 hw with e | e
          · rw [e]; exact b.i
          · exact ih.i w e
        · dsimp only; rw [List.flatMap_cons, b.t, ih.t, List.take_add]
      · rw [if_pos hn] at h; exact absurd h hn
    · rw [if_pos hv] at h; exact absurd h hv
theorem decR_back {l : List UInt8} (h : (decR l).2 = 0) : OkR (decR l).1 ∧ InR (decR l).1 ∧ encR (decR l).1 = l := by
  unfold decR at h ⊢
  obtain ⟨u, hu⟩ : ∃ u, unvar l = u := ⟨_, rfl⟩
  rw [hu] at h ⊢
  obtain ⟨b, m, e⟩ := u
  dsimp only at h ⊢
  by_cases he : e = 0
  · subst he
    rw [if_neg (by decide)] at h ⊢
    have o := unvar_ok hu
    by_cases hg : 16 < b
    · rw [if_pos hg] at h; exact absurd h (by decide)
    · rw [if_neg hg] at h ⊢
      unfold resN at h ⊢
      by_cases hn : (decN b (l.drop m)).2.2 = 0
      · rw [if_neg (not_not_intro hn)] at h ⊢
        have ih := decN_back b _ hn
        by_cases hl : m + (decN b (l.drop m)).2.1 = l.length
        · rw [if_neg (not_not_intro hl)]
          refine ⟨⟨by rw [List.nil_append, ih.len]; omega, fun v hv => ih.ok v hv⟩, fun v hv => ih.i v hv, ?_⟩
          unfold encR
          rw [List.nil_append, ih.len, ih.t, o.2.2.1]
          rw [← List.take_add, hl, List.take_length]
        · rw [if_pos hl] at h; exact absurd h (by decide)
      · rw [if_pos hn] at h; exact absurd h hn
  · rw [if_pos he] at h; exact absurd h he
theorem decR_bad {l : List UInt8} (h : (decR l).2 ≠ 0) : (decR l).1 = [] := by
  unfold decR resN at *
  by_cases h1 : (unvar l).2.2 ≠ 0
  · rw [if_pos h1]
  · rw [if_neg h1] at h ⊢
    by_cases h2 : 16 < (unvar l).1
    · rw [if_pos h2]
    · rw [if_neg h2] at h ⊢
      by_cases h3 : (decN (unvar l).1 (l.drop (unvar l).2.1)).2.2 ≠ 0
      · rw [if_pos h3]
      · rw [if_neg h3] at h ⊢
        by_cases h4 : (unvar l).2.1 + (decN (unvar l).1 (l.drop (unvar l).2.1)).2.1 ≠ l.length
        · rw [if_pos h4]
        · rw [if_neg h4] at h; exact absurd rfl h
end Go.Proofs.YtajmmolfnjdanaaGreatDoor
