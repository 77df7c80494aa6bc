/- Trunks there and back, in plain words. No program in sight. -/
import Derived.Test.YtpndofpcghfjdaaGreatDoorBookPure
namespace Go.Proofs.YtpndofpcghfjdaaGreatDoor
theorem mid {A B C : List UInt8} {a b : Nat} (ha : A.length = a) (hb : B.length = b) : ((A ++ (B ++ C)).take (a + b)).drop a = B := by
  subst ha hb
  rw [← List.append_assoc, List.take_append_of_le_length (by rw [List.length_append]; exact Nat.le_refl _), List.take_of_length_le (by rw [List.length_append]; exact Nat.le_refl _), List.drop_left]
theorem pad_head {next : Int} {l : List Int} (hl : l.length ≤ 50) : trunkL next l = trunkHead next l l.length ++ List.replicate (232 - (trunkHead next l l.length).length) 0 := by
  have hlen := trunkHead_length next l l.length
  unfold trunkL padL
  rw [List.take_of_length_le (by omega)]
theorem four_back {n : Int} (h : 0 ≤ n ∧ n < 4096) : (((numOf (fixedL n.toNat 4) : Nat)) : Int) = n := by
  rw [numOf_fixedL]
  have : n.toNat % 256 ^ 4 = n.toNat := Nat.mod_eq_of_lt (by omega)
  omega
theorem numsL_split {l : List Int} {i : Nat} {x : Int} (h : l[i]? = some x) : numsL l = numsL (l.take i) ++ (fixedL x.toNat 4 ++ numsL (l.drop (i + 1))) := by
  obtain ⟨hi, he⟩ := List.getElem?_eq_some_iff.1 h
  have : l = l.take i ++ x :: l.drop (i + 1) := by rw [← he, List.getElem_cons_drop, List.take_append_drop]
  conv => lhs; rw [this]
  simp [numsL]
theorem trS_bytes {next : Int} {l : List Int} (h : fitT next l = true) : bytesOf (trS next l) = trunkL next l := by rw [(trS_yes h).1, bytesOf_strOf]
theorem trS_size {next : Int} {l : List Int} (h : fitT next l = true) : (trS next l).size = 232 := by
  rw [← bytesOf_length, trS_bytes h]; unfold trunkL; exact padL_length _
theorem next_back {next : Int} {l : List Int} (h : fitT next l = true) : nextS (trS next l) = next := by
  obtain ⟨h1, h2, h3⟩ := fitT_iff.1 h
  unfold nextS
  rw [bytesOf_extract, trS_bytes h, pad_head h2]
  unfold trunkHead
  rw [List.append_assoc, List.append_assoc, List.append_assoc]
  have := mid (A := [4]) (B := fixedL next.toNat 4) (C := fixedL l.length 1 ++ (numsL (l.take l.length) ++ List.replicate (232 - ([4] ++ fixedL next.toNat 4 ++ fixedL l.length 1 ++ numsL (l.take l.length)).length) 0)) (a := 1) (b := 4) rfl (fixedL_length _ _)
  rw [show (5 : Nat) = 1 + 4 from rfl, this, four_back h1]
theorem ent_back {next : Int} {l : List Int} (h : fitT next l = true) {i : Nat} {x : Int} (hx : l[i]? = some x) : ent (trS next l) i = x := by
  obtain ⟨h1, h2, h3⟩ := fitT_iff.1 h
  have hxx := even_at h3 hx
  obtain ⟨hi, _⟩ := List.getElem?_eq_some_iff.1 hx
  unfold ent
  rw [bytesOf_extract, trS_bytes h, pad_head h2]
  generalize List.replicate (232 - (trunkHead next l l.length).length) (0 : UInt8) = Z
  unfold trunkHead
  rw [List.take_of_length_le (Nat.le_refl l.length), numsL_split hx]
  have e : [4] ++ fixedL next.toNat 4 ++ fixedL l.length 1 ++ (numsL (l.take i) ++ (fixedL x.toNat 4 ++ numsL (l.drop (i + 1)))) ++ Z = ([4] ++ fixedL next.toNat 4 ++ fixedL l.length 1 ++ numsL (l.take i)) ++ (fixedL x.toNat 4 ++ (numsL (l.drop (i + 1)) ++ Z)) := by simp only [List.append_assoc]
  rw [e]
  have := mid (A := [4] ++ fixedL next.toNat 4 ++ fixedL l.length 1 ++ numsL (l.take i)) (B := fixedL x.toNat 4) (C := numsL (l.drop (i + 1)) ++ Z) (a := 6 + 4 * i) (b := 4) (by
    simp only [List.length_append, fixedL_length, numsL_length, List.length_take, List.length_cons, List.length_nil]; omega) (fixedL_length _ _)
  rw [this, four_back (by omega)]
theorem cnt_back {next : Int} {l : List Int} (h : fitT next l = true) : cntS (trS next l) = l.length := by
  unfold cntS; rw [trS_bytes h]; exact trunkL_count (fitT_iff.1 h).2.1
theorem ents_back {next : Int} {l : List Int} (h : fitT next l = true) : ents (trS next l) l.length = l := by
  apply List.ext_getElem?
  intro i
  unfold ents
  rw [List.getElem?_map]
  rcases Nat.lt_or_ge i l.length with hi | hi
  · rw [List.getElem?_range hi, Option.map_some, ent_back h (List.getElem?_eq_getElem hi), List.getElem?_eq_getElem hi]
  · rw [List.getElem?_eq_none (by simpa using hi), List.getElem?_eq_none hi]; rfl
theorem trk_back {next : Int} {l : List Int} (h : fitT next l = true) : isTrk (trS next l) = true := by
  have h2 := (fitT_iff.1 h).2.1
  unfold isTrk
  rw [next_back h, cnt_back h, show min l.length 50 = l.length by omega, ents_back h, h, trS_size h]
  simp [strEq]
/-- What was written is read. -/
theorem dec_back {next : Int} {l : List Int} (h : fitT next l = true) : decTE (trS next l) = 0 ∧ decTN (trS next l) = next ∧ decTL (trS next l) = l := by
  obtain ⟨h1, h2, h3⟩ := dec_good (trk_back h)
  have h4 := (fitT_iff.1 h).2.1
  rw [next_back h] at h2
  rw [cnt_back h, show min l.length 50 = l.length by omega, ents_back h] at h3
  exact ⟨h1, h2, h3⟩
theorem getB_cons (p : Int × ByteArray) (B : Bk) (m : Int) : getB (p :: B) m = if p.1 = m then p.2 else getB B m := by
  unfold getB
  by_cases h : p.1 = m
  · rw [List.find?_cons_of_pos (by simpa using h), if_pos h]
  · rw [List.find?_cons_of_neg (by simpa using h), if_neg h]
theorem putB_cons (p : Int × ByteArray) (B : Bk) (n : Int) (d : ByteArray) : putB (p :: B) n d = if p.1 = n then (n, d) :: B else p :: putB B n d := by
  unfold putB
  rw [List.findIdx?_cons]
  by_cases h : p.1 = n
  · rw [if_pos (by simpa using h), if_pos h]; rfl
  · rw [if_neg (by simpa using h), if_neg h]
    cases e : List.findIdx? (fun p => p.1 == n) B with
    | none => rfl
    | some k => rfl
theorem getB_put (n m : Int) (d : ByteArray) : ∀ B : Bk, getB (putB B n d) m = if m = n then d else getB B m
  | [] => by
    have : putB [] n d = [(n, d)] := rfl
    rw [this, getB_cons]
    by_cases h : n = m
    · rw [if_pos h, if_pos h.symm]
    · rw [if_neg h, if_neg (fun e => h e.symm)]
  | p :: B => by
    rw [putB_cons]
    by_cases h : p.1 = n
    · rw [if_pos h, getB_cons, getB_cons]
      by_cases hm : n = m
      · rw [if_pos hm, if_pos hm.symm]
      · rw [if_neg hm, if_neg (fun e => hm e.symm), if_neg (fun e => hm (h.symm.trans e))]
    · rw [if_neg h, getB_cons, getB_put n m d B, getB_cons]
      by_cases hm : m = n
      · rw [if_pos hm, if_pos hm, if_neg (fun e => h (e.trans hm))]
      · rw [if_neg hm, if_neg hm]
theorem putB_len (n : Int) (d : ByteArray) : ∀ B : Bk, (putB B n d).length ≤ B.length + 1
  | [] => Nat.le_refl _
  | p :: B => by
    rw [putB_cons]
    split
    · simp
    · simp only [List.length_cons]; have := putB_len n d B; omega
end Go.Proofs.YtpndofpcghfjdaaGreatDoor
