/- Trunks, in plain words. No program in sight. -/
import Derived.Test.YtpndofpcghfjdaaGreatDoorCall
namespace Go.Proofs.YtpndofpcghfjdaaGreatDoor
def oddT (n : Int) : Bool := decide (n < 1) || decide (n ≥ 4096)
theorem any_at {l : List Int} {p : Int → Bool} {k : Nat} {x : Int} (h : l[k]? = some x) (hp : p x = true) : l.any p = true := List.any_eq_true.2 ⟨x, List.mem_of_getElem? h, hp⟩
theorem take_step {α : Type} {l : List α} {k : Nat} {x : α} (h : l[k]? = some x) : l.take (k + 1) = l.take k ++ [x] := by rw [List.take_add_one, h]; rfl
theorem any_step {l : List Int} {p : Int → Bool} {k : Nat} {x : Int} (h : (l.take k).any p = false) (hx : l[k]? = some x) (hp : p x = false) : (l.take (k + 1)).any p = false := by
  rw [take_step hx, List.any_append, h]; simp [hp]
theorem even_at {l : List Int} {k : Nat} {x : Int} (h : l.any oddT = false) (hx : l[k]? = some x) : 1 ≤ x ∧ x < 4096 := by
  have := List.any_eq_false.1 h x (List.mem_of_getElem? hx)
  unfold oddT at this; simp at this; omega
/-- Is it a trunk? -/
def fitT (next : Int) (l : List Int) : Bool := (next == 0 || !oddT next) && decide (l.length ≤ 50) && !l.any oddT
theorem fitT_iff {next : Int} {l : List Int} : fitT next l = true ↔ (0 ≤ next ∧ next < 4096) ∧ l.length ≤ 50 ∧ l.any oddT = false := by
  unfold fitT
  simp only [Bool.and_eq_true, Bool.or_eq_true, beq_iff_eq, Bool.not_eq_true', decide_eq_true_eq]
  constructor
  · rintro ⟨⟨h1, h2⟩, h3⟩
    refine ⟨?_, h2, h3⟩
    unfold oddT at h1; simp at h1; omega
  · rintro ⟨h1, h2, h3⟩
    refine ⟨⟨?_, h2⟩, h3⟩
    unfold oddT; simp; omega
def numsL (l : List Int) : List UInt8 := l.flatMap fun n => fixedL n.toNat 4
theorem numsL_length (l : List Int) : (numsL l).length = 4 * l.length := by
  induction l with
  | nil => rfl
  | cons a l ih =>
    have : numsL (a :: l) = fixedL a.toNat 4 ++ numsL l := rfl
    rw [this, List.length_append, ih, fixedL_length, List.length_cons]; omega
theorem numsL_snoc (l : List Int) (x : Int) : numsL (l ++ [x]) = numsL l ++ fixedL x.toNat 4 := by simp [numsL]
def trunkHead (next : Int) (l : List Int) (k : Nat) : List UInt8 := [4] ++ fixedL next.toNat 4 ++ fixedL l.length 1 ++ numsL (l.take k)
theorem trunkHead_length (next : Int) (l : List Int) (k : Nat) : (trunkHead next l k).length = 6 + 4 * (min k l.length) := by
  unfold trunkHead
  simp only [List.length_append, fixedL_length, numsL_length, List.length_take, List.length_cons, List.length_nil]
def trunkL (next : Int) (l : List Int) : List UInt8 := padL (trunkHead next l l.length)
def headS (next : Int) (l : List Int) (k : Nat) : ByteArray := strOf (trunkHead next l k)
theorem headS_zero (next : Int) (l : List Int) : ⟨#[4]⟩ ++ strOf (fixedL next.toNat 4) ++ strOf (fixedL ((l.length : Nat) : Int).toNat 1) = headS next l 0 := by
  unfold headS trunkHead
  rw [← bytesOf_inj]
  simp only [bytesOf_append, bytesOf_strOf, List.take_zero, numsL, List.flatMap_nil, List.append_nil]
  rfl
theorem headS_step {next : Int} {l : List Int} {k : Nat} {x : Int} (h : l[k]? = some x) : headS next l k ++ strOf (fixedL x.toNat 4) = headS next l (k + 1) := by
  unfold headS trunkHead
  rw [← bytesOf_inj]
  simp only [bytesOf_append, bytesOf_strOf, take_step h, numsL_snoc, List.append_assoc]
theorem headS_size (next : Int) (l : List Int) (k : Nat) : (headS next l k).size = 6 + 4 * (min k l.length) := by unfold headS; rw [strOf_size, trunkHead_length]
def trS (next : Int) (l : List Int) : ByteArray := if fitT next l = true then strOf (trunkL next l) else ⟨#[]⟩
def trE (next : Int) (l : List Int) : Int := if fitT next l = true then 0 else 1
theorem trS_no {next : Int} {l : List Int} (h : fitT next l = false) : trS next l = ⟨#[]⟩ ∧ trE next l = 1 := by unfold trS trE; simp [h]
theorem trS_yes {next : Int} {l : List Int} (h : fitT next l = true) : trS next l = strOf (trunkL next l) ∧ trE next l = 0 := by unfold trS trE; simp [h]
theorem trS_fill {next : Int} {l : List Int} (h : fitT next l = true) : headS next l l.length ++ strOf (List.replicate (232 - (headS next l l.length).size) 0) = trS next l := by
  rw [(trS_yes h).1, ← bytesOf_inj, bytesOf_append, bytesOf_strOf, bytesOf_strOf, headS_size]
  obtain ⟨_, h2, _⟩ := fitT_iff.1 h
  have h3 := trunkHead_length next l l.length
  unfold headS trunkL padL
  rw [bytesOf_strOf, List.take_of_length_le (by omega), h3]
theorem trS_full {next : Int} {l : List Int} (h : fitT next l = true) : strOf (padL (bytesOf (headS next l l.length))) = trS next l := by
  rw [(trS_yes h).1]; rfl
theorem fit_no {next : Int} {l : List Int} (h : ¬ ((0 ≤ next ∧ next < 4096) ∧ l.length ≤ 50 ∧ l.any oddT = false)) : fitT next l = false := by
  cases e : fitT next l with
  | false => rfl
  | true => exact absurd (fitT_iff.1 e) h
theorem odd_at {l : List Int} {k : Nat} {x : Int} (hx : l[k]? = some x) (h : x < 1 ∨ 4096 ≤ x) : ¬ l.any oddT = false := fun e => by have := even_at e hx; omega
/-- The number that stands in four bytes. -/
def ent (s : ByteArray) (i : Nat) : Int := ((numOf (bytesOf (s.extract (6 + 4 * i) (6 + 4 * i + 4))) : Nat) : Int)
def nextS (s : ByteArray) : Int := ((numOf (bytesOf (s.extract 1 5)) : Nat) : Int)
def ents (s : ByteArray) (k : Nat) : List Int := (List.range k).map (ent s)
theorem ents_length (s : ByteArray) (k : Nat) : (ents s k).length = k := by simp [ents]
theorem ents_step (s : ByteArray) (k : Nat) : ents s (k + 1) = ents s k ++ [ent s k] := by simp [ents, List.range_succ]
theorem ents_map {s : ByteArray} {k : Nat} {f : Int → Value} : (ents s k).map f ++ [f (ent s k)] = (ents s (k + 1)).map f := by rw [ents_step, List.map_append]; rfl
theorem ents_zero (s : ByteArray) : ents s 0 = [] := rfl
theorem ents_len1 (s : ByteArray) (k : Nat) (f : Int → Value) : ((ents s k).map f).length = k * 1 := by rw [List.length_map, ents_length, Nat.mul_one]
/-- How many numbers a page's trunk has. -/
def cntS (s : ByteArray) : Nat := ((bytesOf s).getD 5 0).toNat
theorem cnt_min (s : ByteArray) : ((min (cntS s) 50 : Nat) : Int) = min ((((bytesOf s).getD 5 0).toNat : Nat) : Int) 50 := by unfold cntS; omega
def isTrk (s : ByteArray) : Bool := decide (s.size = 232) && fitT (nextS s) (ents s (min (cntS s) 50)) && strEq (trS (nextS s) (ents s (min (cntS s) 50))) s
def decTE (s : ByteArray) : Int := if s.size ≠ 232 then 1 else if isTrk s = true then 0 else 4
def decTN (s : ByteArray) : Int := if isTrk s = true then nextS s else 0
def decTL (s : ByteArray) : List Int := if isTrk s = true then ents s (min (cntS s) 50) else []
theorem dec_short {s : ByteArray} (h : s.size ≠ 232) : decTE s = 1 ∧ decTN s = 0 ∧ decTL s = [] := by
  have e : isTrk s = false := by unfold isTrk; simp [h]
  unfold decTE decTN decTL; simp [h, e]
theorem dec_bad {s : ByteArray} (h : s.size = 232) (e : isTrk s = false) : decTE s = 4 ∧ decTN s = 0 ∧ decTL s = [] := by
  unfold decTE decTN decTL; simp [h, e]
theorem dec_good {s : ByteArray} (e : isTrk s = true) : decTE s = 0 ∧ decTN s = nextS s ∧ decTL s = ents s (min (cntS s) 50) := by
  have h : s.size = 232 := by unfold isTrk at e; simp at e; exact e.1.1
  unfold decTE decTN decTL; simp [h, e]
theorem trk_iff {s : ByteArray} (h : s.size = 232) : isTrk s = true ↔ trE (nextS s) (ents s (min (cntS s) 50)) = 0 ∧ strEq (trS (nextS s) (ents s (min (cntS s) 50))) s = true := by
  unfold isTrk
  simp only [Bool.and_eq_true, decide_eq_true_eq]
  constructor
  · rintro ⟨⟨_, h1⟩, h2⟩; exact ⟨(trS_yes h1).2, h2⟩
  · rintro ⟨h1, h2⟩
    refine ⟨⟨h, ?_⟩, h2⟩
    cases hf : fitT (nextS s) (ents s (min (cntS s) 50)) with
    | true => rfl
    | false => rw [(trS_no hf).2] at h1; cases h1
theorem trunkL_count {next : Int} {l : List Int} (h : l.length ≤ 50) : ((trunkL next l).getD 5 0).toNat = l.length := by
  have h4 : (fixedL next.toNat 4).length = 4 := fixedL_length _ _
  have h1 : numOf (fixedL l.length 1) = l.length := by rw [numOf_fixedL]; exact Nat.mod_eq_of_lt (by omega)
  have hl : (fixedL l.length 1).length = 1 := fixedL_length _ _
  obtain ⟨b, hb⟩ : ∃ b, fixedL l.length 1 = [b] := by
    match fixedL l.length 1, hl with
    | [b], _ => exact ⟨b, rfl⟩
  rw [hb] at h1
  have hlen := trunkHead_length next l l.length
  have e : (trunkL next l).getD 5 0 = b := by
    unfold trunkL padL
    rw [List.getD_eq_getElem?_getD, List.getElem?_append_left (by rw [List.length_take]; omega), List.getElem?_take, if_pos (by omega)]
    unfold trunkHead
    rw [List.append_assoc, List.append_assoc, List.getElem?_append_right (by simp), List.length_cons, List.length_nil, List.getElem?_append_right (by omega), h4, hb]
    rfl
  rw [e, ← h1]
  simp [numOf]
theorem trk_count {s : ByteArray} (h : isTrk s = true) : cntS s ≤ 50 := by
  unfold isTrk at h
  simp only [Bool.and_eq_true, decide_eq_true_eq] at h
  obtain ⟨⟨_, h2⟩, h3⟩ := h
  rw [(trS_yes h2).1, strEq_true, bytesOf_strOf] at h3
  have := trunkL_count (next := nextS s) (l := ents s (min (cntS s) 50)) (by rw [ents_length]; omega)
  rw [h3, ents_length] at this
  unfold cntS at *
  omega
/-- However many numbers are read up to a limit from 50 on: it is the same trunk, or none. -/
theorem trk_iff' {s : ByteArray} (h : s.size = 232) {m : Nat} (hm : 50 < m) : isTrk s = true ↔ trE (nextS s) (ents s (min (cntS s) m)) = 0 ∧ strEq (trS (nextS s) (ents s (min (cntS s) m))) s = true := by
  rcases Nat.lt_or_ge 50 (cntS s) with hc | hc
  · constructor
    · intro e; have := trk_count e; omega
    · rintro ⟨h1, _⟩
      have hf : fitT (nextS s) (ents s (min (cntS s) m)) = false := fit_no (fun e => by rw [ents_length] at e; omega)
      rw [(trS_no hf).2] at h1; cases h1
  · rw [trk_iff h, show min (cntS s) m = min (cntS s) 50 by omega]
end Go.Proofs.YtpndofpcghfjdaaGreatDoor
