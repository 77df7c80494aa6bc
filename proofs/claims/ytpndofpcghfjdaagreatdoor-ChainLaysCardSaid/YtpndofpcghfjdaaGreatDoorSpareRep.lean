/- The free pages as a row of trunks: what giving and taking does to it. No program in sight. -/
import Derived.Test.YtpndofpcghfjdaaGreatDoorSpareGood
namespace Go.Proofs.YtpndofpcghfjdaaGreatDoor
abbrev Ch := List (Int × List Int)
def top : Ch → Int | [] => 0 | (p, _) :: _ => p
/-- The free pages, the one that is taken next ahead. -/
def fr : Ch → List Int | [] => [] | (p, l) :: r => l.reverse ++ p :: fr r
def LayC (B : Bk) : Ch → Prop | [] => True | (p, l) :: r => getB B p = trS (top r) l ∧ l.length ≤ 50 ∧ LayC B r
theorem trunk_free {p : Int} {l : List Int} : ∀ {c : Ch}, (p, l) ∈ c → p ∈ fr c
  | [], h => by cases h
  | (q, k) :: r, h => by
    cases h with
    | head => simp [fr]
    | tail _ h => simp [fr, trunk_free h]
theorem LayC.put {B : Bk} {n : Int} {d : ByteArray} : ∀ {c : Ch}, LayC B c → n ∉ fr c → LayC (putB B n d) c
  | [], _, _ => trivial
  | (p, l) :: r, h, hn => by
    have h1 : p ≠ n := fun e => hn (by simp [fr, e])
    have h2 : n ∉ fr r := fun e => hn (by simp [fr, e])
    refine ⟨?_, h.2.1, LayC.put h.2.2 h2⟩
    rw [getB_put, if_neg h1]; exact h.1
structure Rep (B : Bk) (c : Ch) (P : Int) : Prop where
  lay : LayC B c
  nodup : (fr c).Nodup
  bound : ∀ x ∈ fr c, 1 ≤ x ∧ x < P
  room : P ≤ 4096
theorem Rep.nil {B : Bk} {P : Int} (h : P ≤ 4096) : Rep B [] P := ⟨trivial, List.nodup_nil, (fun x hx => by cases hx), h⟩
theorem top_bound {c : Ch} {P : Int} (h : ∀ x ∈ fr c, 1 ≤ x ∧ x < P) (hP : 0 < P) : 0 ≤ top c ∧ top c < P := by
  match c with
  | [] => exact ⟨Int.le_refl _, hP⟩
  | (p, l) :: r => have := h p (by simp [fr]); exact ⟨by show 0 ≤ p; omega, this.2⟩
theorem top_zero {c : Ch} {P : Int} (h : ∀ x ∈ fr c, 1 ≤ x ∧ x < P) : top c = 0 ↔ fr c = [] := by
  match c with
  | [] => exact ⟨fun _ => rfl, fun _ => rfl⟩
  | (p, l) :: r =>
    have := h p (by simp [fr])
    constructor
    · intro e; have : p = 0 := e; omega
    · intro e; simp [fr] at e
theorem fit_of {next P : Int} {l : List Int} (hn : 0 ≤ next ∧ next < P) (hP : P ≤ 4096) (hl : l.length ≤ 50) (h : ∀ x ∈ l, 1 ≤ x ∧ x < P) : fitT next l = true := by
  rw [fitT_iff]
  refine ⟨⟨hn.1, by omega⟩, hl, List.any_eq_false.2 fun x hx => ?_⟩
  have := h x hx
  unfold oddT; simp; omega
/-- As many as there are numbers. -/
theorem few : ∀ (k : Nat) (l : List Int), l.Nodup → (∀ x ∈ l, 1 ≤ x ∧ x < (k : Int) + 1) → l.length ≤ k
  | 0, [], _, _ => Nat.le_refl _
  | 0, x :: l, _, h => by have := h x (by simp); omega
  | k + 1, l, hn, h => by
    have h1 := few k (l.erase ((k : Int) + 1)) (hn.erase _) fun x hx => by
      have hx' := (List.Nodup.mem_erase_iff hn).1 hx
      have := h x hx'.2
      have := hx'.1
      omega
    have h2 : l.length ≤ (l.erase ((k : Int) + 1)).length + 1 := by
      rw [List.length_erase]; split <;> omega
    omega
theorem give_rep {h : Hd} {left : Int} {B : Bk} {n : Int} {z : Gave} {c : Ch} (H : GiveD h left B n z) (hc : Rep B c h.p) (ht : h.t = top c) (hx : h.x = (fr c).length) (hn : 1 ≤ n ∧ n < h.p) (hnf : n ∉ fr c) (hl : left < 0) :
    ∃ c', z.e = 0 ∧ z.h = { h with t := top c', x := h.x + 1 } ∧ (z.left < 0 ∧ left - 2 ≤ z.left) ∧ fr c' = n :: fr c ∧ Rep z.B c' h.p ∧ z.B.length ≤ B.length + 1 := by
  have hbn : ∀ x ∈ n :: fr c, 1 ≤ x ∧ x < h.p := fun x hx => by
    cases hx with
    | head => exact hn
    | tail _ hx => exact hc.bound x hx
  have hnd : (n :: fr c).Nodup := List.nodup_cons.2 ⟨hnf, hc.nodup⟩
  have hfew := few (h.p - 1).toNat (n :: fr c) hnd fun x hx => by have := hbn x hx; omega
  have hxp : h.x < h.p - 1 := by rw [hx]; simp at hfew; omega
  have hlay := hc.lay
  have hroom := hc.room
  match c, hlay, ht with
  | [], _, ht =>
    have hz := give_first H hn hxp ht (by omega)
    subst hz
    refine ⟨[(n, [])], rfl, rfl, ⟨by dsimp only; omega, by dsimp only; omega⟩, rfl, ⟨⟨?_, Nat.zero_le _, trivial⟩, hnd, hbn, hroom⟩, putB_len _ _ _⟩
    dsimp only
    rw [getB_put, if_pos rfl]; rfl
  | (p, l) :: r, ⟨h1, h2, h3⟩, ht =>
    have hp : 1 ≤ p ∧ p < h.p := hc.bound p (by simp [fr])
    have hbr : ∀ x ∈ fr r, 1 ≤ x ∧ x < h.p := fun x hx => hc.bound x (by simp [fr, hx])
    have hbl : ∀ x ∈ l, 1 ≤ x ∧ x < h.p := fun x hx => hc.bound x (by simp [fr, hx])
    have htr := top_bound hbr (by omega)
    have ht' : h.t = p := ht
    have hf := fit_of htr hroom h2 hbl
    rcases Nat.lt_or_ge l.length 50 with hl50 | hl50
    · have hf' : fitT (top r) (l ++ [n]) = true := fit_of htr hroom (by simp; omega) fun x hx => by
        rcases List.mem_append.1 hx with hx | hx
        · exact hbl x hx
        · rw [List.mem_singleton.1 hx]; exact hn
      have hz := give_more H hn hxp (by omega) (by omega) (by omega) (by rw [ht']; exact h1) hf hl50 hf'
      subst hz
      have e : fr ((p, l ++ [n]) :: r) = n :: fr ((p, l) :: r) := by simp [fr]
      have hpr : p ∉ fr r := by
        have := hc.nodup
        simp only [fr] at this
        have h5 := (List.nodup_append.1 this).2.1
        exact (List.nodup_cons.1 h5).1
      refine ⟨(p, l ++ [n]) :: r, rfl, ?_, ⟨by dsimp only; omega, by dsimp only; omega⟩, e, ⟨⟨?_, by simp; omega, ?_⟩, by rw [e]; exact hnd, by rw [e]; exact hbn, hroom⟩, putB_len _ _ _⟩
      · dsimp only [top]; rw [← ht']
      · dsimp only
        rw [ht', getB_put, if_pos rfl]
      · dsimp only
        rw [ht']; exact h3.put hpr
    · rcases H with ⟨e, _⟩ | ⟨_, _, e, _⟩ | ⟨_, _, _, e, _⟩ | ⟨_, _, _, _, tr, hT, hz⟩
      · omega
      · omega
      · omega
      · obtain rfl := trunk_good hT (by omega) (by rw [ht']; exact h1) hf
        rcases hz with ⟨e, _⟩ | ⟨_, e, _⟩ | ⟨_, _, y, hY, hz⟩
        · exact absurd rfl e
        · dsimp only at e; omega
        · have hfn : fitT p [] = true := fit_of (next := p) ⟨by omega, hp.2⟩ hroom (Nat.zero_le _) fun x hx => by cases hx
          dsimp only at hY
          rw [ht'] at hY
          obtain rfl := lay_good hY (by omega) hfn
          rcases hz with ⟨e, _⟩ | ⟨_, rfl⟩
          · exact absurd rfl e
          · have e : fr ((n, []) :: (p, l) :: r) = n :: fr ((p, l) :: r) := by simp [fr]
            refine ⟨(n, []) :: (p, l) :: r, rfl, rfl, ⟨by dsimp only; omega, by dsimp only; omega⟩, e, ⟨⟨?_, Nat.zero_le _, LayC.put (c := (p, l) :: r) ⟨h1, h2, h3⟩ hnf⟩, by rw [e]; exact hnd, by rw [e]; exact hbn, hroom⟩, putB_len _ _ _⟩
            dsimp only
            rw [getB_put, if_pos rfl]; rfl
theorem take_rep {h : Hd} {left : Int} {B : Bk} {z : Took} {c : Ch} {m : Int} {rest : List Int} (H : TakeD h left B z) (hc : Rep B c h.p) (ht : h.t = top c) (hx : h.x = (fr c).length) (hm : fr c = m :: rest) (hl : left < 0) :
    ∃ c', z.n = m ∧ z.e = 0 ∧ z.h = { h with t := top c', x := h.x - 1 } ∧ (z.left < 0 ∧ left - 2 ≤ z.left) ∧ fr c' = rest ∧ Rep z.B c' h.p ∧ z.B.length ≤ B.length + 1 := by
  have hlay := hc.lay
  have hroom := hc.room
  have hbnd := hc.bound
  have hnd := hc.nodup
  match c, hlay, ht with
  | [], _, ht => cases hm
  | (p, l) :: r, ⟨h1, h2, h3⟩, ht =>
    have hp : 1 ≤ p ∧ p < h.p := hbnd p (by simp [fr])
    have hbr : ∀ x ∈ fr r, 1 ≤ x ∧ x < h.p := fun x hx => hbnd x (by simp [fr, hx])
    have hbl : ∀ x ∈ l, 1 ≤ x ∧ x < h.p := fun x hx => hbnd x (by simp [fr, hx])
    have htr := top_bound hbr (by omega)
    have ht' : h.t = p := ht
    have hf := fit_of htr hroom h2 hbl
    have hx0 : h.x ≠ 0 := by rw [hx, hm]; simp; omega
    have hpr : p ∉ fr r := by
      simp only [fr] at hnd
      exact (List.nodup_cons.1 (List.nodup_append.1 hnd).2.1).1
    rcases List.eq_nil_or_concat l with rfl | ⟨ls, x, rfl⟩
    · have e : fr ((p, []) :: r) = p :: fr r := rfl
      rw [e] at hm hnd
      obtain ⟨rfl, rfl⟩ := List.cons.inj hm
      have hz := take_trunk H hx0 (by omega) (by rw [ht']; exact h1) hf (by omega) (by
        have := top_zero hbr
        have hlen : (fr ((p, []) :: r)).length = (fr r).length + 1 := by rw [e]; rfl
        rw [hlen] at hx
        by_cases e0 : top r = 0
        · have e1 := this.1 e0
          rw [e1] at hx
          simp [e0, hx]
        · have e1 : (fr r).length ≠ 0 := fun e1 => e0 (this.2 (List.eq_nil_of_length_eq_zero e1))
          rw [decide_eq_false e0, decide_eq_false (by omega)])
      subst hz
      exact ⟨r, ht', rfl, rfl, ⟨by dsimp only; omega, by dsimp only; omega⟩, rfl, ⟨h3, (List.nodup_cons.1 hnd).2, hbr, hroom⟩, by dsimp only; omega⟩
    · have e : fr ((p, ls ++ [x]) :: r) = x :: fr ((p, ls) :: r) := by simp [fr]
      rw [List.concat_eq_append] at *
      rw [e] at hm hnd
      obtain ⟨rfl, rfl⟩ := List.cons.inj hm
      have hxb := hbl x (by simp)
      have hf' : fitT (top r) ls = true := fit_of htr hroom (by simp at h2; omega) fun y hy => hbl y (by simp [hy])
      have hz := take_last H hx0 (by omega) (by omega) (by rw [ht']; exact h1) hf hf' htr.2 hxb.2
      subst hz
      refine ⟨(p, ls) :: r, rfl, rfl, ?_, ⟨by dsimp only; omega, by dsimp only; omega⟩, rfl, ⟨⟨?_, by simp at h2; omega, ?_⟩, (List.nodup_cons.1 hnd).2, fun y hy => hbnd y (by rw [e]; exact List.mem_cons_of_mem _ hy), hroom⟩, putB_len _ _ _⟩
      · dsimp only [top]; rw [← ht']
      · dsimp only
        rw [ht', getB_put, if_pos rfl]
      · dsimp only
        rw [ht']; exact h3.put hpr
/-- The numbers from k down. -/
def down : Nat → List Int | 0 => [] | k + 1 => ((k : Int) + 1) :: down k
theorem down_length : ∀ k, (down k).length = k | 0 => rfl | k + 1 => by simp [down, down_length k]
theorem down_mem : ∀ {k : Nat} {x : Int}, x ∈ down k → 1 ≤ x ∧ x ≤ k
  | k + 1, x, h => by
    cases h with
    | head => omega
    | tail _ h => have := down_mem h; omega
end Go.Proofs.YtpndofpcghfjdaaGreatDoor
