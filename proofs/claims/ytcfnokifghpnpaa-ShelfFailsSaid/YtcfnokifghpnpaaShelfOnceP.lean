/- What the walks of the laws of layer 10 share. -/
import Derived.Test.YtcfnokifghpnpaaShelfAwake
import Derived.Test.YtcfnokifghpnpaaEngN
import Derived.Test.YtcfnokifghpnpaaEngU
namespace Go.Proofs.Ytcfnokifghpnpaa
open Go.RowKit
set_option linter.unusedSimpArgs false
set_option linter.unusedVariables false
abbrev bv (b : Bool) : Value := .bool b
/-- A shelf at i, its pages at j. -/
abbrev shK (i j : Nat) (lim : Int) (h : Hd) (B : Bk) (left : Int) : HP := [(i, .own 92 [iv lim, iv h.m, iv h.p, iv h.t, iv h.x, iv h.r, .int .u64 h.c, mapV j, iv left]), (j, .mp (B.map nv) (B.map dv))]
/-- What holds between two calls. -/
structure InvS (U : List Int) (h : Hd) (B : Bk) (ch : Ch) : Prop where
  inv : ShI h B ch
  hp : h.p = 1 + U.length + h.x
  nd : (U ++ fr ch).Nodup
  hU : ∀ y ∈ U, 1 ≤ y ∧ y < h.p
theorem InvS.start : InvS [] ⟨1, 1, 0, 0, 0, 0⟩ [] [] := ⟨ShI.start, rfl, List.nodup_nil, fun y hy => by cases hy⟩
theorem InvS.at {U : List Int} {h : Hd} {B : Bk} {ch : Ch} {q : Nat} {n : Int} (I : InvS U h B ch) (hq : U[q]? = some n) : (1 ≤ n ∧ n < h.p) ∧ n ∉ fr ch := by
  have hm := List.mem_of_getElem? hq
  exact ⟨I.hU n hm, fun e => (List.nodup_append.1 I.nd).2.2 n hm n e rfl⟩
theorem InvS.free {U : List Int} {h : Hd} {B : Bk} {ch : Ch} {q : Nat} {n : Int} {z : SN} {ch' : Ch} (I : InvS U h B ch) (hq : U[q]? = some n) (N : FreeI h B ch n z ch') : InvS (U.take q ++ U.drop (q + 1)) z.h z.B ch' := by
  obtain ⟨hk, he⟩ := List.getElem?_eq_some_iff.1 hq
  have hsplit : U = U.take q ++ n :: U.drop (q + 1) := by rw [← he, List.getElem_cons_drop, List.take_append_drop]
  have hlen : (U.take q ++ U.drop (q + 1)).length + 1 = U.length := by simp; omega
  have h1 := I.hp
  have h2 := N.p
  have h3 := N.x
  refine ⟨N.inv, by omega, ?_, fun y hy => ?_⟩
  · have hperm : (U.take q ++ U.drop (q + 1) ++ n :: fr ch).Perm (U ++ fr ch) := by
      have e : U ++ fr ch = U.take q ++ (n :: (U.drop (q + 1) ++ fr ch)) := by
        conv => lhs; rw [hsplit]
        simp
      rw [e, List.append_assoc]
      exact List.Perm.append_left _ List.perm_middle
    rw [N.fr]
    exact hperm.nodup_iff.2 I.nd
  · have hy' : y ∈ U := by
      rw [hsplit]
      rcases List.mem_append.1 hy with hy | hy
      · exact List.mem_append_left _ hy
      · exact List.mem_append_right _ (List.mem_cons_of_mem _ hy)
    have := I.hU y hy'
    omega
theorem InvS.new {U : List Int} {lim : Int} {h : Hd} {B : Bk} {ch : Ch} {z : SN} {ch' : Ch} (I : InvS U h B ch) (N : NewI lim h B ch z ch') (hl : h.p ≤ lim) : (1 ≤ z.n ∧ z.n < z.h.p ∧ z.n < lim ∧ z.h.p ≤ lim) ∧ z.n ∉ U ∧ InvS (U ++ [z.n]) z.h z.B ch' := by
  have h1 := I.hp
  have h6 := I.nd
  have h7 := I.inv.bnd
  rcases N.which with ⟨e1, e2, e3, e4⟩ | ⟨e1, e2, e3, e4, e5, e6, e7⟩
  · have hb := I.inv.rep.bound z.n (by rw [e1]; simp)
    have hnU : z.n ∉ U := fun hm => (List.nodup_append.1 h6).2.2 z.n hm z.n (by rw [e1]; simp) rfl
    refine ⟨by omega, hnU, N.inv, by simp; omega, ?_, fun y hy => ?_⟩
    · rw [e1] at h6; simpa using h6
    · rcases List.mem_append.1 hy with hy | hy
      · have := I.hU y hy; omega
      · rw [List.mem_singleton.1 hy]; omega
  · have hnU : z.n ∉ U := fun hm => by have := I.hU _ hm; omega
    refine ⟨by omega, hnU, N.inv, by simp; omega, ?_, fun y hy => ?_⟩
    · rw [e1] at h6
      rw [e2, List.append_nil]
      rw [List.append_nil] at h6
      exact List.nodup_append.2 ⟨h6, by simp, fun a ha b hb => by rw [List.mem_singleton.1 hb]; rintro rfl; exact hnU ha⟩
    · rcases List.mem_append.1 hy with hy | hy
      · have := I.hU y hy; omega
      · rw [List.mem_singleton.1 hy]; omega
theorem drop_cells {α : Type} {f : α → Value} {l : List α} {q : Nat} (h : q ≤ l.length) : ((l.map f).drop (0 + q * 1)).take ((l.length - q) * 1) = (l.drop q).map f ∧ ((l.drop q).map f).length = (l.length - q) * 1 := by
  constructor
  · rw [Nat.zero_add, Nat.mul_one, Nat.mul_one, List.map_drop, List.take_of_length_le (by rw [List.length_drop, List.length_map]; omega)]
  · rw [List.length_map, List.length_drop, Nat.mul_one]
theorem all_one {α : Type} {f : α → Value} (h : ∀ a, (f a).oneCell' = true) (l : List α) : oneAll (l.map f) = true := by
  unfold oneAll; rw [List.all_map, List.all_eq_true]; intro a _; exact h a
theorem app_nil0 {α : Type} {f : α → Value} {l : List α} : [] ++ l.map f = l.map f := rfl
theorem drop_none {l : List Int} (h : l.length ≤ 1) : [] ++ [] = (l.drop 1).map iv := by rw [List.drop_eq_nil_of_le h]; rfl
end Go.Proofs.Ytcfnokifghpnpaa
