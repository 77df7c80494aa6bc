/- How the reference reads a quoted text from an index on. -/
import Derived.Test.YtdiacjlnedccpaaDoorValParse
namespace Go.Proofs.YtdiacjlnedccpaaDoor
open Go.RowKit
set_option linter.unusedSimpArgs false
set_option linter.unusedVariables false
section
variable {s : ByteArray} {F i : Nat} {d : List UInt8}
/-- From F on, up to i, the text d was read. -/
structure RQ (s : ByteArray) (F : Nat) (d : List UInt8) (i : Nat) : Prop where
  lo : F ≤ i
  q : QH (bytesOf (sfrom s F)) d (i - F)
theorem f_get (s : ByteArray) (F j : Nat) : (bytesOf (sfrom s F)).getD j 0 = bq s (F + j) := by
  unfold bq
  rw [bytesOf_sfrom, List.getD_eq_getElem?_getD, List.getD_eq_getElem?_getD, List.getElem?_drop]
theorem f_len (s : ByteArray) (F : Nat) : (bytesOf (sfrom s F)).length = s.size - F := by rw [bytesOf_length, size_sfrom]
theorem RQ.g0 (h : RQ s F d i) : (bytesOf (sfrom s F)).getD (i - F) 0 = bq s i := by rw [f_get]; have := h.lo; rw [show F + (i - F) = i by omega]
theorem RQ.g1 (h : RQ s F d i) : (bytesOf (sfrom s F)).getD (i - F + 1) 0 = bq s (i + 1) := by rw [f_get]; have := h.lo; rw [show F + (i - F + 1) = i + 1 by omega]
theorem RQ.g2 (h : RQ s F d i) : (bytesOf (sfrom s F)).getD (i - F + 2) 0 = bq s (i + 2) := by rw [f_get]; have := h.lo; rw [show F + (i - F + 2) = i + 2 by omega]
theorem RQ.next {e : List UInt8} {k : Nat} (h : RQ s F d i) (hq : QH (bytesOf (sfrom s F)) e (i - F + k)) : RQ s F e (i + k) :=
  ⟨by have := h.lo; omega, by have := h.lo; rw [show i + k - F = i - F + k by omega]; exact hq⟩
theorem rq_start : RQ s F [] F := ⟨Nat.le_refl _, by rw [Nat.sub_self]; exact q_start⟩
abbrev QB (s : ByteArray) (F : Nat) : Prop := quot 0 (bytesOf (sfrom s F)) = .bad 4
theorem rq_none (h : RQ s F d i) (hi : s.size ≤ i) : QB s F := q_none h.q (by rw [f_len]; have := h.lo; omega)
theorem rq_close (h : RQ s F d i) (hi : i < s.size) (hb : bq s i = 39) (hn : s.size ≤ i + 1 ∨ bq s (i + 1) ≠ 39) : quot 0 (bytesOf (sfrom s F)) = ⟨d, i - F + 1, 0⟩ := by
  have lo := h.lo
  refine q_close h.q (by rw [f_len]; omega) (h.g0.trans hb) ?_
  rw [Bool.eq_false_iff]
  intro hp
  obtain ⟨t, ht⟩ := pre1.1 hp
  have hl := congrArg List.length ht
  rw [List.length_drop, f_len, List.length_cons] at hl
  rcases hn with hn | hn
  · omega
  · rw [drop_getD (by rw [f_len]; omega), h.g1] at ht
    injection ht with ht _
    exact hn ht
theorem rq_two (h : RQ s F d i) (hi : i + 1 < s.size) (hb : bq s i = 39) (hn : bq s (i + 1) = 39) : (d.length = 2000 → QB s F) ∧ (d.length ≠ 2000 → RQ s F (d ++ [39]) (i + 2)) := by
  have lo := h.lo
  have := q_two h.q (by rw [f_len]; omega) (h.g0.trans hb) (pre1.2 ⟨_, by rw [drop_getD (by rw [f_len]; omega), h.g1, hn]⟩)
  exact ⟨this.2.1, fun k => h.next (this.2.2 k)⟩
theorem rq_short (h : RQ s F d i) (hi : i < s.size) (hb : bq s i = 92) (hl : s.size ≤ i + 2) : QB s F := by
  have lo := h.lo
  exact q_short h.q (by rw [f_len]; omega) (h.g0.trans hb) (by rw [f_len]; omega)
theorem rq_hexbad (h : RQ s F d i) (hl : i + 2 < s.size) (hb : bq s i = 92) (hx : hexI (bq s (i + 1)) < 0 ∨ hexI (bq s (i + 2)) < 0) : QB s F := by
  have lo := h.lo
  exact q_hexbad h.q (by rw [f_len]; omega) (h.g0.trans hb) (by rw [h.g1, h.g2]; exact hx)
theorem rq_notodd (h : RQ s F d i) (hl : i + 2 < s.size) (hb : bq s i = 92) (hx : ¬ (hexI (bq s (i + 1)) < 0 ∨ hexI (bq s (i + 2)) < 0)) (ho : oddB (comb (bq s (i + 1)) (bq s (i + 2))) = false) : QB s F := by
  have lo := h.lo
  exact q_notodd h.q (by rw [f_len]; omega) (h.g0.trans hb) (by rw [h.g1, h.g2]; exact hx) (by rw [h.g1, h.g2]; exact ho)
theorem rq_hex (h : RQ s F d i) (hl : i + 2 < s.size) (hb : bq s i = 92) (hx : ¬ (hexI (bq s (i + 1)) < 0 ∨ hexI (bq s (i + 2)) < 0)) (ho : oddB (comb (bq s (i + 1)) (bq s (i + 2))) = true) :
    (d.length = 2000 → QB s F) ∧ (d.length ≠ 2000 → RQ s F (d ++ [comb (bq s (i + 1)) (bq s (i + 2))]) (i + 3)) := by
  have lo := h.lo
  have := q_hex h.q (by rw [f_len]; omega) (h.g0.trans hb) (by rw [h.g1, h.g2]; exact hx) (by rw [h.g1, h.g2]; exact ho)
  rw [h.g1, h.g2] at this
  exact ⟨this.1, fun k => h.next (this.2 k)⟩
theorem rq_oddb (h : RQ s F d i) (hi : i < s.size) (h1 : bq s i ≠ 39) (h2 : bq s i ≠ 92) (ho : oddB (bq s i) = true) : QB s F := by
  have lo := h.lo
  exact q_oddb h.q (by rw [f_len]; omega) (by rw [h.g0]; exact h1) (by rw [h.g0]; exact h2) (by rw [h.g0]; exact ho)
theorem rq_plain (h : RQ s F d i) (hi : i < s.size) (h1 : bq s i ≠ 39) (h2 : bq s i ≠ 92) (ho : oddB (bq s i) = false) :
    (d.length = 2000 → QB s F) ∧ (d.length ≠ 2000 → RQ s F (d ++ [bq s i]) (i + 1)) := by
  have lo := h.lo
  have := q_plain h.q (by rw [f_len]; omega) (by rw [h.g0]; exact h1) (by rw [h.g0]; exact h2) (by rw [h.g0]; exact ho)
  rw [h.g0] at this
  exact ⟨this.1, fun k => h.next (this.2 k)⟩
theorem QRes.bad {kd : Int} (h : QB s F) : QRes (sfrom s F) kd (F : Nat) (0, 0, ⟨#[]⟩, 0, 4) := ⟨_, QuoD.bad (by decide) h, .inr ⟨by decide, rfl⟩⟩
theorem QRes.ok {kd : Int} {t : ByteArray} (lo : F ≤ i) (h : quot 0 (bytesOf (sfrom s F)) = ⟨d, i - F + 1, 0⟩) (ht : t = strOf d) : QRes (sfrom s F) kd (F : Nat) (kd, 0, t, (i : Nat) + 1, 0) :=
  ⟨_, QuoD.ok h ht, .inl ⟨rfl, by dsimp only; rw [show (((i - F + 1 : Nat) : Int) + (F : Nat)) = (i : Nat) + 1 by omega]⟩⟩
end
end Go.Proofs.YtdiacjlnedccpaaDoor
