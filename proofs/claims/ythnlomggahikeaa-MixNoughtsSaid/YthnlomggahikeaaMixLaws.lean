/- The walks through the laws of the layer mix. -/
import Derived.Test.YthnlomggahikeaaMixWalk
namespace Go.Proofs.Ythnlomggahikeaa
open Go.RowKit

theorem u64_of_wf {x : Int} (h : (Lit.int .u64 x).wf = true) : U64 x := by
  have := bounds_u64 h
  unfold U64
  omega

theorem ret_bool {b : Bool} (h : b = true) : Ending.returned (.bool b) = .returned (.bool true) := by rw [h]

namespace mixSums
theorem walk (a0 : Int) (a1 : ByteArray) (w : World) (w0 : (Lit.int .u64 a0).wf = true) (b1 : a1.size ≤ 140737488351232) :
    Calls Try.prog 3 #[.int .u64 a0, .string a1] w fun e w' => e = .returned (.bool true) ∧ Below w.heap.size w w' := by
  have hu := u64_of_wf w0
  have hB := Below.refl w.heap.size w
  clear w0
  go_enter Try.func3, Try.ntmps3
  go_wp2_with (first | (go_at_call 13; refine (awake_c _ (Nat.le_refl _) (by assumption)).mono ?_; rintro e w1 ⟨rfl, hB1⟩) | (go_at_call 14; refine (sum_c _ _ _ hu (by omega) (Nat.le_refl _) (by assumption)).mono ?_; rintro e w1 ⟨rfl, hB1⟩) | (go_at_call 15; refine (ref_c _ _ _ hu (by omega)).mono ?_; rintro e w1 ⟨rfl, rfl⟩))
  go_ret
  exact ⟨rfl, by assumption⟩
end mixSums

namespace mixGoes
theorem walk (a0 : Int) (a1 a2 : ByteArray) (w : World) (w0 : (Lit.int .u64 a0).wf = true) (b1 : a1.size ≤ 140737488351232) (b2 : a2.size ≤ 140737488351232) :
    Calls Try.prog 4 #[.int .u64 a0, .string a1, .string a2] w fun e w' => e = .returned (.bool true) ∧ Below w.heap.size w w' := by
  have hu := u64_of_wf w0
  have hB := Below.refl w.heap.size w
  clear w0
  go_enter Try.func4, Try.ntmps4
  go_wp2_with (go_at_call 13; refine (awake_c _ (Nat.le_refl _) (by assumption)).mono ?_; rintro e w1 ⟨rfl, hB1⟩)
  refine (sum_c _ _ _ hu (by simp; omega) (Nat.le_refl _) hB1).mono ?_
  rintro e w2 ⟨rfl, hB2⟩
  go_wp2_with fail
  refine (sum_c _ _ _ (mixSum_u64 hu _) (by omega) (Nat.le_refl _) hB2).mono ?_
  rintro e w3 ⟨rfl, hB3⟩
  go_wp2_with fail
  refine (sum_c _ _ _ hu (by simp; omega) (Nat.le_refl _) hB3).mono ?_
  rintro e w4 ⟨rfl, hB4⟩
  go_wp2_with fail
  go_ret
  refine ⟨ret_bool ?_, hB4⟩
  rw [bytesOf_append, mixSum_append (by have := hu.1; have := hu.2; omega) _ _ (by rw [bytesOf_length]; simp; omega)]
  simp
end mixGoes

namespace mixNoughts
/-- The text that is filled up with noughts. -/
def Fill (s t : ByteArray) : Prop := s.size ≤ t.size ∧ t.size ≤ (s.size + 3) / 4 * 4 ∧ bytesOf t = bytesOf s ++ List.replicate (t.size - s.size) 0
theorem Fill.more {s t : ByteArray} (h : Fill s t) (hn : t.size % 4 ≠ 0) : Fill s (t ++ ⟨#[0]⟩) := by
  obtain ⟨h1, h2, h3⟩ := h
  have e : (t ++ (⟨#[0]⟩ : ByteArray)).size = t.size + 1 := by simp [ByteArray.size_append]; rfl
  refine ⟨by omega, by omega, ?_⟩
  rw [bytesOf_append, h3, e, show t.size + 1 - s.size = (t.size - s.size) + 1 by omega, List.replicate_succ', List.append_assoc]
  rfl
theorem walk (a0 : Int) (a1 : ByteArray) (w : World) (w0 : (Lit.int .u64 a0).wf = true) (b1 : a1.size ≤ 140737488351232) :
    Calls Try.prog 6 #[.int .u64 a0, .string a1] w fun e w' => e = .returned (.bool true) ∧ Below w.heap.size w w' := by
  have hu := u64_of_wf w0
  have hn : a0.toNat < 18446744073709551616 := by have := hu.1; have := hu.2; omega
  have hB := Below.refl w.heap.size w
  clear w0
  have HN := Lib.hid hn
  clear hn
  go_enter Try.func6, Try.ntmps6
  go_wp2_with (go_at_call 13; refine (awake_c _ (Nat.le_refl _) (by assumption)).mono ?_; rintro e w1 ⟨rfl, hB1⟩)
  go_loop [5] (fun v => ∃ t : ByteArray, v = .string t ∧ Fill a1 t) (fun v => match v with | .string t => (4 - t.size % 4) % 4 | _ => 0)
  case atStart => exact ⟨a1, rfl, Nat.le_refl _, by omega, by simp⟩
  case round =>
    obtain ⟨t, rfl, hf⟩ := hrel
    have h1 := hf.1
    have h2 := hf.2.1
    have HF := Lib.hid hf
    clear hf
    by_cases h4 : t.size % 4 = 0
    · have hk4 : ((t.size : Int) % 4) = 0 := by omega
      have H4 := Lib.hid h4
      clear h4
      have hp := groups_pad (bytesOf a1) (t.size - a1.size) (by rw [bytesOf_length]; omega)
      have hs : mixSum a0.toNat (bytesOf t) = mixSum a0.toNat (bytesOf a1) := by unfold mixSum; rw [HF.out.2.2, hp]
      have hq := mixSum_four HN.out (bytesOf t) (by rw [bytesOf_length]; exact H4.out)
      rw [hs] at hq
      have hz : mixSum a0.toNat (bytesOf (t ++ ⟨#[0, 0, 0, 0]⟩)) = mixSum a0.toNat (bytesOf t ++ [0, 0, 0, 0]) := by rw [bytesOf_append]; rfl
      clear hp
      have HQ := Lib.hid hq
      clear hq
      generalize hr : mixSum a0.toNat (bytesOf a1) = r at *
      generalize hr2 : mixSum a0.toNat (bytesOf t ++ [0, 0, 0, 0]) = r2 at *
      clear hr2
      go_wp2_with fail
      refine (sum_c _ _ _ hu (by omega) (Nat.le_refl _) hB1).mono ?_
      rintro e w2 ⟨rfl, hB2⟩
      go_wp2_with fail
      refine (sum_c _ _ _ hu (by omega) (Nat.le_refl _) hB2).mono ?_
      rintro e w3 ⟨rfl, hB3⟩
      go_wp2_with fail
      refine (sum_c _ _ _ hu (by simp [ByteArray.size_append]; have e : (⟨#[0, 0, 0, 0]⟩ : ByteArray).size = 4 := rfl; rw [e]; omega) (Nat.le_refl _) hB3).mono ?_
      rintro e w4 ⟨rfl, hB4⟩
      go_wp2_with fail
      go_ret
      refine ⟨ret_bool ?_, hB4⟩
      have hq := HQ.out
      by_cases hr0 : r = 0
      · have := hq.2 hr0
        subst this; subst hr0; simp
      · have hne : ¬ r2 = r := fun h => hr0 (hq.1 h)
        have a1 : ((r2 : Int) == (r : Int)) = false := by simp; omega
        have a2 : ((r : Int) == 0) = false := by simp; omega
        simp [a1, a2]
    · have hk4 : (((t.size : Int) % 4) == 0) = false := by simp; omega
      have H4 := Lib.hid h4
      clear h4
      go_wp2
      go_round
      case rel => exact ⟨_, rfl, HF.out.more H4.out⟩
      case measure => 
        have := H4.out
        simp [ByteArray.size_append]
        have e : (⟨#[0]⟩ : ByteArray).size = 1 := rfl
        rw [e]
        omega
end mixNoughts
end Go.Proofs.Ythnlomggahikeaa
