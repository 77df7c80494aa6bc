/- The builder's text, as a contract over memory. -/
import Derived.Test.YtncnfmpclgkogaaBldB
namespace Go.Proofs.Ytncnfmpclgkogaa
open Go.Shelf Go.RowKit
set_option linter.unusedSimpArgs false
set_option linter.unusedVariables false
set_option maxHeartbeats 1000000 in
set_option maxRecDepth 100000 in
theorem bstr_full (b g cap : Nat) (p : Value) (cur : Array Value) (l : List UInt8) (w : World) (hbk : w.heap[b]? = some (.cells #[p, .slice (some ⟨g, 0, none⟩) l.length cap] 67 (0, 0))) (hg : w.heap[g]? = some (.cells cur 5 (0, 0)))
    (hnc : l.length ≤ cap) (hcm : cap ≤ maxLen) (hcs : cur.size = cap) (hc : ∀ j x, l[j]? = some x → w.cell? ⟨g, j, none⟩ = some (.int .u8 x.toNat)) (h0 : l ≠ []) :
    Calls Try.prog 29 #[ptrB b] w fun e w' => e = .returned (.string ⟨l.toArray⟩) ∧ w' = w.drew.freeze ⟨g, 0, none⟩ l.length := by
  have hl0 : l.length ≠ 0 := by simpa using h0
  have c1 : w.drew.cell? ⟨b, 1, none⟩ = some (.slice (some ⟨g, 0, none⟩) l.length cap) := by
    have : w.drew.heap[b]? = some (.cells #[p, .slice (some ⟨g, 0, none⟩) l.length cap] 67 (0, 0)) := hbk
    rw [Lib.cell_of_heap this]; rfl
  have hSD : (Builtin.unsafeSliceData_ #[62] 102 #[.slice (some ⟨g, 0, none⟩) l.length cap]).run Try.prog w.drew = .ok (.pointer (some ⟨g, 0, none⟩)) w.drew :=
    Lib.run_unsafeSliceData_row _ _ _ _ _ _ (by omega)
  have hUS : (Builtin.unsafeString_ #[102, 3] 9 #[.pointer (some ⟨g, 0, none⟩), .int .i64 l.length]).run Try.prog w.drew = .ok (.string ⟨l.toArray⟩) (w.drew.freeze ⟨g, 0, none⟩ l.length) := by
    refine Lib.run_unsafeString_row w.drew 102 3 9 5 Try.underlying102 (by kernel_rfl) g cur.size (by have hg' : w.drew.heap[g]? = some (.cells cur 5 (0, 0)) := hg; simp [World.shape?, hg']) l h0 (by omega) (by unfold maxLen at hcm; omega) ?_
    intro j x hx
    rw [add_lit', Nat.zero_add]
    exact hc j x hx
  have hmixed := mixed
  go_enter Try.func29, Try.ntmps29
  go_wp2
  go_region_o
  all_goals (go_wp2; go_ret; exact ⟨rfl, rfl⟩)
theorem bstr_x (p : Value) (l : List UInt8) (c : Nat) (hne : l ≠ []) : CallOb Try.prog 29 [ptrB 0] (bldG 1 p l c) 2 (fun v h m => ∃ z : ByteArray, z = strOf l ∧ v = .string z ∧ h = [] ∧ m = 2) := by
  refine ⟨Try.call29, fun F B w0 m w cs H ha => ?_⟩
  obtain ⟨g, l0, hm, hf, hl, hb⟩ := own0 H (i := 0) rfl
  match cs, ha with
  | [a], ⟨ha, _⟩ =>
  obtain rfl := ptr_at H.fn hm ha
  match l0, hl with
  | [p1, v1], ⟨_, h1, _⟩ =>
  have hend : ∀ w' : World, Keep F B w w' → ∃ m' v cc h' n', Ending.returned (.string ⟨l.toArray⟩) = Ending.returned cc ∧ m.le m' ∧ VR m' v cc ∧ HRel F B w0 m' h' n' w' ∧ ∃ z : ByteArray, z = strOf l ∧ v = .string z ∧ h' = [] ∧ n' = 2 := fun w' k =>
    ⟨m, .string (strOf l), _, [], 2, rfl, BM.le_refl m, VR.same rfl, ⟨H.keep.trans k, H.base, H.fn, H.fresh, fun i it e => (by cases e), fun i it j jt g s g' s' b e => (by cases e)⟩, _, rfl, rfl, rfl, rfl⟩
  have hbel : ∀ w' : World, Below w.heap.size w w' → Keep F B w w' := fun w' k => Keep.of_below k H.base'
  obtain ⟨g1, s1, hm1, h1⟩ := VR.mslc.1 ((VR.of1 rfl).2 h1)
  obtain ⟨g2, s2, hm2, ok⟩ := H.dom 1 _ rfl
  obtain ⟨rfl, rfl⟩ := H.fn _ _ _ _ _ hm1 hm2
  rcases ok with ⟨rfl, hc0, hnil⟩ | ⟨rfl, hfen, hcm, l2, cur, hl2, hheap, hsz, htk, hle⟩
  · exact absurd (by simpa using hnil) hne
  · rcases h1 with ⟨hx, _⟩ | ⟨_, rfl⟩
    · exact absurd hx zero_ne_nilS
    · have e2 := hl2.bytes
      subst e2
      rw [Nat.mul_one] at hsz
      rw [sh_zero] at hb
      by_cases h0 : l = []
      · subst h0
        by_cases hc0 : c = 0
        · subst hc0
          exact (Any.Builder_String_noroom Try.lays169 Try.Builder_Extra_169 w.heap.size g g1 p1 cur w (Nat.le_refl _) hb hheap).mono fun e w' ⟨he, hk⟩ => he ▸ hend w' (hbel w' hk)
        · exact (Any.Builder_String_room Try.lays169 Try.Builder_Extra_169 w.heap.size g g1 c p1 w hc0 hb).mono fun e w' ⟨he, hk⟩ => he ▸ hend w' (hbel w' hk)
      · have hlen : l.length ≤ c := by rw [List.length_map, hsz] at hle; exact hle
        refine (bstr_full g g1 c p1 cur l w hb hheap hlen hcm hsz ?_ h0).mono ?_
        · intro j x hx
          rw [cell_of_row w g1 j cur 5 (0, 0) hheap]
          have hj : j < l.length := (List.getElem?_eq_some_iff.1 hx).1
          have : (cur.toList.take (l.map byteV').length)[j]? = (l.map byteV')[j]? := by rw [htk]
          rw [List.getElem?_take, if_pos (by rw [List.length_map]; exact hj), List.getElem?_map, hx] at this
          simpa [byteV'] using this
        · rintro e w' ⟨rfl, rfl⟩
          refine hend _ ⟨?_, ?_, ?_, ?_, ?_⟩
          · unfold World.freeze; split <;> rfl
          · unfold World.freeze; split <;> rfl
          · unfold World.freeze; split <;> rfl
          · unfold World.freeze; split <;> simp
          · intro k hk hkF
            have hkg : k ≠ g1 := by rintro rfl; rcases hfen with h | h; · omega
                                    · exact hkF h
            unfold World.freeze
            split
            · rfl
            · simp only [Array.getElem?_modify]
              rw [if_neg (fun e => hkg e.symm)]; rfl
theorem bstr_n (p : Value) : CallOb Try.prog 29 [ptrB 0] [(0, .own 67 [p, .slice none 0 0])] 1 (fun v h m => ∃ z : ByteArray, z = strOf [] ∧ v = .string z ∧ h = [] ∧ m = 1) := by
  refine ⟨Try.call29, fun F B w0 m w cs H ha => ?_⟩
  obtain ⟨g, l0, hm, hf, hl, hb⟩ := own0 H (i := 0) rfl
  match cs, ha with
  | [a], ⟨ha, _⟩ =>
  obtain rfl := ptr_at H.fn hm ha
  match l0, hl with
  | [p1, v1], ⟨_, h1, _⟩ =>
  obtain rfl := (V1.flat rfl).1 h1
  refine (Any.Builder_String_nil Try.lays169 Try.Builder_Extra_169 w.heap.size g p1 w hb).mono fun e w' ⟨he, hk⟩ => ?_
  subst he
  have k : Keep F B w w' := Keep.of_below hk H.base'
  exact ⟨m, .string (strOf []), _, [], 1, rfl, BM.le_refl m, VR.same rfl, ⟨H.keep.trans k, H.base, H.fn, H.fresh, fun i it e => (by cases e), fun i it j jt g s g' s' b e => (by cases e)⟩, _, rfl, rfl, rfl, rfl⟩
end Go.Proofs.Ytncnfmpclgkogaa
