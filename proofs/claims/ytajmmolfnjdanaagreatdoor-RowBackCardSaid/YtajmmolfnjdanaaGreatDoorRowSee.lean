/- Rows that are parts of rows which are only read: Compare and Key over them. -/
import Derived.Test.YtajmmolfnjdanaaGreatDoorRowLaid
namespace Go.Proofs.YtajmmolfnjdanaaGreatDoor
open Go.RowKit
set_option linter.unusedSimpArgs false
set_option linter.unusedVariables false
theorem call_see {P : Program} {f : FuncId} {args0 args : List Value} {h0 h : HP} {n0 n : Nat} {α : Type} {R : α → Prop} {vT : α → Value} {K : Value → HP → Nat → Prop} (C : CallOb P f args0 h0 n0 (fun v hh m => ∃ x, R x ∧ v = vT x ∧ hh = [] ∧ m = n0)) (hflat : ∀ x, flatR (vT x) = true)
    (see : ∀ F B w0 m w cs, HRel F B w0 m h n w → LR (VR m) args cs → ∃ m0, HRel (fun _ => False) w.heap.size w m0 h0 n0 w ∧ LR (VR m0) args0 cs) (hk : ∀ x, R x → K (vT x) h n) : CallOb P f args h n K :=
  ⟨C.fn, fun F B w0 m w cs H ha => by
    obtain ⟨m0, H0, ha0⟩ := see F B w0 m w cs H ha
    refine (C.run _ _ _ m0 w cs H0 ha0).mono ?_
    rintro e w' ⟨m', v, c, h', n', he, hle, hv, H', x, hx, rfl, rfl, rfl⟩
    exact ⟨m, vT x, c, h, n, he, BM.le_refl m, (VR.flat (hflat x)).2 ((VR.flat (hflat x)).1 hv), H.later H'.keep.below, hk x hx⟩⟩
theorem part_get {l : Rw} {k len : Nat} (hl : k + len ≤ l.length) : ∀ j u, (((l.drop k).take len).flatMap rowv)[j]? = some u → (l.flatMap rowv)[k * 3 + j]? = some u := by
  intro j u hj
  have e : l = l.take k ++ ((l.drop k).take len ++ l.drop (k + len)) := by
    rw [← List.drop_drop, List.take_append_drop, List.take_append_drop]
  have hk : ((l.take k).flatMap rowv).length = k * 3 := by rw [len_flat, List.length_take, Nat.min_eq_left (by omega)]
  have hj2 := (List.getElem?_eq_some_iff.1 hj).1
  rw [e, List.flatMap_append, List.flatMap_append, List.getElem?_append_right (by omega), hk, Nat.add_sub_cancel_left, List.getElem?_append_left hj2]
  exact hj
theorem part_at {F : Nat → Prop} {B : Nat} {w0 : World} {m : BM} {h : HP} {n : Nat} {w : World} (H : HRel F B w0 m h n w) {i : Nat} {l : Rw} (e : lkH h i = some (.lview (l.flatMap rowv))) {k o len cap : Nat} {c : Value} (ho : o = k * 3) (hv : V0 m (.slice (some ⟨i, o, some 0⟩) len cap) c) (hl : k + len ≤ l.length) :
    SlcAt w c ((l.drop k).take len).length cap (((l.drop k).take len).flatMap rowv) := by
  subst ho
  have hlen : ((l.drop k).take len).length = len := by rw [List.length_take, List.length_drop]; omega
  obtain ⟨g, s, hm, h0⟩ := hv
  rcases h0 with ⟨_, h1, h2, h3⟩ | ⟨hs, h3⟩
  · subst h1; subst h2; subst h3
    exact .inl ⟨_, rfl, hlen, rfl, by rw [List.take_zero]; rfl⟩
  · subst h3
    rcases H.at e hm with ⟨h1, _⟩ | ⟨hlt, _, l2, hl2, hc⟩
    · exact absurd h1 hs
    · have e2 : l2 = l.flatMap rowv := LR.eq_of (fun u hu c hc => (V1.flat (flat_bindF (f := rowv) (fun _ => rfl) _ u hu)).1 hc) hl2
      subst e2
      refine .inr ⟨_, by rw [hlen], rfl, hlt, fun j u hj => ?_⟩
      rw [add_lit']
      have := hc (k * 3 + j) u (part_get hl j u hj)
      rw [show k * 3 + sh s + j = sh s + (k * 3 + j) by omega]
      exact this
theorem part_all {l : Rw} : (l.drop 0).take l.length = l := by rw [List.drop_zero, List.take_length]
theorem part_zero {l : Rw} {k : Nat} : (l.drop 0).take k = l.take k := by rw [List.drop_zero]
/-- Compare over parts of two rows that are only read. -/
theorem cmp_part {l m : Rw} {i j k k' n n' c c' o o' : Nat} {h : HP} {q : Nat} {K : Value → HP → Nat → Prop} (e1 : lkH h i = some (.lview (l.flatMap rowv))) (e2 : lkH h j = some (.lview (m.flatMap rowv))) (ho : o = k * 3) (ho' : o' = k' * 3) (h1 : k + n ≤ l.length) (h2 : k' + n' ≤ m.length) (hn : n < 9223372036854775807) (hn' : n' < 9223372036854775807)
    (hk : ∀ z : Int, CmpD ((l.drop k).take n) ((m.drop k').take n') z → K (.int .i64 z) h q) : CallOb Tryz.prog 14 [.slice (some ⟨i, o, some 0⟩) n c, .slice (some ⟨j, o', some 0⟩) n' c'] h q K := by
  have hl1 : ((l.drop k).take n).length = n := by rw [List.length_take, List.length_drop]; omega
  have hl2 : ((m.drop k').take n').length = n' := by rw [List.length_take, List.length_drop]; omega
  refine call_see (R := CmpD ((l.drop k).take n) ((m.drop k').take n')) (vT := fun z : Int => .int .i64 z) (compare_c ((l.drop k).take n) ((m.drop k').take n') c c' (by omega) (by omega)) (fun _ => rfl) (fun F B w0 mm w cs H ha => ?_) hk
  match cs, ha with
  | [x, y], ⟨hx, hy, _⟩ =>
    have S1 := part_at H e1 ho ((VR.of0 rfl).1 hx) h1
    have S2 := part_at H e2 ho' ((VR.of0 rfl).1 hy) h2
    obtain ⟨m1, hle1, H1, hv1, hm1⟩ := (HRel.start w).see (fun i it e => by cases e) S1 (flat_bindF (f := rowv) (fun _ => rfl) _)
    obtain ⟨m2, hle2, H2, hv2, hm2⟩ := H1.see hv1 S2 (flat_bindF (f := rowv) (fun _ => rfl) _)
    refine ⟨m2, H2.sub_of (fun i it e => ?_), (VR.of0 rfl).2 (hm1.mono hle2), (VR.of0 rfl).2 hm2, trivial⟩
    match i, e with
    | 0, e => exact e
    | 1, e => exact e
    | t + 2, e => exact absurd e (by intro h; cases h)
/-- Key over a part of a row that is only read. -/
theorem key_part {l : Rw} {i j k n c o g : Nat} {ob : Obj} {h : HP} {q : Nat} {K : Value → HP → Nat → Prop} (hM : MaxAt g ob) (e1 : lkH h i = some (.lview (l.flatMap rowv))) (e2 : lkH h j = some (.gv g ob)) (ho : o = k * 3) (h1 : k + n ≤ l.length) (hn : n ≤ 140737488355328) (il : InR l)
    (hk : ∀ z : ByteArray, TxtD keyR ((l.drop k).take n) z → K (.string z) h q) : CallOb Tryz.prog 16 [.slice (some ⟨i, o, some 0⟩) n c] h q K := by
  have hl1 : ((l.drop k).take n).length = n := by rw [List.length_take, List.length_drop]; omega
  refine call_see (R := TxtD keyR ((l.drop k).take n)) (vT := fun z : ByteArray => .string z) (keyr_c g ob hM ((l.drop k).take n) c (by omega) (fun v hv => il v (List.mem_of_mem_drop (List.mem_of_mem_take hv)))) (fun _ => rfl) (fun F B w0 mm w cs H ha => ?_) hk
  match cs, ha with
  | [x], ⟨hx, _⟩ =>
    have S1 := part_at H e1 ho ((VR.of0 rfl).1 hx) h1
    have hg := H.var e2
    obtain ⟨m1, hle1, H1, hv1, hm1⟩ := (HRel.start w).see (fun i it e => by cases e) S1 (flat_bindF (f := rowv) (fun _ => rfl) _)
    obtain ⟨m2, hle2, H2, hv2⟩ := H1.gvar hv1 hg
    refine ⟨m2, H2.sub_of (fun i it e => ?_), ?_, trivial⟩
    · match i, e with
      | 0, e => exact e
      | 1, e => exact e
      | t + 2, e => exact absurd e (by intro h; cases h)
    · exact (VR.of0 rfl).2 (by rw [hl1] at hm1; exact (hl1 ▸ hm1).mono hle2)
end Go.Proofs.YtajmmolfnjdanaaGreatDoor
