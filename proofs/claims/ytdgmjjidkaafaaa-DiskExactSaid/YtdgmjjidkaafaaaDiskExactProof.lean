/- DiskExact: for every input the law returns true; each argument reads as it did. Conditions: none. -/
import Derived.Test.YtdgmjjidkaafaaaDiskExactW
import Derived.WalkKit
import Derived.ProofKit
import Derived.OpenShut
import Derived.ShutString
import Derived.ChangeOld
import Derived.Below
import Derived.SizedLaws
namespace Go.Proofs.Ytdgmjjidkaafaaa.diskExact
open Go.ChangeShapes Go.WideShapes Go.ChangeAt Go.RowKit
open Go.ChangeMaps (open_string shut_string)
set_option linter.unusedVariables false
set_option linter.unusedSimpArgs false

theorem own : ownKnob Try.prog.godebug = none := by kernel_rfl
theorem laidOut : laidOutB Try.prog = true := by kernel_rfl
theorem list_6 {α : Type} {l : List α} (h : l.length = 6) : ∃ c0 c1 c2 c3 c4 c5, l = [c0, c1, c2, c3, c4, c5] := by
  match l, h with
  | [c0, c1, c2, c3, c4, c5], _ => exact ⟨c0, c1, c2, c3, c4, c5, rfl⟩
theorem cellsOf3 : Try.prog.cellsOf 3 = 1 := by kernel_rfl
theorem cellsOf5 : Try.prog.cellsOf 5 = 1 := by kernel_rfl
theorem cellsOf9 : Try.prog.cellsOf 9 = 1 := by kernel_rfl
theorem cellsOf36 : Try.prog.cellsOf 36 = 1 := by kernel_rfl
theorem cellsOf45 : Try.prog.cellsOf 45 = 6 := by kernel_rfl
theorem bytesOf45 : Try.prog.bytesOf 45 = 72 := by kernel_rfl
set_option maxRecDepth 100000 in
theorem elem3 {H : Type} {enc : TypeId × Value → H} {W : World} {sp : Nat → Bool} (m : Nat) (cs : List Value) (x : DataW H × List MemPlace) (h : DataW.trod enc Try.prog W 0 sp true m 3 cs = some x) :
    ∃ y : Int, cs = [.int .i64 y] ∧ ((Lit.int .i64 y).wf = true) := by
  obtain ⟨a, e, _, w⟩ := DataW.trod_int Try.underlying3 h
  subst e
  exact ⟨a, rfl, w⟩
set_option maxRecDepth 100000 in
theorem elem45 {H : Type} {enc : TypeId × Value → H} {W : World} (m : Nat) (cs : List Value) (x : DataW H × List MemPlace) (h : DataW.trod enc Try.prog W 0 (fun _ => true) true m 45 cs = some x) :
    ∃ y : Int × ByteArray × Int × Int × Int × (Value × Nat × List (Int)), cs = [.int .i64 (y.1), .string (y.2.1), .int .i64 (y.2.2.1), .int .u8 (y.2.2.2.1), .int .i64 (y.2.2.2.2.1), (y.2.2.2.2.2).1] ∧ ((Lit.int .i64 (y.1)).wf = true ∧ (y.2.1).size ≤ maxLen ∧ (Lit.int .i64 (y.2.2.1)).wf = true ∧ (Lit.int .u8 (y.2.2.2.1)).wf = true ∧ (Lit.int .i64 (y.2.2.2.2.1)).wf = true ∧ (SlcAt W (y.2.2.2.2.2).1 (y.2.2.2.2.2).2.2.length (y.2.2.2.2.2).2.1 ((y.2.2.2.2.2).2.2.flatMap (fun y : Int => [.int .i64 y])) ∧ (y.2.2.2.2.2).2.2.length ≤ (y.2.2.2.2.2).2.1 ∧ (y.2.2.2.2.2).2.1 ≤ maxLen ∧ ∀ z ∈ (y.2.2.2.2.2).2.2, (fun y : Int => (Lit.int .i64 y).wf = true) z)) := by
  have hlen : cs.length = 6 := by
    obtain ⟨_, _, _, _, hl, _⟩ := DataW.trod_struct Try.underlying45 h
    rw [hl, cellsOf45]
  obtain ⟨c0, c1, c2, c3, c4, c5, rfl⟩ := list_6 hlen
  obtain ⟨xs, m, _, _, _, hn, hg⟩ := DataW.trod_struct Try.underlying45 h
  obtain ⟨x_0, x_1, x_2, x_3, x_4, x_5, rfl⟩ := list_6 hn
  have g_0 : DataW.trod enc Try.prog W 0 (fun _ => true) true m 3 [c0] = some x_0 := by simpa [cellsOf3] using hg 0 _ rfl
  have g_1 : DataW.trod enc Try.prog W 0 (fun _ => true) true m 9 [c1] = some x_1 := by simpa [cellsOf9] using hg 1 _ rfl
  have g_2 : DataW.trod enc Try.prog W 0 (fun _ => true) true m 3 [c2] = some x_2 := by simpa [cellsOf3] using hg 2 _ rfl
  have g_3 : DataW.trod enc Try.prog W 0 (fun _ => true) true m 5 [c3] = some x_3 := by simpa [cellsOf5] using hg 3 _ rfl
  have g_4 : DataW.trod enc Try.prog W 0 (fun _ => true) true m 3 [c4] = some x_4 := by simpa [cellsOf3] using hg 4 _ rfl
  have g_5 : DataW.trod enc Try.prog W 0 (fun _ => true) true m 36 [c5] = some x_5 := by simpa [cellsOf36] using hg 5 _ rfl
  obtain ⟨a_0, e_0, _, w_0⟩ := DataW.trod_int Try.underlying3 g_0
  simp only [List.cons.injEq, and_true] at e_0; subst e_0
  obtain ⟨a_1, e_1, _, w_1⟩ := DataW.trod_string Try.underlying9 g_1
  simp only [List.cons.injEq, and_true] at e_1; subst e_1
  obtain ⟨a_2, e_2, _, w_2⟩ := DataW.trod_int Try.underlying3 g_2
  simp only [List.cons.injEq, and_true] at e_2; subst e_2
  obtain ⟨a_3, e_3, _, w_3⟩ := DataW.trod_int Try.underlying5 g_3
  simp only [List.cons.injEq, and_true] at e_3; subst e_3
  obtain ⟨a_4, e_4, _, w_4⟩ := DataW.trod_int Try.underlying3 g_4
  simp only [List.cons.injEq, and_true] at e_4; subst e_4
  obtain ⟨va_5, ca_5, La_5, e_5, sa_5, qa_5, ma_5, wa_5, _⟩ := open_list (fun y : Int => [.int .i64 y]) (fun y : Int => (Lit.int .i64 y).wf = true) 1 (fun _ => rfl) (by decide) Try.underlying36 cellsOf3 (fun _ => rfl) elem3 g_5
  simp only [List.cons.injEq, and_true] at e_5; replace e_5 := e_5.symm; subst e_5
  exact ⟨(a_0, a_1, a_2, a_3, a_4, (va_5, ca_5, La_5)), rfl, ⟨w_0, w_1, w_2, w_3, w_4, ⟨sa_5, qa_5, ma_5, wa_5⟩⟩⟩

set_option maxRecDepth 100000 in
theorem lifted (os : Os) (started : os.Started) (H : Type) (enc : TypeId × Value → H) :
    ReturnsInHanded {} Try.checked os 6 .any (Rows.diskExactSpec.pre6 enc Try.prog Try.f6 Rows.diskExactRow.domain false) (Rows.diskExactSpec.post enc Try.prog Try.f6 false true false false) := by
  refine returnsInHanded_of_change_sized (C := Try.checked) own started (by kernel_rfl) Try.func6
    (ChangeSpec.witness6 (enc := enc) (C := Try.checked) false ⟨#[], #[.int .i64 0, .slice none 0 0], []⟩ 8 (by kernel_rfl) (by kernel_rfl) (by kernel_rfl) (by kernel_rfl)) ?_
  intro W base args ds gs before hval0 hW hcnd hsz0 _
  have hsz : (DataW.weightsEach Try.prog (Try.f6.params.toList ++ Rows.diskExactSpec.plain.varTypes Try.prog) (ds ++ gs)).all (· ≤ reachBytes) = true := hsz0
  clear hsz0
  have hval : ∀ (j : Nat) t v, Try.f6.params[j]? = some t → args[j]? = some v → Value.okWide Try.prog W .any base t v := hval0
  have hW' := hW
  obtain ⟨p, q, hA0, hV, rfl, hfz, hnd⟩ := hW
  have hA : DataW.TrodAll enc Try.prog W 0 (fun _ => true) true Try.f6.params.toList args.toList ds p := hA0
  rw [Try.params6] at hA hval hsz
  obtain ⟨v0, vs0, d0, ds0, p0, q0, hargs, rfl, rfl, h0, r0⟩ := trodAll_cons hA
  obtain ⟨v1, vs1, d1, ds1, p1, q1, rfl, rfl, rfl, h1, r1⟩ := trodAll_cons r0
  obtain ⟨rfl, rfl, rfl⟩ := trodAll_nil r1
  obtain rfl : args = #[v0, v1] := by cases args; simp_all
  obtain ⟨rfl, rfl⟩ := trodVars_none hV
  have k0 := h0
  have lt0 : ∀ x ∈ p0, x.block < W.heap.size := by obtain ⟨m, hm⟩ := k0; exact DataW.trod_lt m _ _ _ hm
  have k1 := h1
  have lt1 : ∀ x ∈ p1, x.block < W.heap.size := by obtain ⟨m, hm⟩ := k1; exact DataW.trod_lt m _ _ _ hm
  obtain ⟨a0, rfl, rfl, rfl, w0⟩ := open_int Try.underlying3 (hval 0 3 v0 rfl rfl) h0
  obtain ⟨o1, len1, cp1, rfl⟩ := okWide_slice Try.underlying35 (hval 1 35 v1 rfl rfl)
  obtain ⟨fu1, hf1⟩ := h1
  replace hf1 : DataW.trod enc Try.prog W 0 (fun _ => true) true fu1 35 [.slice o1 len1 cp1] = some (d1, p1) := hf1
  obtain ⟨v1', cap1, L1, e1, s1, q1, _, w1, z1⟩ := open_list (fun y : Int × ByteArray × Int × Int × Int × (Value × Nat × List (Int)) => [.int .i64 (y.1), .string (y.2.1), .int .i64 (y.2.2.1), .int .u8 (y.2.2.2.1), .int .i64 (y.2.2.2.2.1), (y.2.2.2.2.2).1]) (fun y : Int × ByteArray × Int × Int × Int × (Value × Nat × List (Int)) => (Lit.int .i64 (y.1)).wf = true ∧ (y.2.1).size ≤ maxLen ∧ (Lit.int .i64 (y.2.2.1)).wf = true ∧ (Lit.int .u8 (y.2.2.2.1)).wf = true ∧ (Lit.int .i64 (y.2.2.2.2.1)).wf = true ∧ (SlcAt W (y.2.2.2.2.2).1 (y.2.2.2.2.2).2.2.length (y.2.2.2.2.2).2.1 ((y.2.2.2.2.2).2.2.flatMap (fun y : Int => [.int .i64 y])) ∧ (y.2.2.2.2.2).2.2.length ≤ (y.2.2.2.2.2).2.1 ∧ (y.2.2.2.2.2).2.1 ≤ maxLen ∧ ∀ z ∈ (y.2.2.2.2.2).2.2, (fun y : Int => (Lit.int .i64 y).wf = true) z)) 6 (fun _ => rfl) (by decide) Try.underlying35 cellsOf45 (fun _ => rfl) elem45 hf1
  simp only [List.cons.injEq, and_true] at e1; subst e1
  dsimp only at z1
  have b1 : cap1 ≤ 140737488351232 := by
    obtain ⟨es, rest, ⟨hd, hl⟩ | ⟨_, h0⟩⟩ := z1
    · subst hd
      have := List.all_eq_true.1 hsz ((es.length + rest.length) * Try.prog.bytesOf 45) (DataW.weights_mem_each (j := 1) (t := 35) rfl rfl _ (by simp [DataW.weights, DataW.weightsAll, DataW.weightsEach, Try.underlying35]))
      have := of_decide_eq_true this
      rw [hl, bytesOf45] at this
      simp only [reachBytes] at this
      omega
    · omega
  clear hA0 hval0
  refine (walk a0 _ cap1 L1 W w0 s1 q1 b1 w1).mono fun e W' ⟨he, bel⟩ => ?_
  subst he
  exact ⟨_, rfl, _, _, _, [], _, [], hW', trodAll_mk1 (shut_bool Try.underlying4 _), (trodAll_cons_mk (Below.trod laidOut (by kernel_rfl) (of_decide_eq_true (by kernel_rfl)) k0 bel lt0) (trodAll_cons_mk (Below.trod laidOut (by kernel_rfl) (of_decide_eq_true (by kernel_rfl)) k1 bel lt1) trodAll_mk0)), rfl, bel.frame _, fun h => by cases h⟩

theorem proved : Rows.DiskExactSaid :=
  OpenClaim.holds_of_wide 6 Try.f6 rfl rfl rfl rfl rfl rfl rfl ⟨rfl, rfl, rfl, rfl, rfl⟩ rfl rfl rfl rfl rfl (by kernel_rfl) Try.func6 (by kernel_rfl)
    (of_decide_eq_true (by kernel_rfl)) (by unfold Func.isWrapper; first | (rw [if_pos (by decide +kernel)]; kernel_rfl) | (rw [if_neg (by decide +kernel)]; exact ⟨rfl, rfl⟩))
    (fun os started H enc _ => lifted os started H enc)
#print axioms proved
end Go.Proofs.Ytdgmjjidkaafaaa.diskExact
