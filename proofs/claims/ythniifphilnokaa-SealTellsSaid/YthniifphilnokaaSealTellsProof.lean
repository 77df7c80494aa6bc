/- SealTells: for every input the law returns true; each argument reads as it did. Conditions: none. -/
import Derived.Test.YthniifphilnokaaSealBackW
import Derived.WalkKit
import Derived.ProofKit
import Derived.OpenShut
import Derived.ShutString
import Derived.ChangeOld
import Derived.Below
import Derived.SizedLaws
namespace Go.Proofs.Ythniifphilnokaa.sealTells
open Go.ChangeShapes Go.WideShapes Go.ChangeAt Go.RowKit
open Go.ChangeMaps (open_string shut_string)
set_option linter.unusedVariables false
set_option linter.unusedSimpArgs false

theorem own : ownKnob Try.prog.godebug = none := by kernel_rfl
theorem laidOut : laidOutB Try.prog = true := by kernel_rfl
theorem array_4 {α : Type} {cs : Array α} (h : cs.size = 4) : ∃ c0 c1 c2 c3, cs = #[c0, c1, c2, c3] := by
  obtain ⟨l⟩ := cs
  match l, h with
  | [c0, c1, c2, c3], _ => exact ⟨c0, c1, c2, c3, rfl⟩
theorem list_4 {α : Type} {l : List α} (h : l.length = 4) : ∃ c0 c1 c2 c3, l = [c0, c1, c2, c3] := by
  match l, h with
  | [c0, c1, c2, c3], _ => exact ⟨c0, c1, c2, c3, rfl⟩
theorem cellsOf3 : Try.prog.cellsOf 3 = 1 := by kernel_rfl
theorem cellsOf5 : Try.prog.cellsOf 5 = 1 := by kernel_rfl
theorem cellsOf9 : Try.prog.cellsOf 9 = 1 := by kernel_rfl
theorem cellsOf22 : Try.prog.cellsOf 22 = 1 := by kernel_rfl
theorem cellsOf24 : Try.prog.cellsOf 24 = 4 := by kernel_rfl
theorem cellsOf36 : Try.prog.cellsOf 36 = 4 := by kernel_rfl
theorem open24 {H : Type} {enc : TypeId × Value → H} {W : World} {sp : Nat → Bool} {b : Nat} {v : Value} {d : DataW H} {p : List MemPlace} (hv : Value.okWide Try.prog W .any b 24 v) (h : DataW.Trod enc Try.prog W 0 sp true 24 v d p) :
    ∃ (a_0 : Int) (a_1 : Int) (a_2 : Int) (a_3 : ByteArray), v = .agg #[.int .i64 a_0, .int .i64 a_1, .int .u64 a_2, .string a_3] ∧ d = .agg [.lit (.int .i64 a_0), .lit (.int .i64 a_1), .lit (.int .u64 a_2), .lit (.string a_3.data.toList)] ∧ (Lit.int .i64 a_0).wf = true ∧ (Lit.int .i64 a_1).wf = true ∧ (Lit.int .u64 a_2).wf = true ∧ a_3.size ≤ maxLen := by
  unfold Value.okWide at hv; rw [Try.underlying24] at hv; obtain ⟨cs, rfl, sz, _⟩ := hv
  obtain ⟨c0, c1, c2, c3, rfl⟩ := array_4 (sz.trans cellsOf24)
  obtain ⟨fu, hf⟩ := h
  replace hf : DataW.trod enc Try.prog W 0 sp true fu 24 [c0, c1, c2, c3] = some (d, p) := hf
  obtain ⟨xs, m, _, hx, _, hn, hg⟩ := DataW.trod_struct Try.underlying24 hf
  obtain ⟨x_0, x_1, x_2, x_3, rfl⟩ := list_4 hn
  have g_0 : DataW.trod enc Try.prog W 0 sp true m 3 [c0] = some x_0 := by simpa [cellsOf3] using hg 0 _ rfl
  have g_1 : DataW.trod enc Try.prog W 0 sp true m 3 [c1] = some x_1 := by simpa [cellsOf3] using hg 1 _ rfl
  have g_2 : DataW.trod enc Try.prog W 0 sp true m 22 [c2] = some x_2 := by simpa [cellsOf22] using hg 2 _ rfl
  have g_3 : DataW.trod enc Try.prog W 0 sp true m 9 [c3] = some x_3 := by simpa [cellsOf9] using hg 3 _ rfl
  clear hg hn
  have hd := congrArg Prod.fst hx
  obtain ⟨a_0, e_0, x_0, w_0⟩ := DataW.trod_int Try.underlying3 g_0
  simp only [List.cons.injEq, and_true] at e_0; subst e_0; subst x_0
  obtain ⟨a_1, e_1, x_1, w_1⟩ := DataW.trod_int Try.underlying3 g_1
  simp only [List.cons.injEq, and_true] at e_1; subst e_1; subst x_1
  obtain ⟨a_2, e_2, x_2, w_2⟩ := DataW.trod_int Try.underlying22 g_2
  simp only [List.cons.injEq, and_true] at e_2; subst e_2; subst x_2
  obtain ⟨a_3, e_3, x_3, w_3⟩ := DataW.trod_string Try.underlying9 g_3
  simp only [List.cons.injEq, and_true] at e_3; subst e_3; subst x_3
  exact ⟨a_0, a_1, a_2, a_3, rfl, hd, w_0, w_1, w_2, w_3⟩
theorem open36 {H : Type} {enc : TypeId × Value → H} {W : World} {sp : Nat → Bool} {b : Nat} {v : Value} {d : DataW H} {p : List MemPlace} (hv : Value.okWide Try.prog W .any b 36 v) (h : DataW.Trod enc Try.prog W 0 sp true 36 v d p) :
    ∃ (a_0 : Int) (a_1 : Int) (a_2 : Int) (a_3 : Int), v = .agg #[.int .u8 a_0, .int .u8 a_1, .int .u8 a_2, .int .u8 a_3] ∧ d = .agg [.lit (.int .u8 a_0), .lit (.int .u8 a_1), .lit (.int .u8 a_2), .lit (.int .u8 a_3)] ∧ (Lit.int .u8 a_0).wf = true ∧ (Lit.int .u8 a_1).wf = true ∧ (Lit.int .u8 a_2).wf = true ∧ (Lit.int .u8 a_3).wf = true := by
  unfold Value.okWide at hv; rw [Try.underlying36] at hv; obtain ⟨cs, rfl, sz, _⟩ := hv
  obtain ⟨c0, c1, c2, c3, rfl⟩ := array_4 (sz.trans cellsOf36)
  obtain ⟨fu, hf⟩ := h
  replace hf : DataW.trod enc Try.prog W 0 sp true fu 36 [c0, c1, c2, c3] = some (d, p) := hf
  obtain ⟨xs, m, _, hx, _, hn, hg⟩ := DataW.trod_array Try.underlying36 hf
  obtain ⟨x_0, x_1, x_2, x_3, rfl⟩ := list_4 hn
  have g_0 : DataW.trod enc Try.prog W 0 sp true m 5 [c0] = some x_0 := by simpa [cellsOf5] using hg 0 (by decide)
  have g_1 : DataW.trod enc Try.prog W 0 sp true m 5 [c1] = some x_1 := by simpa [cellsOf5] using hg 1 (by decide)
  have g_2 : DataW.trod enc Try.prog W 0 sp true m 5 [c2] = some x_2 := by simpa [cellsOf5] using hg 2 (by decide)
  have g_3 : DataW.trod enc Try.prog W 0 sp true m 5 [c3] = some x_3 := by simpa [cellsOf5] using hg 3 (by decide)
  clear hg hn
  have hd := congrArg Prod.fst hx
  obtain ⟨a_0, e_0, x_0, w_0⟩ := DataW.trod_int Try.underlying5 g_0
  simp only [List.cons.injEq, and_true] at e_0; subst e_0; subst x_0
  obtain ⟨a_1, e_1, x_1, w_1⟩ := DataW.trod_int Try.underlying5 g_1
  simp only [List.cons.injEq, and_true] at e_1; subst e_1; subst x_1
  obtain ⟨a_2, e_2, x_2, w_2⟩ := DataW.trod_int Try.underlying5 g_2
  simp only [List.cons.injEq, and_true] at e_2; subst e_2; subst x_2
  obtain ⟨a_3, e_3, x_3, w_3⟩ := DataW.trod_int Try.underlying5 g_3
  simp only [List.cons.injEq, and_true] at e_3; subst e_3; subst x_3
  exact ⟨a_0, a_1, a_2, a_3, rfl, hd, w_0, w_1, w_2, w_3⟩

set_option maxRecDepth 100000 in
theorem lifted (os : Os) (started : os.Started) (H : Type) (enc : TypeId × Value → H) :
    ReturnsInHanded {} Try.checked os 6 .any (Rows.sealTellsSpec.pre6 enc Try.prog Try.f6 Rows.sealTellsRow.domain false) (Rows.sealTellsSpec.post enc Try.prog Try.f6 false true false false) := by
  refine returnsInHanded_of_change_sized (C := Try.checked) own started (by kernel_rfl) Try.func6
    (ChangeSpec.witness6 (enc := enc) (C := Try.checked) false ⟨#[], #[.agg #[.int .i64 0, .int .i64 0, .int .u64 0, .string ByteArray.empty], .int .i64 0, .agg #[.int .u8 0, .int .u8 0, .int .u8 0, .int .u8 0]], []⟩ 8 (by kernel_rfl) (by kernel_rfl) (by kernel_rfl) (by kernel_rfl)) ?_
  intro W base args ds gs before hval0 hW hcnd hsz0 _
  have hsz : (DataW.weightsEach Try.prog (Try.f6.params.toList ++ Rows.sealTellsSpec.plain.varTypes Try.prog) (ds ++ gs)).all (· ≤ reachBytes) = true := hsz0
  clear hsz0
  have hval : ∀ (j : Nat) t v, Try.f6.params[j]? = some t → args[j]? = some v → Value.okWide Try.prog W .any base t v := hval0
  have hW' := hW
  obtain ⟨p, q, hA0, hV, rfl, hfz, hnd⟩ := hW
  have hA : DataW.TrodAll enc Try.prog W 0 (fun _ => true) true Try.f6.params.toList args.toList ds p := hA0
  rw [Try.params6] at hA hval hsz
  obtain ⟨v0, vs0, d0, ds0, p0, q0, hargs, rfl, rfl, h0, r0⟩ := trodAll_cons hA
  obtain ⟨v1, vs1, d1, ds1, p1, q1, rfl, rfl, rfl, h1, r1⟩ := trodAll_cons r0
  obtain ⟨v2, vs2, d2, ds2, p2, q2, rfl, rfl, rfl, h2, r2⟩ := trodAll_cons r1
  obtain ⟨rfl, rfl, rfl⟩ := trodAll_nil r2
  obtain rfl : args = #[v0, v1, v2] := by cases args; simp_all
  obtain ⟨rfl, rfl⟩ := trodVars_none hV
  have k0 := h0
  have lt0 : ∀ x ∈ p0, x.block < W.heap.size := by obtain ⟨m, hm⟩ := k0; exact DataW.trod_lt m _ _ _ hm
  have k1 := h1
  have lt1 : ∀ x ∈ p1, x.block < W.heap.size := by obtain ⟨m, hm⟩ := k1; exact DataW.trod_lt m _ _ _ hm
  have k2 := h2
  have lt2 : ∀ x ∈ p2, x.block < W.heap.size := by obtain ⟨m, hm⟩ := k2; exact DataW.trod_lt m _ _ _ hm
  obtain ⟨a0_0, a0_1, a0_2, a0_3, rfl, rfl, w0_0, w0_1, w0_2, w0_3⟩ := open24 (hval 0 24 v0 rfl rfl) h0
  have b0_3 : a0_3.size ≤ 140737488351232 := by
    have := List.all_eq_true.1 hsz a0_3.data.toList.length (DataW.weights_mem_each (j := 0) (t := 24) rfl rfl _ (by simp [DataW.weights, DataW.weightsAll, DataW.weightsEach, Try.underlying22, Try.underlying24, Try.underlying3, Try.underlying9]))
    have := of_decide_eq_true this
    simpa [reachBytes] using this
  obtain ⟨a1, rfl, rfl, rfl, w1⟩ := open_int Try.underlying3 (hval 1 3 v1 rfl rfl) h1
  obtain ⟨a2_0, a2_1, a2_2, a2_3, rfl, rfl, w2_0, w2_1, w2_2, w2_3⟩ := open36 (hval 2 36 v2 rfl rfl) h2
  clear hA0 hval0
  refine (walk a0_0 a0_1 a0_2 a0_3 a1 a2_0 a2_1 a2_2 a2_3 W w0_0 w0_1 w0_2 b0_3 w1 w2_0 w2_1 w2_2 w2_3).mono fun e W' ⟨he, bel⟩ => ?_
  subst he
  exact ⟨_, rfl, _, _, _, [], _, [], hW', trodAll_mk1 (shut_bool Try.underlying4 _), (trodAll_cons_mk (Below.trod laidOut (by kernel_rfl) (of_decide_eq_true (by kernel_rfl)) k0 bel lt0) (trodAll_cons_mk (Below.trod laidOut (by kernel_rfl) (of_decide_eq_true (by kernel_rfl)) k1 bel lt1) (trodAll_cons_mk (Below.trod laidOut (by kernel_rfl) (of_decide_eq_true (by kernel_rfl)) k2 bel lt2) trodAll_mk0))), rfl, bel.frame _, fun h => by cases h⟩

theorem proved : Rows.SealTellsSaid :=
  OpenClaim.holds_of_wide 6 Try.f6 rfl rfl rfl rfl rfl rfl rfl ⟨rfl, rfl, rfl, rfl, rfl⟩ rfl rfl rfl rfl rfl (by kernel_rfl) Try.func6 (by kernel_rfl)
    (of_decide_eq_true (by kernel_rfl)) (by unfold Func.isWrapper; first | (rw [if_pos (by decide +kernel)]; kernel_rfl) | (rw [if_neg (by decide +kernel)]; exact ⟨rfl, rfl⟩))
    (fun os started H enc _ => lifted os started H enc)
#print axioms proved
end Go.Proofs.Ythniifphilnokaa.sealTells
