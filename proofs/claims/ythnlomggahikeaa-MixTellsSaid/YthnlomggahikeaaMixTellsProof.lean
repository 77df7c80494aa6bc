/- MixTells: for every input the law returns true; each argument reads as it did. Conditions: none. -/
import Derived.Test.YthnlomggahikeaaMixTells
import Derived.WalkKit
import Derived.ProofKit
import Derived.OpenShut
import Derived.ShutString
import Derived.ChangeOld
import Derived.Below
import Derived.SizedLaws
namespace Go.Proofs.Ythnlomggahikeaa.mixTells
open Go.ChangeShapes Go.WideShapes Go.ChangeAt Go.RowKit
open Go.ChangeMaps (open_string shut_string)
set_option linter.unusedVariables false
set_option linter.unusedSimpArgs false

theorem own : ownKnob Try.prog.godebug = none := by kernel_rfl
theorem laidOut : laidOutB Try.prog = true := by kernel_rfl
theorem array_2 {α : Type} {cs : Array α} (h : cs.size = 2) : ∃ c0 c1, cs = #[c0, c1] := by
  obtain ⟨l⟩ := cs
  match l, h with
  | [c0, c1], _ => exact ⟨c0, c1, rfl⟩
theorem array_8 {α : Type} {cs : Array α} (h : cs.size = 8) : ∃ c0 c1 c2 c3 c4 c5 c6 c7, cs = #[c0, c1, c2, c3, c4, c5, c6, c7] := by
  obtain ⟨l⟩ := cs
  match l, h with
  | [c0, c1, c2, c3, c4, c5, c6, c7], _ => exact ⟨c0, c1, c2, c3, c4, c5, c6, c7, rfl⟩
theorem list_2 {α : Type} {l : List α} (h : l.length = 2) : ∃ c0 c1, l = [c0, c1] := by
  match l, h with
  | [c0, c1], _ => exact ⟨c0, c1, rfl⟩
theorem list_4 {α : Type} {l : List α} (h : l.length = 4) : ∃ c0 c1 c2 c3, l = [c0, c1, c2, c3] := by
  match l, h with
  | [c0, c1, c2, c3], _ => exact ⟨c0, c1, c2, c3, rfl⟩
theorem cellsOf5 : Try.prog.cellsOf 5 = 1 := by kernel_rfl
theorem cellsOf9 : Try.prog.cellsOf 9 = 1 := by kernel_rfl
theorem cellsOf22 : Try.prog.cellsOf 22 = 1 := by kernel_rfl
theorem cellsOf27 : Try.prog.cellsOf 27 = 2 := by kernel_rfl
theorem cellsOf28 : Try.prog.cellsOf 28 = 2 := by kernel_rfl
theorem cellsOf29 : Try.prog.cellsOf 29 = 4 := by kernel_rfl
theorem cellsOf30 : Try.prog.cellsOf 30 = 8 := by kernel_rfl
theorem open27 {H : Type} {enc : TypeId × Value → H} {W : World} {sp : Nat → Bool} {b : Nat} {v : Value} {d : DataW H} {p : List MemPlace} (hv : Value.okWide Try.prog W .any b 27 v) (h : DataW.Trod enc Try.prog W 0 sp true 27 v d p) :
    ∃ (a_0 : Int) (a_1 : Int), v = .agg #[.int .u64 a_0, .int .u64 a_1] ∧ d = .agg [.lit (.int .u64 a_0), .lit (.int .u64 a_1)] ∧ (Lit.int .u64 a_0).wf = true ∧ (Lit.int .u64 a_1).wf = true := by
  unfold Value.okWide at hv; rw [Try.underlying27] at hv; obtain ⟨cs, rfl, sz, _⟩ := hv
  obtain ⟨c0, c1, rfl⟩ := array_2 (sz.trans cellsOf27)
  obtain ⟨fu, hf⟩ := h
  replace hf : DataW.trod enc Try.prog W 0 sp true fu 27 [c0, c1] = some (d, p) := hf
  obtain ⟨xs, m, _, hx, _, hn, hg⟩ := DataW.trod_array Try.underlying27 hf
  obtain ⟨x_0, x_1, rfl⟩ := list_2 hn
  have g_0 : DataW.trod enc Try.prog W 0 sp true m 22 [c0] = some x_0 := by simpa [cellsOf22] using hg 0 (by decide)
  have g_1 : DataW.trod enc Try.prog W 0 sp true m 22 [c1] = some x_1 := by simpa [cellsOf22] using hg 1 (by decide)
  clear hg hn
  have hd := congrArg Prod.fst hx
  obtain ⟨a_0, e_0, x_0, w_0⟩ := DataW.trod_int Try.underlying22 g_0
  simp only [List.cons.injEq, and_true] at e_0; subst e_0; subst x_0
  obtain ⟨a_1, e_1, x_1, w_1⟩ := DataW.trod_int Try.underlying22 g_1
  simp only [List.cons.injEq, and_true] at e_1; subst e_1; subst x_1
  exact ⟨a_0, a_1, rfl, hd, w_0, w_1⟩
theorem open28 {H : Type} {enc : TypeId × Value → H} {W : World} {sp : Nat → Bool} {b : Nat} {v : Value} {d : DataW H} {p : List MemPlace} (hv : Value.okWide Try.prog W .any b 28 v) (h : DataW.Trod enc Try.prog W 0 sp true 28 v d p) :
    ∃ (a_0 : ByteArray) (a_1 : ByteArray), v = .agg #[.string a_0, .string a_1] ∧ d = .agg [.lit (.string a_0.data.toList), .lit (.string a_1.data.toList)] ∧ a_0.size ≤ maxLen ∧ a_1.size ≤ maxLen := by
  unfold Value.okWide at hv; rw [Try.underlying28] at hv; obtain ⟨cs, rfl, sz, _⟩ := hv
  obtain ⟨c0, c1, rfl⟩ := array_2 (sz.trans cellsOf28)
  obtain ⟨fu, hf⟩ := h
  replace hf : DataW.trod enc Try.prog W 0 sp true fu 28 [c0, c1] = some (d, p) := hf
  obtain ⟨xs, m, _, hx, _, hn, hg⟩ := DataW.trod_array Try.underlying28 hf
  obtain ⟨x_0, x_1, rfl⟩ := list_2 hn
  have g_0 : DataW.trod enc Try.prog W 0 sp true m 9 [c0] = some x_0 := by simpa [cellsOf9] using hg 0 (by decide)
  have g_1 : DataW.trod enc Try.prog W 0 sp true m 9 [c1] = some x_1 := by simpa [cellsOf9] using hg 1 (by decide)
  clear hg hn
  have hd := congrArg Prod.fst hx
  obtain ⟨a_0, e_0, x_0, w_0⟩ := DataW.trod_string Try.underlying9 g_0
  simp only [List.cons.injEq, and_true] at e_0; subst e_0; subst x_0
  obtain ⟨a_1, e_1, x_1, w_1⟩ := DataW.trod_string Try.underlying9 g_1
  simp only [List.cons.injEq, and_true] at e_1; subst e_1; subst x_1
  exact ⟨a_0, a_1, rfl, hd, w_0, w_1⟩
theorem open30 {H : Type} {enc : TypeId × Value → H} {W : World} {sp : Nat → Bool} {b : Nat} {v : Value} {d : DataW H} {p : List MemPlace} (hv : Value.okWide Try.prog W .any b 30 v) (h : DataW.Trod enc Try.prog W 0 sp true 30 v d p) :
    ∃ (a_0_0 : Int) (a_0_1 : Int) (a_0_2 : Int) (a_0_3 : Int) (a_1_0 : Int) (a_1_1 : Int) (a_1_2 : Int) (a_1_3 : Int), v = .agg #[.int .u8 a_0_0, .int .u8 a_0_1, .int .u8 a_0_2, .int .u8 a_0_3, .int .u8 a_1_0, .int .u8 a_1_1, .int .u8 a_1_2, .int .u8 a_1_3] ∧ d = .agg [.agg [.lit (.int .u8 a_0_0), .lit (.int .u8 a_0_1), .lit (.int .u8 a_0_2), .lit (.int .u8 a_0_3)], .agg [.lit (.int .u8 a_1_0), .lit (.int .u8 a_1_1), .lit (.int .u8 a_1_2), .lit (.int .u8 a_1_3)]] ∧ (Lit.int .u8 a_0_0).wf = true ∧ (Lit.int .u8 a_0_1).wf = true ∧ (Lit.int .u8 a_0_2).wf = true ∧ (Lit.int .u8 a_0_3).wf = true ∧ (Lit.int .u8 a_1_0).wf = true ∧ (Lit.int .u8 a_1_1).wf = true ∧ (Lit.int .u8 a_1_2).wf = true ∧ (Lit.int .u8 a_1_3).wf = true := by
  unfold Value.okWide at hv; rw [Try.underlying30] at hv; obtain ⟨cs, rfl, sz, _⟩ := hv
  obtain ⟨c0, c1, c2, c3, c4, c5, c6, c7, rfl⟩ := array_8 (sz.trans cellsOf30)
  obtain ⟨fu, hf⟩ := h
  replace hf : DataW.trod enc Try.prog W 0 sp true fu 30 [c0, c1, c2, c3, c4, c5, c6, c7] = some (d, p) := hf
  obtain ⟨xs, m, _, hx, _, hn, hg⟩ := DataW.trod_array Try.underlying30 hf
  obtain ⟨x_0, x_1, rfl⟩ := list_2 hn
  have g_0 : DataW.trod enc Try.prog W 0 sp true m 29 [c0, c1, c2, c3] = some x_0 := by simpa [cellsOf29] using hg 0 (by decide)
  have g_1 : DataW.trod enc Try.prog W 0 sp true m 29 [c4, c5, c6, c7] = some x_1 := by simpa [cellsOf29] using hg 1 (by decide)
  clear hg hn
  have hd := congrArg Prod.fst hx
  obtain ⟨xs_0, m_0, _, hx_0, _, hn_0, hg_0⟩ := DataW.trod_array Try.underlying29 g_0
  obtain ⟨x_0_0, x_0_1, x_0_2, x_0_3, rfl⟩ := list_4 hn_0
  have g_0_0 : DataW.trod enc Try.prog W 0 sp true m_0 5 [c0] = some x_0_0 := by simpa [cellsOf5] using hg_0 0 (by decide)
  have g_0_1 : DataW.trod enc Try.prog W 0 sp true m_0 5 [c1] = some x_0_1 := by simpa [cellsOf5] using hg_0 1 (by decide)
  have g_0_2 : DataW.trod enc Try.prog W 0 sp true m_0 5 [c2] = some x_0_2 := by simpa [cellsOf5] using hg_0 2 (by decide)
  have g_0_3 : DataW.trod enc Try.prog W 0 sp true m_0 5 [c3] = some x_0_3 := by simpa [cellsOf5] using hg_0 3 (by decide)
  clear hg_0 hn_0
  subst hx_0
  obtain ⟨a_0_0, e_0_0, x_0_0, w_0_0⟩ := DataW.trod_int Try.underlying5 g_0_0
  simp only [List.cons.injEq, and_true] at e_0_0; subst e_0_0; subst x_0_0
  obtain ⟨a_0_1, e_0_1, x_0_1, w_0_1⟩ := DataW.trod_int Try.underlying5 g_0_1
  simp only [List.cons.injEq, and_true] at e_0_1; subst e_0_1; subst x_0_1
  obtain ⟨a_0_2, e_0_2, x_0_2, w_0_2⟩ := DataW.trod_int Try.underlying5 g_0_2
  simp only [List.cons.injEq, and_true] at e_0_2; subst e_0_2; subst x_0_2
  obtain ⟨a_0_3, e_0_3, x_0_3, w_0_3⟩ := DataW.trod_int Try.underlying5 g_0_3
  simp only [List.cons.injEq, and_true] at e_0_3; subst e_0_3; subst x_0_3
  obtain ⟨xs_1, m_1, _, hx_1, _, hn_1, hg_1⟩ := DataW.trod_array Try.underlying29 g_1
  obtain ⟨x_1_0, x_1_1, x_1_2, x_1_3, rfl⟩ := list_4 hn_1
  have g_1_0 : DataW.trod enc Try.prog W 0 sp true m_1 5 [c4] = some x_1_0 := by simpa [cellsOf5] using hg_1 0 (by decide)
  have g_1_1 : DataW.trod enc Try.prog W 0 sp true m_1 5 [c5] = some x_1_1 := by simpa [cellsOf5] using hg_1 1 (by decide)
  have g_1_2 : DataW.trod enc Try.prog W 0 sp true m_1 5 [c6] = some x_1_2 := by simpa [cellsOf5] using hg_1 2 (by decide)
  have g_1_3 : DataW.trod enc Try.prog W 0 sp true m_1 5 [c7] = some x_1_3 := by simpa [cellsOf5] using hg_1 3 (by decide)
  clear hg_1 hn_1
  subst hx_1
  obtain ⟨a_1_0, e_1_0, x_1_0, w_1_0⟩ := DataW.trod_int Try.underlying5 g_1_0
  simp only [List.cons.injEq, and_true] at e_1_0; subst e_1_0; subst x_1_0
  obtain ⟨a_1_1, e_1_1, x_1_1, w_1_1⟩ := DataW.trod_int Try.underlying5 g_1_1
  simp only [List.cons.injEq, and_true] at e_1_1; subst e_1_1; subst x_1_1
  obtain ⟨a_1_2, e_1_2, x_1_2, w_1_2⟩ := DataW.trod_int Try.underlying5 g_1_2
  simp only [List.cons.injEq, and_true] at e_1_2; subst e_1_2; subst x_1_2
  obtain ⟨a_1_3, e_1_3, x_1_3, w_1_3⟩ := DataW.trod_int Try.underlying5 g_1_3
  simp only [List.cons.injEq, and_true] at e_1_3; subst e_1_3; subst x_1_3
  exact ⟨a_0_0, a_0_1, a_0_2, a_0_3, a_1_0, a_1_1, a_1_2, a_1_3, rfl, hd, w_0_0, w_0_1, w_0_2, w_0_3, w_1_0, w_1_1, w_1_2, w_1_3⟩

set_option maxRecDepth 100000 in
theorem lifted (os : Os) (started : os.Started) (H : Type) (enc : TypeId × Value → H) :
    ReturnsInHanded {} Try.checked os 5 .any (Rows.mixTellsSpec.pre6 enc Try.prog Try.f5 Rows.mixTellsRow.domain false) (Rows.mixTellsSpec.post enc Try.prog Try.f5 false true false false) := by
  refine returnsInHanded_of_change_sized (C := Try.checked) own started (by kernel_rfl) Try.func5
    (ChangeSpec.witness6 (enc := enc) (C := Try.checked) false ⟨#[], #[.agg #[.int .u64 0, .int .u64 0], .agg #[.string ByteArray.empty, .string ByteArray.empty], .agg #[.int .u8 0, .int .u8 0, .int .u8 0, .int .u8 0, .int .u8 0, .int .u8 0, .int .u8 0, .int .u8 0]], []⟩ 8 (by kernel_rfl) (by kernel_rfl) (by kernel_rfl) (by kernel_rfl)) ?_
  intro W base args ds gs before hval0 hW hcnd hsz0 _
  have hsz : (DataW.weightsEach Try.prog (Try.f5.params.toList ++ Rows.mixTellsSpec.plain.varTypes Try.prog) (ds ++ gs)).all (· ≤ reachBytes) = true := hsz0
  clear hsz0
  have hval : ∀ (j : Nat) t v, Try.f5.params[j]? = some t → args[j]? = some v → Value.okWide Try.prog W .any base t v := hval0
  have hW' := hW
  obtain ⟨p, q, hA0, hV, rfl, hfz, hnd⟩ := hW
  have hA : DataW.TrodAll enc Try.prog W 0 (fun _ => true) true Try.f5.params.toList args.toList ds p := hA0
  rw [Try.params5] at hA hval hsz
  obtain ⟨v0, vs0, d0, ds0, p0, q0, hargs, rfl, rfl, h0, r0⟩ := trodAll_cons hA
  obtain ⟨v1, vs1, d1, ds1, p1, q1, rfl, rfl, rfl, h1, r1⟩ := trodAll_cons r0
  obtain ⟨v2, vs2, d2, ds2, p2, q2, rfl, rfl, rfl, h2, r2⟩ := trodAll_cons r1
  obtain ⟨rfl, rfl, rfl⟩ := trodAll_nil r2
  obtain rfl : args = #[v0, v1, v2] := by cases args; simp_all
  obtain ⟨rfl, rfl⟩ := trodVars_none hV
  have k0 := h0
  have lt0 : ∀ x ∈ p0, x.block < W.heap.size := by obtain ⟨m, hm⟩ := k0; exact DataW.trod_lt m _ _ _ hm
  have k1 := h1
  have lt1 : ∀ x ∈ p1, x.block < W.heap.size := by obtain ⟨m, hm⟩ := k1; exact DataW.trod_lt m _ _ _ hm
  have k2 := h2
  have lt2 : ∀ x ∈ p2, x.block < W.heap.size := by obtain ⟨m, hm⟩ := k2; exact DataW.trod_lt m _ _ _ hm
  obtain ⟨a0_0, a0_1, rfl, rfl, w0_0, w0_1⟩ := open27 (hval 0 27 v0 rfl rfl) h0
  obtain ⟨a1_0, a1_1, rfl, rfl, w1_0, w1_1⟩ := open28 (hval 1 28 v1 rfl rfl) h1
  have b1_0 : a1_0.size ≤ 140737488351232 := by
    have := List.all_eq_true.1 hsz a1_0.data.toList.length (DataW.weights_mem_each (j := 1) (t := 28) rfl rfl _ (by simp [DataW.weights, DataW.weightsAll, DataW.weightsEach, Try.underlying28, Try.underlying9]))
    have := of_decide_eq_true this
    simpa [reachBytes] using this
  have b1_1 : a1_1.size ≤ 140737488351232 := by
    have := List.all_eq_true.1 hsz a1_1.data.toList.length (DataW.weights_mem_each (j := 1) (t := 28) rfl rfl _ (by simp [DataW.weights, DataW.weightsAll, DataW.weightsEach, Try.underlying28, Try.underlying9]))
    have := of_decide_eq_true this
    simpa [reachBytes] using this
  obtain ⟨a2_0_0, a2_0_1, a2_0_2, a2_0_3, a2_1_0, a2_1_1, a2_1_2, a2_1_3, rfl, rfl, w2_0_0, w2_0_1, w2_0_2, w2_0_3, w2_1_0, w2_1_1, w2_1_2, w2_1_3⟩ := open30 (hval 2 30 v2 rfl rfl) h2
  clear hA0 hval0
  refine (walk a0_0 a0_1 a1_0 a1_1 a2_0_0 a2_0_1 a2_0_2 a2_0_3 a2_1_0 a2_1_1 a2_1_2 a2_1_3 W w0_0 w0_1 b1_0 b1_1 w2_0_0 w2_0_1 w2_0_2 w2_0_3 w2_1_0 w2_1_1 w2_1_2 w2_1_3).mono fun e W' ⟨he, bel⟩ => ?_
  subst he
  exact ⟨_, rfl, _, _, _, [], _, [], hW', trodAll_mk1 (shut_bool Try.underlying4 _), (trodAll_cons_mk (Below.trod laidOut (by kernel_rfl) (of_decide_eq_true (by kernel_rfl)) k0 bel lt0) (trodAll_cons_mk (Below.trod laidOut (by kernel_rfl) (of_decide_eq_true (by kernel_rfl)) k1 bel lt1) (trodAll_cons_mk (Below.trod laidOut (by kernel_rfl) (of_decide_eq_true (by kernel_rfl)) k2 bel lt2) trodAll_mk0))), rfl, bel.frame _, fun h => by cases h⟩

theorem proved : Rows.MixTellsSaid :=
  OpenClaim.holds_of_wide 5 Try.f5 rfl rfl rfl rfl rfl rfl rfl ⟨rfl, rfl, rfl, rfl, rfl⟩ rfl rfl rfl rfl rfl (by kernel_rfl) Try.func5 (by kernel_rfl)
    (of_decide_eq_true (by kernel_rfl)) (by unfold Func.isWrapper; first | (rw [if_pos (by decide +kernel)]; kernel_rfl) | (rw [if_neg (by decide +kernel)]; exact ⟨rfl, rfl⟩))
    (fun os started H enc _ => lifted os started H enc)
#print axioms proved
end Go.Proofs.Ythnlomggahikeaa.mixTells
