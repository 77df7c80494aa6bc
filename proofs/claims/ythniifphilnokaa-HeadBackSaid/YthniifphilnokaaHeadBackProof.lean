/- HeadBack: for every input the law returns true; each argument reads as it did. Conditions: none. -/
import Derived.Test.YthniifphilnokaaHeadBackW
import Derived.WalkKit
import Derived.ProofKit
import Derived.OpenShut
import Derived.ShutString
import Derived.ChangeOld
import Derived.Below
import Derived.SizedLaws
namespace Go.Proofs.Ythniifphilnokaa.headBack
open Go.ChangeShapes Go.WideShapes Go.ChangeAt Go.RowKit
open Go.ChangeMaps (open_string shut_string)
set_option linter.unusedVariables false
set_option linter.unusedSimpArgs false

theorem own : ownKnob Try.prog.godebug = none := by kernel_rfl
theorem laidOut : laidOutB Try.prog = true := by kernel_rfl
theorem array_6 {α : Type} {cs : Array α} (h : cs.size = 6) : ∃ c0 c1 c2 c3 c4 c5, cs = #[c0, c1, c2, c3, c4, c5] := by
  obtain ⟨l⟩ := cs
  match l, h with
  | [c0, c1, c2, c3, c4, c5], _ => exact ⟨c0, c1, c2, c3, c4, c5, rfl⟩
theorem list_6 {α : Type} {l : List α} (h : l.length = 6) : ∃ c0 c1 c2 c3 c4 c5, l = [c0, c1, c2, c3, c4, c5] := by
  match l, h with
  | [c0, c1, c2, c3, c4, c5], _ => exact ⟨c0, c1, c2, c3, c4, c5, rfl⟩
theorem cellsOf3 : Try.prog.cellsOf 3 = 1 := by kernel_rfl
theorem cellsOf22 : Try.prog.cellsOf 22 = 1 := by kernel_rfl
theorem cellsOf41 : Try.prog.cellsOf 41 = 6 := by kernel_rfl
theorem open41 {H : Type} {enc : TypeId × Value → H} {W : World} {sp : Nat → Bool} {b : Nat} {v : Value} {d : DataW H} {p : List MemPlace} (hv : Value.okWide Try.prog W .any b 41 v) (h : DataW.Trod enc Try.prog W 0 sp true 41 v d p) :
    ∃ (a_0 : Int) (a_1 : Int) (a_2 : Int) (a_3 : Int) (a_4 : Int) (a_5 : Int), v = .agg #[.int .i64 a_0, .int .i64 a_1, .int .i64 a_2, .int .i64 a_3, .int .i64 a_4, .int .u64 a_5] ∧ d = .agg [.lit (.int .i64 a_0), .lit (.int .i64 a_1), .lit (.int .i64 a_2), .lit (.int .i64 a_3), .lit (.int .i64 a_4), .lit (.int .u64 a_5)] ∧ (Lit.int .i64 a_0).wf = true ∧ (Lit.int .i64 a_1).wf = true ∧ (Lit.int .i64 a_2).wf = true ∧ (Lit.int .i64 a_3).wf = true ∧ (Lit.int .i64 a_4).wf = true ∧ (Lit.int .u64 a_5).wf = true := by
  unfold Value.okWide at hv; rw [Try.underlying41] at hv; obtain ⟨cs, rfl, sz, _⟩ := hv
  obtain ⟨c0, c1, c2, c3, c4, c5, rfl⟩ := array_6 (sz.trans cellsOf41)
  obtain ⟨fu, hf⟩ := h
  replace hf : DataW.trod enc Try.prog W 0 sp true fu 41 [c0, c1, c2, c3, c4, c5] = some (d, p) := hf
  obtain ⟨xs, m, _, hx, _, hn, hg⟩ := DataW.trod_struct Try.underlying41 hf
  obtain ⟨x_0, x_1, x_2, x_3, x_4, x_5, rfl⟩ := list_6 hn
  have g_0 : DataW.trod enc Try.prog W 0 sp true m 3 [c0] = some x_0 := by simpa [cellsOf3] using hg 0 _ rfl
  have g_1 : DataW.trod enc Try.prog W 0 sp true m 3 [c1] = some x_1 := by simpa [cellsOf3] using hg 1 _ rfl
  have g_2 : DataW.trod enc Try.prog W 0 sp true m 3 [c2] = some x_2 := by simpa [cellsOf3] using hg 2 _ rfl
  have g_3 : DataW.trod enc Try.prog W 0 sp true m 3 [c3] = some x_3 := by simpa [cellsOf3] using hg 3 _ rfl
  have g_4 : DataW.trod enc Try.prog W 0 sp true m 3 [c4] = some x_4 := by simpa [cellsOf3] using hg 4 _ rfl
  have g_5 : DataW.trod enc Try.prog W 0 sp true m 22 [c5] = some x_5 := by simpa [cellsOf22] using hg 5 _ rfl
  clear hg hn
  have hd := congrArg Prod.fst hx
  obtain ⟨a_0, e_0, x_0, w_0⟩ := DataW.trod_int Try.underlying3 g_0
  simp only [List.cons.injEq, and_true] at e_0; subst e_0; subst x_0
  obtain ⟨a_1, e_1, x_1, w_1⟩ := DataW.trod_int Try.underlying3 g_1
  simp only [List.cons.injEq, and_true] at e_1; subst e_1; subst x_1
  obtain ⟨a_2, e_2, x_2, w_2⟩ := DataW.trod_int Try.underlying3 g_2
  simp only [List.cons.injEq, and_true] at e_2; subst e_2; subst x_2
  obtain ⟨a_3, e_3, x_3, w_3⟩ := DataW.trod_int Try.underlying3 g_3
  simp only [List.cons.injEq, and_true] at e_3; subst e_3; subst x_3
  obtain ⟨a_4, e_4, x_4, w_4⟩ := DataW.trod_int Try.underlying3 g_4
  simp only [List.cons.injEq, and_true] at e_4; subst e_4; subst x_4
  obtain ⟨a_5, e_5, x_5, w_5⟩ := DataW.trod_int Try.underlying22 g_5
  simp only [List.cons.injEq, and_true] at e_5; subst e_5; subst x_5
  exact ⟨a_0, a_1, a_2, a_3, a_4, a_5, rfl, hd, w_0, w_1, w_2, w_3, w_4, w_5⟩

set_option maxRecDepth 100000 in
theorem lifted (os : Os) (started : os.Started) (H : Type) (enc : TypeId × Value → H) :
    ReturnsInHanded {} Try.checked os 9 .any (Rows.headBackSpec.pre6 enc Try.prog Try.f9 Rows.headBackRow.domain false) (Rows.headBackSpec.post enc Try.prog Try.f9 false true false false) := by
  refine returnsInHanded_of_change_sized (C := Try.checked) own started (by kernel_rfl) Try.func9
    (ChangeSpec.witness6 (enc := enc) (C := Try.checked) false ⟨#[], #[.agg #[.int .i64 0, .int .i64 0, .int .i64 0, .int .i64 0, .int .i64 0, .int .u64 0], .agg #[.int .i64 0, .int .i64 0, .int .i64 0, .int .i64 0, .int .i64 0, .int .u64 0], .string ByteArray.empty], []⟩ 8 (by kernel_rfl) (by kernel_rfl) (by kernel_rfl) (by kernel_rfl)) ?_
  intro W base args ds gs before hval0 hW hcnd hsz0 _
  have hsz : (DataW.weightsEach Try.prog (Try.f9.params.toList ++ Rows.headBackSpec.plain.varTypes Try.prog) (ds ++ gs)).all (· ≤ reachBytes) = true := hsz0
  clear hsz0
  have hval : ∀ (j : Nat) t v, Try.f9.params[j]? = some t → args[j]? = some v → Value.okWide Try.prog W .any base t v := hval0
  have hW' := hW
  obtain ⟨p, q, hA0, hV, rfl, hfz, hnd⟩ := hW
  have hA : DataW.TrodAll enc Try.prog W 0 (fun _ => true) true Try.f9.params.toList args.toList ds p := hA0
  rw [Try.params9] at hA hval hsz
  obtain ⟨v0, vs0, d0, ds0, p0, q0, hargs, rfl, rfl, h0, r0⟩ := trodAll_cons hA
  obtain ⟨v1, vs1, d1, ds1, p1, q1, rfl, rfl, rfl, h1, r1⟩ := trodAll_cons r0
  obtain ⟨v2, vs2, d2, ds2, p2, q2, rfl, rfl, rfl, h2, r2⟩ := trodAll_cons r1
  obtain ⟨rfl, rfl, rfl⟩ := trodAll_nil r2
  obtain rfl : args = #[v0, v1, v2] := by cases args; simp_all
  obtain ⟨rfl, rfl⟩ := trodVars_none hV
  have k0 := h0
  have lt0 : ∀ x ∈ p0, x.block < W.heap.size := by obtain ⟨m, hm⟩ := k0; exact DataW.trod_lt m _ _ _ hm
  have k1 := h1
  have lt1 : ∀ x ∈ p1, x.block < W.heap.size := by obtain ⟨m, hm⟩ := k1; exact DataW.trod_lt m _ _ _ hm
  have k2 := h2
  have lt2 : ∀ x ∈ p2, x.block < W.heap.size := by obtain ⟨m, hm⟩ := k2; exact DataW.trod_lt m _ _ _ hm
  obtain ⟨a0_0, a0_1, a0_2, a0_3, a0_4, a0_5, rfl, rfl, w0_0, w0_1, w0_2, w0_3, w0_4, w0_5⟩ := open41 (hval 0 41 v0 rfl rfl) h0
  obtain ⟨a1_0, a1_1, a1_2, a1_3, a1_4, a1_5, rfl, rfl, w1_0, w1_1, w1_2, w1_3, w1_4, w1_5⟩ := open41 (hval 1 41 v1 rfl rfl) h1
  obtain ⟨a2, rfl, rfl, rfl, w2⟩ := open_string Try.underlying9 (hval 2 9 v2 rfl rfl) h2
  have b2 : a2.size ≤ 140737488351232 := by
    have := sized_string hsz (j := 2) (t := 9) rfl rfl
    simpa [reachBytes] using this
  clear hA0 hval0
  refine (walk a0_0 a0_1 a0_2 a0_3 a0_4 a0_5 a1_0 a1_1 a1_2 a1_3 a1_4 a1_5 a2 W w0_0 w0_1 w0_2 w0_3 w0_4 w0_5 w1_0 w1_1 w1_2 w1_3 w1_4 w1_5 b2).mono fun e W' ⟨he, bel⟩ => ?_
  subst he
  exact ⟨_, rfl, _, _, _, [], _, [], hW', trodAll_mk1 (shut_bool Try.underlying4 _), (trodAll_cons_mk (Below.trod laidOut (by kernel_rfl) (of_decide_eq_true (by kernel_rfl)) k0 bel lt0) (trodAll_cons_mk (Below.trod laidOut (by kernel_rfl) (of_decide_eq_true (by kernel_rfl)) k1 bel lt1) (trodAll_cons_mk (Below.trod laidOut (by kernel_rfl) (of_decide_eq_true (by kernel_rfl)) k2 bel lt2) trodAll_mk0))), rfl, bel.frame _, fun h => by cases h⟩

theorem proved : Rows.HeadBackSaid :=
  OpenClaim.holds_of_wide 9 Try.f9 rfl rfl rfl rfl rfl rfl rfl ⟨rfl, rfl, rfl, rfl, rfl⟩ rfl rfl rfl rfl rfl (by kernel_rfl) Try.func9 (by kernel_rfl)
    (of_decide_eq_true (by kernel_rfl)) (by unfold Func.isWrapper; first | (rw [if_pos (by decide +kernel)]; kernel_rfl) | (rw [if_neg (by decide +kernel)]; exact ⟨rfl, rfl⟩))
    (fun os started H enc _ => lifted os started H enc)
#print axioms proved
end Go.Proofs.Ythniifphilnokaa.headBack
