/- DiskRefused: for every input the law returns true; each argument reads as it did. Conditions: none. -/
import Derived.Test.YtdgmjjidkaafaaaDiskRefusedW
import Derived.WalkKit
import Derived.ProofKit
import Derived.OpenShut
import Derived.ShutString
import Derived.ChangeOld
import Derived.Below
import Derived.SizedLaws
namespace Go.Proofs.Ytdgmjjidkaafaaa.diskRefused
open Go.ChangeShapes Go.WideShapes Go.ChangeAt Go.RowKit
open Go.ChangeMaps (open_string shut_string)
set_option linter.unusedVariables false
set_option linter.unusedSimpArgs false

theorem own : ownKnob Try.prog.godebug = none := by kernel_rfl
theorem laidOut : laidOutB Try.prog = true := by kernel_rfl
theorem array_6 {α : Type} {cs : Array α} (h : cs.size = 6) : ∃ c0 c1 c2 c3 c4 c5, cs = #[c0, c1, c2, c3, c4, c5] := by
  obtain ⟨l⟩ := cs
  match l, h with
  | [c0, c1, c2, c3, c4, c5], _ => exact ⟨c0, c1, c2, c3, c4, c5, rfl⟩
theorem list_6 {α : Type} {l : List α} (h : l.length = 6) : ∃ c0 c1 c2 c3 c4 c5, l = [c0, c1, c2, c3, c4, c5] := by
  match l, h with
  | [c0, c1, c2, c3, c4, c5], _ => exact ⟨c0, c1, c2, c3, c4, c5, rfl⟩
theorem cellsOf3 : Try.prog.cellsOf 3 = 1 := by kernel_rfl
theorem cellsOf5 : Try.prog.cellsOf 5 = 1 := by kernel_rfl
theorem cellsOf9 : Try.prog.cellsOf 9 = 1 := by kernel_rfl
theorem cellsOf36 : Try.prog.cellsOf 36 = 1 := by kernel_rfl
theorem cellsOf45 : Try.prog.cellsOf 45 = 6 := by kernel_rfl
theorem bytesOf3 : Try.prog.bytesOf 3 = 8 := by kernel_rfl
theorem bytesOf45 : Try.prog.bytesOf 45 = 72 := by kernel_rfl
set_option maxRecDepth 100000 in
theorem elem3 {H : Type} {enc : TypeId × Value → H} {W : World} {sp : Nat → Bool} (m : Nat) (cs : List Value) (x : DataW H × List MemPlace) (h : DataW.trod enc Try.prog W 0 sp true m 3 cs = some x) :
    ∃ y : Int, cs = [.int .i64 y] ∧ ((Lit.int .i64 y).wf = true) := by
  obtain ⟨a, e, _, w⟩ := DataW.trod_int Try.underlying3 h
  subst e
  exact ⟨a, rfl, w⟩
set_option maxRecDepth 100000 in
theorem elem45 {H : Type} {enc : TypeId × Value → H} {W : World} (m : Nat) (cs : List Value) (x : DataW H × List MemPlace) (h : DataW.trod enc Try.prog W 0 (fun _ => true) true m 45 cs = some x) :
    ∃ y : Int × ByteArray × Int × Int × Int × (Value × Nat × List (Int)), cs = [.int .i64 (y.1), .string (y.2.1), .int .i64 (y.2.2.1), .int .u8 (y.2.2.2.1), .int .i64 (y.2.2.2.2.1), (y.2.2.2.2.2).1] ∧ ((Lit.int .i64 (y.1)).wf = true ∧ (y.2.1).size ≤ maxLen ∧ (Lit.int .i64 (y.2.2.1)).wf = true ∧ (Lit.int .u8 (y.2.2.2.1)).wf = true ∧ (Lit.int .i64 (y.2.2.2.2.1)).wf = true ∧ (SlcAt W (y.2.2.2.2.2).1 (y.2.2.2.2.2).2.2.length (y.2.2.2.2.2).2.1 ((y.2.2.2.2.2).2.2.flatMap (fun y : Int => [.int .i64 y])) ∧ (y.2.2.2.2.2).2.2.length ≤ (y.2.2.2.2.2).2.1 ∧ (y.2.2.2.2.2).2.1 ≤ maxLen ∧ ∀ z ∈ (y.2.2.2.2.2).2.2, (fun y : Int => (Lit.int .i64 y).wf = true) z)) := by
  have hlen : cs.length = 6 := by
    obtain ⟨_, _, _, _, hl, _⟩ := DataW.trod_struct Try.underlying45 h
    rw [hl, cellsOf45]
  obtain ⟨c0, c1, c2, c3, c4, c5, rfl⟩ := list_6 hlen
  obtain ⟨xs, m, _, _, _, hn, hg⟩ := DataW.trod_struct Try.underlying45 h
  obtain ⟨x_0, x_1, x_2, x_3, x_4, x_5, rfl⟩ := list_6 hn
  have g_0 : DataW.trod enc Try.prog W 0 (fun _ => true) true m 3 [c0] = some x_0 := by simpa [cellsOf3] using hg 0 _ rfl
  have g_1 : DataW.trod enc Try.prog W 0 (fun _ => true) true m 9 [c1] = some x_1 := by simpa [cellsOf9] using hg 1 _ rfl
  have g_2 : DataW.trod enc Try.prog W 0 (fun _ => true) true m 3 [c2] = some x_2 := by simpa [cellsOf3] using hg 2 _ rfl
  have g_3 : DataW.trod enc Try.prog W 0 (fun _ => true) true m 5 [c3] = some x_3 := by simpa [cellsOf5] using hg 3 _ rfl
  have g_4 : DataW.trod enc Try.prog W 0 (fun _ => true) true m 3 [c4] = some x_4 := by simpa [cellsOf3] using hg 4 _ rfl
  have g_5 : DataW.trod enc Try.prog W 0 (fun _ => true) true m 36 [c5] = some x_5 := by simpa [cellsOf36] using hg 5 _ rfl
  obtain ⟨a_0, e_0, _, w_0⟩ := DataW.trod_int Try.underlying3 g_0
  simp only [List.cons.injEq, and_true] at e_0; subst e_0
  obtain ⟨a_1, e_1, _, w_1⟩ := DataW.trod_string Try.underlying9 g_1
  simp only [List.cons.injEq, and_true] at e_1; subst e_1
  obtain ⟨a_2, e_2, _, w_2⟩ := DataW.trod_int Try.underlying3 g_2
  simp only [List.cons.injEq, and_true] at e_2; subst e_2
  obtain ⟨a_3, e_3, _, w_3⟩ := DataW.trod_int Try.underlying5 g_3
  simp only [List.cons.injEq, and_true] at e_3; subst e_3
  obtain ⟨a_4, e_4, _, w_4⟩ := DataW.trod_int Try.underlying3 g_4
  simp only [List.cons.injEq, and_true] at e_4; subst e_4
  obtain ⟨va_5, ca_5, La_5, e_5, sa_5, qa_5, ma_5, wa_5, _⟩ := open_list (fun y : Int => [.int .i64 y]) (fun y : Int => (Lit.int .i64 y).wf = true) 1 (fun _ => rfl) (by decide) Try.underlying36 cellsOf3 (fun _ => rfl) elem3 g_5
  simp only [List.cons.injEq, and_true] at e_5; replace e_5 := e_5.symm; subst e_5
  exact ⟨(a_0, a_1, a_2, a_3, a_4, (va_5, ca_5, La_5)), rfl, ⟨w_0, w_1, w_2, w_3, w_4, ⟨sa_5, qa_5, ma_5, wa_5⟩⟩⟩
set_option maxRecDepth 100000 in
theorem open45 {H : Type} {enc : TypeId × Value → H} {W : World} {b : Nat} {v : Value} {d : DataW H} {p : List MemPlace} (hv : Value.okWide Try.prog W .any b 45 v) (h : DataW.Trod enc Try.prog W 0 (fun _ => true) true 45 v d p) :
    ∃ (a_0 : Int) (a_1 : ByteArray) (a_2 : Int) (a_3 : Int) (a_4 : Int) (v_5 : Value) (cap_5 : Nat) (L_5 : List (Int)) (d_5 : DataW H), v = .agg #[.int .i64 a_0, .string a_1, .int .i64 a_2, .int .u8 a_3, .int .i64 a_4, v_5] ∧ d = .agg [.lit (.int .i64 a_0), .lit (.string a_1.data.toList), .lit (.int .i64 a_2), .lit (.int .u8 a_3), .lit (.int .i64 a_4), d_5] ∧ (Lit.int .i64 a_0).wf = true ∧ a_1.size ≤ maxLen ∧ (Lit.int .i64 a_2).wf = true ∧ (Lit.int .u8 a_3).wf = true ∧ (Lit.int .i64 a_4).wf = true ∧ SlcAt W v_5 L_5.length cap_5 (L_5.flatMap (fun y : Int => [.int .i64 y])) ∧ L_5.length ≤ cap_5 ∧ (∀ y ∈ L_5, (fun y : Int => (Lit.int .i64 y).wf = true) y) ∧ (∃ es rest, (d_5 = .slice es rest ∧ es.length + rest.length = cap_5) ∨ (d_5 = .nil ∧ cap_5 = 0)) := by
  unfold Value.okWide at hv; rw [Try.underlying45] at hv; obtain ⟨cs, rfl, sz, _⟩ := hv
  obtain ⟨c0, c1, c2, c3, c4, c5, rfl⟩ := array_6 (sz.trans cellsOf45)
  obtain ⟨fu, hf⟩ := h
  replace hf : DataW.trod enc Try.prog W 0 (fun _ => true) true fu 45 [c0, c1, c2, c3, c4, c5] = some (d, p) := hf
  obtain ⟨xs, m, _, hx, _, hn, hg⟩ := DataW.trod_struct Try.underlying45 hf
  obtain ⟨x_0, x_1, x_2, x_3, x_4, x_5, rfl⟩ := list_6 hn
  have g_0 : DataW.trod enc Try.prog W 0 (fun _ => true) true m 3 [c0] = some x_0 := by simpa [cellsOf3] using hg 0 _ rfl
  have g_1 : DataW.trod enc Try.prog W 0 (fun _ => true) true m 9 [c1] = some x_1 := by simpa [cellsOf9] using hg 1 _ rfl
  have g_2 : DataW.trod enc Try.prog W 0 (fun _ => true) true m 3 [c2] = some x_2 := by simpa [cellsOf3] using hg 2 _ rfl
  have g_3 : DataW.trod enc Try.prog W 0 (fun _ => true) true m 5 [c3] = some x_3 := by simpa [cellsOf5] using hg 3 _ rfl
  have g_4 : DataW.trod enc Try.prog W 0 (fun _ => true) true m 3 [c4] = some x_4 := by simpa [cellsOf3] using hg 4 _ rfl
  have g_5 : DataW.trod enc Try.prog W 0 (fun _ => true) true m 36 [c5] = some x_5 := by simpa [cellsOf36] using hg 5 _ rfl
  clear hg hn
  have hd := congrArg Prod.fst hx
  obtain ⟨a_0, e_0, x_0, w_0⟩ := DataW.trod_int Try.underlying3 g_0
  simp only [List.cons.injEq, and_true] at e_0; subst e_0; subst x_0
  obtain ⟨a_1, e_1, x_1, w_1⟩ := DataW.trod_string Try.underlying9 g_1
  simp only [List.cons.injEq, and_true] at e_1; subst e_1; subst x_1
  obtain ⟨a_2, e_2, x_2, w_2⟩ := DataW.trod_int Try.underlying3 g_2
  simp only [List.cons.injEq, and_true] at e_2; subst e_2; subst x_2
  obtain ⟨a_3, e_3, x_3, w_3⟩ := DataW.trod_int Try.underlying5 g_3
  simp only [List.cons.injEq, and_true] at e_3; subst e_3; subst x_3
  obtain ⟨a_4, e_4, x_4, w_4⟩ := DataW.trod_int Try.underlying3 g_4
  simp only [List.cons.injEq, and_true] at e_4; subst e_4; subst x_4
  obtain ⟨v_5, cap_5, L_5, e_5, s_5, q_5, _, w_5, z_5⟩ := open_list (fun y : Int => [.int .i64 y]) (fun y : Int => (Lit.int .i64 y).wf = true) 1 (fun _ => rfl) (by decide) Try.underlying36 cellsOf3 (fun _ => rfl) elem3 g_5
  simp only [List.cons.injEq, and_true] at e_5; subst c5
  exact ⟨a_0, a_1, a_2, a_3, a_4, v_5, cap_5, L_5, x_5.1, rfl, hd, w_0, w_1, w_2, w_3, w_4, s_5, q_5, w_5, z_5⟩

set_option maxRecDepth 100000 in
theorem lifted (os : Os) (started : os.Started) (H : Type) (enc : TypeId × Value → H) :
    ReturnsInHanded {} Try.checked os 7 .any (Rows.diskRefusedSpec.pre6 enc Try.prog Try.f7 Rows.diskRefusedRow.domain false) (Rows.diskRefusedSpec.post enc Try.prog Try.f7 false true false false) := by
  refine returnsInHanded_of_change_sized (C := Try.checked) own started (by kernel_rfl) Try.func7
    (ChangeSpec.witness6 (enc := enc) (C := Try.checked) false ⟨#[], #[.slice none 0 0, .agg #[.int .i64 0, .string ByteArray.empty, .int .i64 0, .int .u8 0, .int .i64 0, .slice none 0 0], .int .i64 0], []⟩ 8 (by kernel_rfl) (by kernel_rfl) (by kernel_rfl) (by kernel_rfl)) ?_
  intro W base args ds gs before hval0 hW hcnd hsz0 _
  have hsz : (DataW.weightsEach Try.prog (Try.f7.params.toList ++ Rows.diskRefusedSpec.plain.varTypes Try.prog) (ds ++ gs)).all (· ≤ reachBytes) = true := hsz0
  clear hsz0
  have hval : ∀ (j : Nat) t v, Try.f7.params[j]? = some t → args[j]? = some v → Value.okWide Try.prog W .any base t v := hval0
  have hW' := hW
  obtain ⟨p, q, hA0, hV, rfl, hfz, hnd⟩ := hW
  have hA : DataW.TrodAll enc Try.prog W 0 (fun _ => true) true Try.f7.params.toList args.toList ds p := hA0
  rw [Try.params7] at hA hval hsz
  obtain ⟨v0, vs0, d0, ds0, p0, q0, hargs, rfl, rfl, h0, r0⟩ := trodAll_cons hA
  obtain ⟨v1, vs1, d1, ds1, p1, q1, rfl, rfl, rfl, h1, r1⟩ := trodAll_cons r0
  obtain ⟨v2, vs2, d2, ds2, p2, q2, rfl, rfl, rfl, h2, r2⟩ := trodAll_cons r1
  obtain ⟨rfl, rfl, rfl⟩ := trodAll_nil r2
  obtain rfl : args = #[v0, v1, v2] := by cases args; simp_all
  obtain ⟨rfl, rfl⟩ := trodVars_none hV
  have k0 := h0
  have lt0 : ∀ x ∈ p0, x.block < W.heap.size := by obtain ⟨m, hm⟩ := k0; exact DataW.trod_lt m _ _ _ hm
  have k1 := h1
  have lt1 : ∀ x ∈ p1, x.block < W.heap.size := by obtain ⟨m, hm⟩ := k1; exact DataW.trod_lt m _ _ _ hm
  have k2 := h2
  have lt2 : ∀ x ∈ p2, x.block < W.heap.size := by obtain ⟨m, hm⟩ := k2; exact DataW.trod_lt m _ _ _ hm
  obtain ⟨o0, len0, cp0, rfl⟩ := okWide_slice Try.underlying35 (hval 0 35 v0 rfl rfl)
  obtain ⟨fu0, hf0⟩ := h0
  replace hf0 : DataW.trod enc Try.prog W 0 (fun _ => true) true fu0 35 [.slice o0 len0 cp0] = some (d0, p0) := hf0
  obtain ⟨v0', cap0, L0, e0, s0, q0, _, w0, z0⟩ := open_list (fun y : Int × ByteArray × Int × Int × Int × (Value × Nat × List (Int)) => [.int .i64 (y.1), .string (y.2.1), .int .i64 (y.2.2.1), .int .u8 (y.2.2.2.1), .int .i64 (y.2.2.2.2.1), (y.2.2.2.2.2).1]) (fun y : Int × ByteArray × Int × Int × Int × (Value × Nat × List (Int)) => (Lit.int .i64 (y.1)).wf = true ∧ (y.2.1).size ≤ maxLen ∧ (Lit.int .i64 (y.2.2.1)).wf = true ∧ (Lit.int .u8 (y.2.2.2.1)).wf = true ∧ (Lit.int .i64 (y.2.2.2.2.1)).wf = true ∧ (SlcAt W (y.2.2.2.2.2).1 (y.2.2.2.2.2).2.2.length (y.2.2.2.2.2).2.1 ((y.2.2.2.2.2).2.2.flatMap (fun y : Int => [.int .i64 y])) ∧ (y.2.2.2.2.2).2.2.length ≤ (y.2.2.2.2.2).2.1 ∧ (y.2.2.2.2.2).2.1 ≤ maxLen ∧ ∀ z ∈ (y.2.2.2.2.2).2.2, (fun y : Int => (Lit.int .i64 y).wf = true) z)) 6 (fun _ => rfl) (by decide) Try.underlying35 cellsOf45 (fun _ => rfl) elem45 hf0
  simp only [List.cons.injEq, and_true] at e0; subst e0
  dsimp only at z0
  have b0 : cap0 ≤ 140737488351232 := by
    obtain ⟨es, rest, ⟨hd, hl⟩ | ⟨_, h0⟩⟩ := z0
    · subst hd
      have := List.all_eq_true.1 hsz ((es.length + rest.length) * Try.prog.bytesOf 45) (DataW.weights_mem_each (j := 0) (t := 35) rfl rfl _ (by simp [DataW.weights, DataW.weightsAll, DataW.weightsEach, Try.underlying35]))
      have := of_decide_eq_true this
      rw [hl, bytesOf45] at this
      simp only [reachBytes] at this
      omega
    · omega
  obtain ⟨a1_0, a1_1, a1_2, a1_3, a1_4, v1_5, cap1_5, L1_5, d1_5, rfl, rfl, w1_0, w1_1, w1_2, w1_3, w1_4, s1_5, q1_5, w1_5, z1_5⟩ := open45 (hval 1 45 v1 rfl rfl) h1
  have b1_1 : a1_1.size ≤ 140737488351232 := by
    have := List.all_eq_true.1 hsz a1_1.data.toList.length (DataW.weights_mem_each (j := 1) (t := 45) rfl rfl _ (by simp [DataW.weights, DataW.weightsAll, DataW.weightsEach, Try.underlying3, Try.underlying36, Try.underlying45, Try.underlying5, Try.underlying9]))
    have := of_decide_eq_true this
    simpa [reachBytes] using this
  have b1_5 : cap1_5 ≤ 140737488351232 := by
    obtain ⟨es, rest, ⟨hd, hl⟩ | ⟨_, h0⟩⟩ := z1_5
    · subst hd
      have := List.all_eq_true.1 hsz ((es.length + rest.length) * Try.prog.bytesOf 3) (DataW.weights_mem_each (j := 1) (t := 45) rfl rfl _ (by simp [DataW.weights, DataW.weightsAll, DataW.weightsEach, Try.underlying3, Try.underlying36, Try.underlying45, Try.underlying5, Try.underlying9]))
      have := of_decide_eq_true this
      rw [hl, bytesOf3] at this
      simp only [reachBytes] at this
      omega
    · omega
  obtain ⟨a2, rfl, rfl, rfl, w2⟩ := open_int Try.underlying3 (hval 2 3 v2 rfl rfl) h2
  clear hA0 hval0
  refine (walk _ cap0 L0 a1_0 a1_1 a1_2 a1_3 a1_4 v1_5 cap1_5 L1_5 a2 W s0 q0 b0 w0 w1_0 b1_1 w1_2 w1_3 w1_4 s1_5 q1_5 b1_5 w1_5 w2).mono fun e W' ⟨he, bel⟩ => ?_
  subst he
  exact ⟨_, rfl, _, _, _, [], _, [], hW', trodAll_mk1 (shut_bool Try.underlying4 _), (trodAll_cons_mk (Below.trod laidOut (by kernel_rfl) (of_decide_eq_true (by kernel_rfl)) k0 bel lt0) (trodAll_cons_mk (Below.trod laidOut (by kernel_rfl) (of_decide_eq_true (by kernel_rfl)) k1 bel lt1) (trodAll_cons_mk (Below.trod laidOut (by kernel_rfl) (of_decide_eq_true (by kernel_rfl)) k2 bel lt2) trodAll_mk0))), rfl, bel.frame _, fun h => by cases h⟩

theorem proved : Rows.DiskRefusedSaid :=
  OpenClaim.holds_of_wide 7 Try.f7 rfl rfl rfl rfl rfl rfl rfl ⟨rfl, rfl, rfl, rfl, rfl⟩ rfl rfl rfl rfl rfl (by kernel_rfl) Try.func7 (by kernel_rfl)
    (of_decide_eq_true (by kernel_rfl)) (by unfold Func.isWrapper; first | (rw [if_pos (by decide +kernel)]; kernel_rfl) | (rw [if_neg (by decide +kernel)]; exact ⟨rfl, rfl⟩))
    (fun os started H enc _ => lifted os started H enc)
#print axioms proved
end Go.Proofs.Ytdgmjjidkaafaaa.diskRefused
