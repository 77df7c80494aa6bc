/- NodeSums: for every input the law returns true; each argument reads as it did. Conditions: none. -/
import Derived.Test.YtfjpinifmengcaaNodeSumsW
import Derived.WalkKit
import Derived.ProofKit
import Derived.OpenShut
import Derived.ShutString
import Derived.ChangeOld
import Derived.Below
import Derived.SizedLaws
namespace Go.Proofs.Ytfjpinifmengcaa.nodeSums
open Go.ChangeShapes Go.WideShapes Go.ChangeAt Go.RowKit
open Go.ChangeMaps (open_string shut_string)
set_option linter.unusedVariables false
set_option linter.unusedSimpArgs false

theorem own : ownKnob Try.prog.godebug = none := by kernel_rfl
theorem laidOut : laidOutB Try.prog = true := by kernel_rfl
theorem array_4 {α : Type} {cs : Array α} (h : cs.size = 4) : ∃ c0 c1 c2 c3, cs = #[c0, c1, c2, c3] := by
  obtain ⟨l⟩ := cs
  match l, h with
  | [c0, c1, c2, c3], _ => exact ⟨c0, c1, c2, c3, rfl⟩
theorem list_3 {α : Type} {l : List α} (h : l.length = 3) : ∃ c0 c1 c2, l = [c0, c1, c2] := by
  match l, h with
  | [c0, c1, c2], _ => exact ⟨c0, c1, c2, rfl⟩
theorem list_4 {α : Type} {l : List α} (h : l.length = 4) : ∃ c0 c1 c2 c3, l = [c0, c1, c2, c3] := by
  match l, h with
  | [c0, c1, c2, c3], _ => exact ⟨c0, c1, c2, c3, rfl⟩
theorem cellsOf3 : Try.prog.cellsOf 3 = 1 := by kernel_rfl
theorem cellsOf4 : Try.prog.cellsOf 4 = 1 := by kernel_rfl
theorem cellsOf9 : Try.prog.cellsOf 9 = 1 := by kernel_rfl
theorem cellsOf22 : Try.prog.cellsOf 22 = 1 := by kernel_rfl
theorem cellsOf23 : Try.prog.cellsOf 23 = 1 := by kernel_rfl
theorem cellsOf24 : Try.prog.cellsOf 24 = 1 := by kernel_rfl
theorem cellsOf26 : Try.prog.cellsOf 26 = 4 := by kernel_rfl
theorem cellsOf43 : Try.prog.cellsOf 43 = 3 := by kernel_rfl
theorem bytesOf3 : Try.prog.bytesOf 3 = 8 := by kernel_rfl
theorem bytesOf9 : Try.prog.bytesOf 9 = 16 := by kernel_rfl
theorem bytesOf43 : Try.prog.bytesOf 43 = 32 := by kernel_rfl
set_option maxRecDepth 100000 in
theorem elem9 {H : Type} {enc : TypeId × Value → H} {W : World} {sp : Nat → Bool} (m : Nat) (cs : List Value) (x : DataW H × List MemPlace) (h : DataW.trod enc Try.prog W 0 sp true m 9 cs = some x) :
    ∃ y : ByteArray, cs = [.string y] ∧ (y.size ≤ maxLen) := by
  obtain ⟨a, e, _, w⟩ := DataW.trod_string Try.underlying9 h
  subst e
  exact ⟨a, rfl, w⟩
set_option maxRecDepth 100000 in
theorem elem43 {H : Type} {enc : TypeId × Value → H} {W : World} {sp : Nat → Bool} (m : Nat) (cs : List Value) (x : DataW H × List MemPlace) (h : DataW.trod enc Try.prog W 0 sp true m 43 cs = some x) :
    ∃ y : Int × ByteArray × Int, cs = [.int .i64 y.1, .string y.2.1, .int .i64 y.2.2] ∧ ((Lit.int .i64 y.1).wf = true ∧ y.2.1.size ≤ maxLen ∧ (Lit.int .i64 y.2.2).wf = true) := by
  have hlen : cs.length = 3 := by
    obtain ⟨_, _, _, _, hl, _⟩ := DataW.trod_struct Try.underlying43 h
    rw [hl, cellsOf43]
  obtain ⟨c0, c1, c2, rfl⟩ := list_3 hlen
  obtain ⟨xs, m, _, _, _, hn, hg⟩ := DataW.trod_struct Try.underlying43 h
  obtain ⟨x_0, x_1, x_2, rfl⟩ := list_3 hn
  have g_0 : DataW.trod enc Try.prog W 0 sp true m 3 [c0] = some x_0 := by simpa [cellsOf3] using hg 0 _ rfl
  have g_1 : DataW.trod enc Try.prog W 0 sp true m 9 [c1] = some x_1 := by simpa [cellsOf9] using hg 1 _ rfl
  have g_2 : DataW.trod enc Try.prog W 0 sp true m 3 [c2] = some x_2 := by simpa [cellsOf3] using hg 2 _ rfl
  obtain ⟨a_0, e_0, _, w_0⟩ := DataW.trod_int Try.underlying3 g_0
  simp only [List.cons.injEq, and_true] at e_0; subst e_0
  obtain ⟨a_1, e_1, _, w_1⟩ := DataW.trod_string Try.underlying9 g_1
  simp only [List.cons.injEq, and_true] at e_1; subst e_1
  obtain ⟨a_2, e_2, _, w_2⟩ := DataW.trod_int Try.underlying3 g_2
  simp only [List.cons.injEq, and_true] at e_2; subst e_2
  exact ⟨(a_0, a_1, a_2), rfl, ⟨w_0, w_1, w_2⟩⟩
set_option maxRecDepth 100000 in
theorem elem3 {H : Type} {enc : TypeId × Value → H} {W : World} {sp : Nat → Bool} (m : Nat) (cs : List Value) (x : DataW H × List MemPlace) (h : DataW.trod enc Try.prog W 0 sp true m 3 cs = some x) :
    ∃ y : Int, cs = [.int .i64 y] ∧ ((Lit.int .i64 y).wf = true) := by
  obtain ⟨a, e, _, w⟩ := DataW.trod_int Try.underlying3 h
  subst e
  exact ⟨a, rfl, w⟩
set_option maxRecDepth 100000 in
theorem open26 {H : Type} {enc : TypeId × Value → H} {W : World} {b : Nat} {v : Value} {d : DataW H} {p : List MemPlace} (hv : Value.okWide Try.prog W .any b 26 v) (h : DataW.Trod enc Try.prog W 0 (fun _ => true) true 26 v d p) :
    ∃ (a_0 : Bool) (v_1 : Value) (cap_1 : Nat) (L_1 : List (ByteArray)) (d_1 : DataW H) (v_2 : Value) (cap_2 : Nat) (L_2 : List (Int × ByteArray × Int)) (d_2 : DataW H) (v_3 : Value) (cap_3 : Nat) (L_3 : List (Int)) (d_3 : DataW H), v = .agg #[.bool a_0, v_1, v_2, v_3] ∧ d = .agg [.lit (.bool a_0), d_1, d_2, d_3] ∧ SlcAt W v_1 L_1.length cap_1 (L_1.flatMap (fun y : ByteArray => [.string y])) ∧ L_1.length ≤ cap_1 ∧ (∀ y ∈ L_1, (fun y : ByteArray => y.size ≤ maxLen) y) ∧ (∃ es rest, (d_1 = .slice es rest ∧ es.length + rest.length = cap_1) ∨ (d_1 = .nil ∧ cap_1 = 0)) ∧ SlcAt W v_2 L_2.length cap_2 (L_2.flatMap (fun y : Int × ByteArray × Int => [.int .i64 y.1, .string y.2.1, .int .i64 y.2.2])) ∧ L_2.length ≤ cap_2 ∧ (∀ y ∈ L_2, (fun y : Int × ByteArray × Int => (Lit.int .i64 y.1).wf = true ∧ y.2.1.size ≤ maxLen ∧ (Lit.int .i64 y.2.2).wf = true) y) ∧ (∃ es rest, (d_2 = .slice es rest ∧ es.length + rest.length = cap_2) ∨ (d_2 = .nil ∧ cap_2 = 0)) ∧ SlcAt W v_3 L_3.length cap_3 (L_3.flatMap (fun y : Int => [.int .i64 y])) ∧ L_3.length ≤ cap_3 ∧ (∀ y ∈ L_3, (fun y : Int => (Lit.int .i64 y).wf = true) y) ∧ (∃ es rest, (d_3 = .slice es rest ∧ es.length + rest.length = cap_3) ∨ (d_3 = .nil ∧ cap_3 = 0)) := by
  unfold Value.okWide at hv; rw [Try.underlying26] at hv; obtain ⟨cs, rfl, sz, _⟩ := hv
  obtain ⟨c0, c1, c2, c3, rfl⟩ := array_4 (sz.trans cellsOf26)
  obtain ⟨fu, hf⟩ := h
  replace hf : DataW.trod enc Try.prog W 0 (fun _ => true) true fu 26 [c0, c1, c2, c3] = some (d, p) := hf
  obtain ⟨xs, m, _, hx, _, hn, hg⟩ := DataW.trod_struct Try.underlying26 hf
  obtain ⟨x_0, x_1, x_2, x_3, rfl⟩ := list_4 hn
  have g_0 : DataW.trod enc Try.prog W 0 (fun _ => true) true m 4 [c0] = some x_0 := by simpa [cellsOf4] using hg 0 _ rfl
  have g_1 : DataW.trod enc Try.prog W 0 (fun _ => true) true m 22 [c1] = some x_1 := by simpa [cellsOf22] using hg 1 _ rfl
  have g_2 : DataW.trod enc Try.prog W 0 (fun _ => true) true m 23 [c2] = some x_2 := by simpa [cellsOf23] using hg 2 _ rfl
  have g_3 : DataW.trod enc Try.prog W 0 (fun _ => true) true m 24 [c3] = some x_3 := by simpa [cellsOf24] using hg 3 _ rfl
  clear hg hn
  have hd := congrArg Prod.fst hx
  obtain ⟨a_0, e_0, x_0⟩ := DataW.trod_bool Try.underlying4 g_0
  simp only [List.cons.injEq, and_true] at e_0; subst e_0; subst x_0
  obtain ⟨v_1, cap_1, L_1, e_1, s_1, q_1, _, w_1, z_1⟩ := open_list (fun y : ByteArray => [.string y]) (fun y : ByteArray => y.size ≤ maxLen) 1 (fun _ => rfl) (by decide) Try.underlying22 cellsOf9 (fun _ => rfl) elem9 g_1
  simp only [List.cons.injEq, and_true] at e_1; subst c1
  obtain ⟨v_2, cap_2, L_2, e_2, s_2, q_2, _, w_2, z_2⟩ := open_list (fun y : Int × ByteArray × Int => [.int .i64 y.1, .string y.2.1, .int .i64 y.2.2]) (fun y : Int × ByteArray × Int => (Lit.int .i64 y.1).wf = true ∧ y.2.1.size ≤ maxLen ∧ (Lit.int .i64 y.2.2).wf = true) 3 (fun _ => rfl) (by decide) Try.underlying23 cellsOf43 (fun _ => rfl) elem43 g_2
  simp only [List.cons.injEq, and_true] at e_2; subst c2
  obtain ⟨v_3, cap_3, L_3, e_3, s_3, q_3, _, w_3, z_3⟩ := open_list (fun y : Int => [.int .i64 y]) (fun y : Int => (Lit.int .i64 y).wf = true) 1 (fun _ => rfl) (by decide) Try.underlying24 cellsOf3 (fun _ => rfl) elem3 g_3
  simp only [List.cons.injEq, and_true] at e_3; subst c3
  exact ⟨a_0, v_1, cap_1, L_1, x_1.1, v_2, cap_2, L_2, x_2.1, v_3, cap_3, L_3, x_3.1, rfl, hd, s_1, q_1, w_1, z_1, s_2, q_2, w_2, z_2, s_3, q_3, w_3, z_3⟩

set_option maxRecDepth 100000 in
theorem lifted (os : Os) (started : os.Started) (H : Type) (enc : TypeId × Value → H) :
    ReturnsInHanded {} Try.checked os 7 .any (Rows.nodeSumsSpec.pre6 enc Try.prog Try.f7 Rows.nodeSumsRow.domain false) (Rows.nodeSumsSpec.post enc Try.prog Try.f7 false true false false) := by
  refine returnsInHanded_of_change_sized (C := Try.checked) own started (by kernel_rfl) Try.func7
    (ChangeSpec.witness6 (enc := enc) (C := Try.checked) false ⟨#[], #[.agg #[.bool false, .slice none 0 0, .slice none 0 0, .slice none 0 0], .int .i64 0], []⟩ 8 (by kernel_rfl) (by kernel_rfl) (by kernel_rfl) (by kernel_rfl)) ?_
  intro W base args ds gs before hval0 hW hcnd hsz0 _
  have hsz : (DataW.weightsEach Try.prog (Try.f7.params.toList ++ Rows.nodeSumsSpec.plain.varTypes Try.prog) (ds ++ gs)).all (· ≤ reachBytes) = true := hsz0
  clear hsz0
  have hval : ∀ (j : Nat) t v, Try.f7.params[j]? = some t → args[j]? = some v → Value.okWide Try.prog W .any base t v := hval0
  have hW' := hW
  obtain ⟨p, q, hA0, hV, rfl, hfz, hnd⟩ := hW
  have hA : DataW.TrodAll enc Try.prog W 0 (fun _ => true) true Try.f7.params.toList args.toList ds p := hA0
  rw [Try.params7] at hA hval hsz
  obtain ⟨v0, vs0, d0, ds0, p0, q0, hargs, rfl, rfl, h0, r0⟩ := trodAll_cons hA
  obtain ⟨v1, vs1, d1, ds1, p1, q1, rfl, rfl, rfl, h1, r1⟩ := trodAll_cons r0
  obtain ⟨rfl, rfl, rfl⟩ := trodAll_nil r1
  obtain rfl : args = #[v0, v1] := by cases args; simp_all
  obtain ⟨rfl, rfl⟩ := trodVars_none hV
  have k0 := h0
  have lt0 : ∀ x ∈ p0, x.block < W.heap.size := by obtain ⟨m, hm⟩ := k0; exact DataW.trod_lt m _ _ _ hm
  have k1 := h1
  have lt1 : ∀ x ∈ p1, x.block < W.heap.size := by obtain ⟨m, hm⟩ := k1; exact DataW.trod_lt m _ _ _ hm
  obtain ⟨a0_0, v0_1, cap0_1, L0_1, d0_1, v0_2, cap0_2, L0_2, d0_2, v0_3, cap0_3, L0_3, d0_3, rfl, rfl, s0_1, q0_1, w0_1, z0_1, s0_2, q0_2, w0_2, z0_2, s0_3, q0_3, w0_3, z0_3⟩ := open26 (hval 0 26 v0 rfl rfl) h0
  have b0_1 : cap0_1 ≤ 140737488351232 := by
    obtain ⟨es, rest, ⟨hd, hl⟩ | ⟨_, h0⟩⟩ := z0_1
    · subst hd
      have := List.all_eq_true.1 hsz ((es.length + rest.length) * Try.prog.bytesOf 9) (DataW.weights_mem_each (j := 0) (t := 26) rfl rfl _ (by simp [DataW.weights, DataW.weightsAll, DataW.weightsEach, Try.underlying22, Try.underlying23, Try.underlying24, Try.underlying26, Try.underlying4]))
      have := of_decide_eq_true this
      rw [hl, bytesOf9] at this
      simp only [reachBytes] at this
      omega
    · omega
  have b0_2 : cap0_2 ≤ 140737488351232 := by
    obtain ⟨es, rest, ⟨hd, hl⟩ | ⟨_, h0⟩⟩ := z0_2
    · subst hd
      have := List.all_eq_true.1 hsz ((es.length + rest.length) * Try.prog.bytesOf 43) (DataW.weights_mem_each (j := 0) (t := 26) rfl rfl _ (by simp [DataW.weights, DataW.weightsAll, DataW.weightsEach, Try.underlying22, Try.underlying23, Try.underlying24, Try.underlying26, Try.underlying4]))
      have := of_decide_eq_true this
      rw [hl, bytesOf43] at this
      simp only [reachBytes] at this
      omega
    · omega
  have b0_3 : cap0_3 ≤ 140737488351232 := by
    obtain ⟨es, rest, ⟨hd, hl⟩ | ⟨_, h0⟩⟩ := z0_3
    · subst hd
      have := List.all_eq_true.1 hsz ((es.length + rest.length) * Try.prog.bytesOf 3) (DataW.weights_mem_each (j := 0) (t := 26) rfl rfl _ (by simp [DataW.weights, DataW.weightsAll, DataW.weightsEach, Try.underlying22, Try.underlying23, Try.underlying24, Try.underlying26, Try.underlying4]))
      have := of_decide_eq_true this
      rw [hl, bytesOf3] at this
      simp only [reachBytes] at this
      omega
    · omega
  obtain ⟨a1, rfl, rfl, rfl, w1⟩ := open_int Try.underlying3 (hval 1 3 v1 rfl rfl) h1
  clear hA0 hval0
  refine (walk a0_0 v0_1 cap0_1 L0_1 v0_2 cap0_2 L0_2 v0_3 cap0_3 L0_3 a1 W s0_1 q0_1 b0_1 w0_1 s0_2 q0_2 b0_2 w0_2 s0_3 q0_3 b0_3 w0_3 w1).mono fun e W' ⟨he, bel⟩ => ?_
  subst he
  exact ⟨_, rfl, _, _, _, [], _, [], hW', trodAll_mk1 (shut_bool Try.underlying4 _), (trodAll_cons_mk (Below.trod laidOut (by kernel_rfl) (of_decide_eq_true (by kernel_rfl)) k0 bel lt0) (trodAll_cons_mk (Below.trod laidOut (by kernel_rfl) (of_decide_eq_true (by kernel_rfl)) k1 bel lt1) trodAll_mk0)), rfl, bel.frame _, fun h => by cases h⟩

theorem proved : Rows.NodeSumsSaid :=
  OpenClaim.holds_of_wide 7 Try.f7 rfl rfl rfl rfl rfl rfl rfl ⟨rfl, rfl, rfl, rfl, rfl⟩ rfl rfl rfl rfl rfl (by kernel_rfl) Try.func7 (by kernel_rfl)
    (of_decide_eq_true (by kernel_rfl)) (by unfold Func.isWrapper; first | (rw [if_pos (by decide +kernel)]; kernel_rfl) | (rw [if_neg (by decide +kernel)]; exact ⟨rfl, rfl⟩))
    (fun os started H enc _ => lifted os started H enc)
#print axioms proved
end Go.Proofs.Ytfjpinifmengcaa.nodeSums
