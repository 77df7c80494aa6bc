/- JournalReads: for every input the law returns true; each argument reads as it did. Conditions: none. -/
import Derived.Test.YtelolcagncgfpaaGreatJrnReadsW
import Derived.WalkKit
import Derived.ProofKit
import Derived.OpenShut
import Derived.ShutString
import Derived.ChangeOld
import Derived.Below
import Derived.SizedLaws
namespace Go.Proofs.YtelolcagncgfpaaGreat.journalReads
open Go.ChangeShapes Go.WideShapes Go.ChangeAt Go.RowKit
open Go.ChangeMaps (open_string shut_string)
set_option linter.unusedVariables false
set_option linter.unusedSimpArgs false
theorem own : ownKnob Tryz.prog.godebug = none := by kernel_rfl
theorem laidOut : laidOutB Tryz.prog = true := by kernel_rfl
theorem list_4 {α : Type} {l : List α} (h : l.length = 4) : ∃ c0 c1 c2 c3, l = [c0, c1, c2, c3] := by
 match l, h with
 | [c0, c1, c2, c3], _ => exact ⟨c0, c1, c2, c3, rfl⟩
theorem cellsOf3 : Tryz.prog.cellsOf 3 = 1 := by kernel_rfl
theorem cellsOf9 : Tryz.prog.cellsOf 9 = 1 := by kernel_rfl
theorem cellsOf24 : Tryz.prog.cellsOf 24 = 1 := by kernel_rfl
theorem cellsOf26 : Tryz.prog.cellsOf 26 = 4 := by kernel_rfl
theorem bytesOf26 : Tryz.prog.bytesOf 26 = 40 := by kernel_rfl
set_option maxRecDepth 100000 in
theorem elem26 {H : Type} {enc : TypeId × Value → H} {W : World} {sp : Nat → Bool} (m : Nat) (cs : List Value) (x : DataW H × List MemPlace) (h : DataW.trod enc Tryz.prog W 0 sp true m 26 cs = some x) :
 ∃ y : Int × Int × Int × ByteArray, cs = [.int .i64 y.1, .int .i64 y.2.1, .int .u64 y.2.2.1, .string y.2.2.2] ∧ ((Lit.int .i64 y.1).wf = true ∧ (Lit.int .i64 y.2.1).wf = true ∧ (Lit.int .u64 y.2.2.1).wf = true ∧ y.2.2.2.size ≤ maxLen) := by
 have hlen : cs.length = 4 := by
  obtain ⟨_, _, _, _, hl, _⟩ := DataW.trod_struct Tryz.underlying26 h
  rw [hl, cellsOf26]
 obtain ⟨c0, c1, c2, c3, rfl⟩ := list_4 hlen
 obtain ⟨xs, m, _, _, _, hn, hg⟩ := DataW.trod_struct Tryz.underlying26 h
 obtain ⟨x_0, x_1, x_2, x_3, rfl⟩ := list_4 hn
 have g_0 : DataW.trod enc Tryz.prog W 0 sp true m 3 [c0] = some x_0 := by simpa [cellsOf3] using hg 0 _ rfl
 have g_1 : DataW.trod enc Tryz.prog W 0 sp true m 3 [c1] = some x_1 := by simpa [cellsOf3] using hg 1 _ rfl
 have g_2 : DataW.trod enc Tryz.prog W 0 sp true m 24 [c2] = some x_2 := by simpa [cellsOf24] using hg 2 _ rfl
 have g_3 : DataW.trod enc Tryz.prog W 0 sp true m 9 [c3] = some x_3 := by simpa [cellsOf9] using hg 3 _ rfl
 obtain ⟨a_0, e_0, _, w_0⟩ := DataW.trod_int Tryz.underlying3 g_0
 simp only [List.cons.injEq, and_true] at e_0; subst e_0
 obtain ⟨a_1, e_1, _, w_1⟩ := DataW.trod_int Tryz.underlying3 g_1
 simp only [List.cons.injEq, and_true] at e_1; subst e_1
 obtain ⟨a_2, e_2, _, w_2⟩ := DataW.trod_int Tryz.underlying24 g_2
 simp only [List.cons.injEq, and_true] at e_2; subst e_2
 obtain ⟨a_3, e_3, _, w_3⟩ := DataW.trod_string Tryz.underlying9 g_3
 simp only [List.cons.injEq, and_true] at e_3; subst e_3
 exact ⟨(a_0, a_1, a_2, a_3), rfl, ⟨w_0, w_1, w_2, w_3⟩⟩
set_option maxRecDepth 100000 in
theorem lifted (os : Os) (started : os.Started) (H : Type) (enc : TypeId × Value → H) :
 ReturnsInHanded {} Tryz.checked os 3 .any (Rows.journalReadsSpec.pre6 enc Tryz.prog Tryz.f3 Rows.journalReadsRow.domain false) (Rows.journalReadsSpec.post enc Tryz.prog Tryz.f3 false true false false) := by
 refine returnsInHanded_of_change_sized (C := Tryz.checked) own started (by kernel_rfl) Tryz.func3
  (ChangeSpec.witness6 (enc := enc) (C := Tryz.checked) false ⟨#[], #[.slice none 0 0, .int .i64 0, .string ByteArray.empty], []⟩ 8 (by kernel_rfl) (by kernel_rfl) (by kernel_rfl) (by kernel_rfl)) ?_
 intro W base args ds gs before hval0 hW hcnd hsz0 _
 have hsz : (DataW.weightsEach Tryz.prog (Tryz.f3.params.toList ++ Rows.journalReadsSpec.plain.varTypes Tryz.prog) (ds ++ gs)).all (· ≤ reachBytes) = true := hsz0
 clear hsz0
 have hval : ∀ (j : Nat) t v, Tryz.f3.params[j]? = some t → args[j]? = some v → Value.okWide Tryz.prog W .any base t v := hval0
 have hW' := hW
 obtain ⟨p, q, hA0, hV, rfl, hfz, hnd⟩ := hW
 have hA : DataW.TrodAll enc Tryz.prog W 0 (fun _ => true) true Tryz.f3.params.toList args.toList ds p := hA0
 rw [Tryz.params3] at hA hval hsz
 obtain ⟨v0, vs0, d0, ds0, p0, q0, hargs, rfl, rfl, h0, r0⟩ := trodAll_cons hA
 obtain ⟨v1, vs1, d1, ds1, p1, q1, rfl, rfl, rfl, h1, r1⟩ := trodAll_cons r0
 obtain ⟨v2, vs2, d2, ds2, p2, q2, rfl, rfl, rfl, h2, r2⟩ := trodAll_cons r1
 obtain ⟨rfl, rfl, rfl⟩ := trodAll_nil r2
 obtain rfl : args = #[v0, v1, v2] := by cases args; simp_all
 obtain ⟨rfl, rfl⟩ := trodVars_none hV
 have k0 := h0
 have lt0 : ∀ x ∈ p0, x.block < W.heap.size := by obtain ⟨m, hm⟩ := k0; exact DataW.trod_lt m _ _ _ hm
 have k1 := h1
 have lt1 : ∀ x ∈ p1, x.block < W.heap.size := by obtain ⟨m, hm⟩ := k1; exact DataW.trod_lt m _ _ _ hm
 have k2 := h2
 have lt2 : ∀ x ∈ p2, x.block < W.heap.size := by obtain ⟨m, hm⟩ := k2; exact DataW.trod_lt m _ _ _ hm
 obtain ⟨o0, len0, cp0, rfl⟩ := okWide_slice Tryz.underlying22 (hval 0 22 v0 rfl rfl)
 obtain ⟨fu0, hf0⟩ := h0
 replace hf0 : DataW.trod enc Tryz.prog W 0 (fun _ => true) true fu0 22 [.slice o0 len0 cp0] = some (d0, p0) := hf0
 obtain ⟨v0', cap0, L0, e0, s0, q0, _, w0, z0⟩ := open_list (fun y : Int × Int × Int × ByteArray => [.int .i64 y.1, .int .i64 y.2.1, .int .u64 y.2.2.1, .string y.2.2.2]) (fun y : Int × Int × Int × ByteArray => (Lit.int .i64 y.1).wf = true ∧ (Lit.int .i64 y.2.1).wf = true ∧ (Lit.int .u64 y.2.2.1).wf = true ∧ y.2.2.2.size ≤ maxLen) 4 (fun _ => rfl) (by decide) Tryz.underlying22 cellsOf26 (fun _ => rfl) elem26 hf0
 simp only [List.cons.injEq, and_true] at e0; subst e0
 dsimp only at z0
 have b0 : cap0 ≤ 140737488351232 := by
  obtain ⟨es, rest, ⟨hd, hl⟩ | ⟨_, h0⟩⟩ := z0
  · subst hd
    have := List.all_eq_true.1 hsz ((es.length + rest.length) * Tryz.prog.bytesOf 26) (DataW.weights_mem_each (j := 0) (t := 22) rfl rfl _ (by simp [DataW.weights, DataW.weightsAll, DataW.weightsEach, Tryz.underlying22]))
    have := of_decide_eq_true this
    rw [hl, bytesOf26] at this
    simp only [reachBytes] at this
    omega
  · omega
 obtain ⟨a1, rfl, rfl, rfl, w1⟩ := open_int Tryz.underlying3 (hval 1 3 v1 rfl rfl) h1
 obtain ⟨a2, rfl, rfl, rfl, w2⟩ := open_string Tryz.underlying9 (hval 2 9 v2 rfl rfl) h2
 have b2 : a2.size ≤ 140737488351232 := by
  have := sized_string hsz (j := 2) (t := 9) rfl rfl
  simpa [reachBytes] using this
 clear hA0 hval0
 refine (walk _ cap0 L0 a1 a2 W s0 q0 b0 w0 w1 b2).mono fun e W' ⟨he, bel⟩ => ?_
 subst he
 exact ⟨_, rfl, _, _, _, [], _, [], hW', trodAll_mk1 (shut_bool Tryz.underlying4 _), (trodAll_cons_mk (Below.trod laidOut (by kernel_rfl) (of_decide_eq_true (by kernel_rfl)) k0 bel lt0) (trodAll_cons_mk (Below.trod laidOut (by kernel_rfl) (of_decide_eq_true (by kernel_rfl)) k1 bel lt1) (trodAll_cons_mk (Below.trod laidOut (by kernel_rfl) (of_decide_eq_true (by kernel_rfl)) k2 bel lt2) trodAll_mk0))), rfl, bel.frame _, fun h => by cases h⟩
theorem proved : Rows.JournalReadsSaid :=
 OpenClaim.holds_of_wide 3 Tryz.f3 rfl rfl rfl rfl rfl rfl rfl ⟨rfl, rfl, rfl, rfl, rfl⟩ rfl rfl rfl rfl rfl (by kernel_rfl) Tryz.func3 (by kernel_rfl)
  (of_decide_eq_true (by kernel_rfl)) (by unfold Func.isWrapper; first | (rw [if_pos (by decide +kernel)]; kernel_rfl) | (rw [if_neg (by decide +kernel)]; exact ⟨rfl, rfl⟩))
  (fun os started H enc _ => lifted os started H enc)
#print axioms proved
end Go.Proofs.YtelolcagncgfpaaGreat.journalReads
