/- ShelfKeeps: for every input the law returns true; each argument reads as it did. Conditions: none. -/
import Derived.Test.YtcfnokifghpnpaaShelfKeepsV
import Derived.WalkKit
import Derived.ProofKit
import Derived.OpenShut
import Derived.ShutString
import Derived.ChangeOld
import Derived.Below
import Derived.SizedLaws
namespace Go.Proofs.Ytcfnokifghpnpaa.shelfKeeps
open Go.ChangeShapes Go.WideShapes Go.ChangeAt Go.RowKit
open Go.ChangeMaps (open_string shut_string)
set_option linter.unusedVariables false
set_option linter.unusedSimpArgs false

theorem own : ownKnob Try.prog.godebug = none := by kernel_rfl
theorem laidOut : laidOutB Try.prog = true := by kernel_rfl
theorem cellsOf3 : Try.prog.cellsOf 3 = 1 := by kernel_rfl
theorem bytesOf3 : Try.prog.bytesOf 3 = 8 := by kernel_rfl
set_option maxRecDepth 100000 in
theorem elem3 {H : Type} {enc : TypeId × Value → H} {W : World} {sp : Nat → Bool} (m : Nat) (cs : List Value) (x : DataW H × List MemPlace) (h : DataW.trod enc Try.prog W 0 sp true m 3 cs = some x) :
    ∃ y : Int, cs = [.int .i64 y] ∧ ((Lit.int .i64 y).wf = true) := by
  obtain ⟨a, e, _, w⟩ := DataW.trod_int Try.underlying3 h
  subst e
  exact ⟨a, rfl, w⟩

set_option maxRecDepth 100000 in
theorem lifted (os : Os) (started : os.Started) (H : Type) (enc : TypeId × Value → H) :
    ReturnsInHanded {} Try.checked os 8 .any (Rows.shelfKeepsSpec.pre6 enc Try.prog Try.f8 Rows.shelfKeepsRow.domain false) (Rows.shelfKeepsSpec.post enc Try.prog Try.f8 false true false false) := by
  refine returnsInHanded_of_change_sized (C := Try.checked) own started (by kernel_rfl) Try.func8
    (ChangeSpec.witness6 (enc := enc) (C := Try.checked) false ⟨#[], #[.slice none 0 0], []⟩ 8 (by kernel_rfl) (by kernel_rfl) (by kernel_rfl) (by kernel_rfl)) ?_
  intro W base args ds gs before hval0 hW hcnd hsz0 _
  have hsz : (DataW.weightsEach Try.prog (Try.f8.params.toList ++ Rows.shelfKeepsSpec.plain.varTypes Try.prog) (ds ++ gs)).all (· ≤ reachBytes) = true := hsz0
  clear hsz0
  have hval : ∀ (j : Nat) t v, Try.f8.params[j]? = some t → args[j]? = some v → Value.okWide Try.prog W .any base t v := hval0
  have hW' := hW
  obtain ⟨p, q, hA0, hV, rfl, hfz, hnd⟩ := hW
  have hA : DataW.TrodAll enc Try.prog W 0 (fun _ => true) true Try.f8.params.toList args.toList ds p := hA0
  rw [Try.params8] at hA hval hsz
  obtain ⟨v0, vs0, d0, ds0, p0, q0, hargs, rfl, rfl, h0, r0⟩ := trodAll_cons hA
  obtain ⟨rfl, rfl, rfl⟩ := trodAll_nil r0
  obtain rfl : args = #[v0] := by cases args; simp_all
  obtain ⟨rfl, rfl⟩ := trodVars_none hV
  have k0 := h0
  have lt0 : ∀ x ∈ p0, x.block < W.heap.size := by obtain ⟨m, hm⟩ := k0; exact DataW.trod_lt m _ _ _ hm
  obtain ⟨o0, len0, cp0, rfl⟩ := okWide_slice Try.underlying22 (hval 0 22 v0 rfl rfl)
  obtain ⟨fu0, hf0⟩ := h0
  replace hf0 : DataW.trod enc Try.prog W 0 (fun _ => true) true fu0 22 [.slice o0 len0 cp0] = some (d0, p0) := hf0
  obtain ⟨v0', cap0, L0, e0, s0, q0, _, w0, z0⟩ := open_list (fun y : Int => [.int .i64 y]) (fun y : Int => (Lit.int .i64 y).wf = true) 1 (fun _ => rfl) (by decide) Try.underlying22 cellsOf3 (fun _ => rfl) elem3 hf0
  simp only [List.cons.injEq, and_true] at e0; subst e0
  dsimp only at z0
  have b0 : cap0 ≤ 140737488351232 := by
    obtain ⟨es, rest, ⟨hd, hl⟩ | ⟨_, h0⟩⟩ := z0
    · subst hd
      have := List.all_eq_true.1 hsz ((es.length + rest.length) * Try.prog.bytesOf 3) (DataW.weights_mem_each (j := 0) (t := 22) rfl rfl _ (by simp [DataW.weights, DataW.weightsAll, DataW.weightsEach, Try.underlying22]))
      have := of_decide_eq_true this
      rw [hl, bytesOf3] at this
      simp only [reachBytes] at this
      omega
    · omega
  clear hA0 hval0
  refine (walk _ cap0 L0 W s0 q0 b0 w0).mono fun e W' ⟨he, bel⟩ => ?_
  subst he
  exact ⟨_, rfl, _, _, _, [], _, [], hW', trodAll_mk1 (shut_bool Try.underlying4 _), (trodAll_cons_mk (Below.trod laidOut (by kernel_rfl) (of_decide_eq_true (by kernel_rfl)) k0 bel lt0) trodAll_mk0), rfl, bel.frame _, fun h => by cases h⟩

theorem proved : Rows.ShelfKeepsSaid :=
  OpenClaim.holds_of_wide 8 Try.f8 rfl rfl rfl rfl rfl rfl rfl ⟨rfl, rfl, rfl, rfl, rfl⟩ rfl rfl rfl rfl rfl (by kernel_rfl) Try.func8 (by kernel_rfl)
    (of_decide_eq_true (by kernel_rfl)) (by unfold Func.isWrapper; first | (rw [if_pos (by decide +kernel)]; kernel_rfl) | (rw [if_neg (by decide +kernel)]; exact ⟨rfl, rfl⟩))
    (fun os started H enc _ => lifted os started H enc)
#print axioms proved
end Go.Proofs.Ytcfnokifghpnpaa.shelfKeeps
