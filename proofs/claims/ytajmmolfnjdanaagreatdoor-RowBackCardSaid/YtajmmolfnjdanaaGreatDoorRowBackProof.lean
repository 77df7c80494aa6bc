/- RowBack: for every input the law returns true; each argument reads as it did. Conditions: none. -/
import Derived.Test.YtajmmolfnjdanaaGreatDoorRowBackW
import Derived.WalkKit
import Derived.ProofKit
import Derived.OpenShut
import Derived.ShutString
import Derived.ChangeOld
import Derived.Below
import Derived.SizedLaws
import Derived.LaidMore
import Derived.Lay
import Derived.SevenTiedAt
import Derived.Stop.Joined
import Derived.Test.YtajmmolfnjdanaaGreatDoorCards
import Derived.Test.YtajmmolfnjdanaaGreatDoorTie
namespace Go.Proofs.YtajmmolfnjdanaaGreatDoor.rowBack
open Go.ChangeShapes Go.WideShapes Go.ChangeAt Go.RowKit
open Go.ChangeMaps (open_string shut_string)
set_option linter.unusedVariables false
set_option linter.unusedSimpArgs false

theorem own : ownKnob Tryz.prog.godebug = none := by kernel_rfl
theorem laidOut : laidOutB Tryz.prog = true := by kernel_rfl
theorem list_3 {α : Type} {l : List α} (h : l.length = 3) : ∃ c0 c1 c2, l = [c0, c1, c2] := by
  match l, h with
  | [c0, c1, c2], _ => exact ⟨c0, c1, c2, rfl⟩
theorem cellsOf3 : Tryz.prog.cellsOf 3 = 1 := by kernel_rfl
theorem cellsOf9 : Tryz.prog.cellsOf 9 = 1 := by kernel_rfl
theorem cellsOf43 : Tryz.prog.cellsOf 43 = 3 := by kernel_rfl
theorem bytesOf43 : Tryz.prog.bytesOf 43 = 32 := by kernel_rfl
set_option maxRecDepth 100000 in
theorem elem43 {H : Type} {enc : TypeId × Value → H} {W : World} {sp : Nat → Bool} (m : Nat) (cs : List Value) (x : DataW H × List MemPlace) (h : DataW.trod enc Tryz.prog W 0 sp true m 43 cs = some x) :
    ∃ y : Int × Int × ByteArray, cs = [.int .i64 y.1, .int .i64 y.2.1, .string y.2.2] ∧ ((Lit.int .i64 y.1).wf = true ∧ (Lit.int .i64 y.2.1).wf = true ∧ y.2.2.size ≤ maxLen) := by
  have hlen : cs.length = 3 := by
    obtain ⟨_, _, _, _, hl, _⟩ := DataW.trod_struct Tryz.underlying43 h
    rw [hl, cellsOf43]
  obtain ⟨c0, c1, c2, rfl⟩ := list_3 hlen
  obtain ⟨xs, m, _, _, _, hn, hg⟩ := DataW.trod_struct Tryz.underlying43 h
  obtain ⟨x_0, x_1, x_2, rfl⟩ := list_3 hn
  have g_0 : DataW.trod enc Tryz.prog W 0 sp true m 3 [c0] = some x_0 := by simpa [cellsOf3] using hg 0 _ rfl
  have g_1 : DataW.trod enc Tryz.prog W 0 sp true m 3 [c1] = some x_1 := by simpa [cellsOf3] using hg 1 _ rfl
  have g_2 : DataW.trod enc Tryz.prog W 0 sp true m 9 [c2] = some x_2 := by simpa [cellsOf9] using hg 2 _ rfl
  obtain ⟨a_0, e_0, _, w_0⟩ := DataW.trod_int Tryz.underlying3 g_0
  simp only [List.cons.injEq, and_true] at e_0; subst e_0
  obtain ⟨a_1, e_1, _, w_1⟩ := DataW.trod_int Tryz.underlying3 g_1
  simp only [List.cons.injEq, and_true] at e_1; subst e_1
  obtain ⟨a_2, e_2, _, w_2⟩ := DataW.trod_string Tryz.underlying9 g_2
  simp only [List.cons.injEq, and_true] at e_2; subst e_2
  exact ⟨(a_0, a_1, a_2), rfl, ⟨w_0, w_1, w_2⟩⟩

set_option maxRecDepth 100000 in
theorem lifted (os : Os) (started : os.Started) (H : Type) (enc : TypeId × Value → H) :
    ReturnsInHanded {} Tryz.checked os 5 .any (fun w args => ((Rows.rowBackSpec.pre enc Tryz.prog Tryz.f5 Rows.rowBackRow.domain false w args) ∧ laidMetH Tryz.prog Rows.rowBackRow.laid w) ∧ sizedMet enc Tryz.prog Tryz.f5 (OpenSpec.ofChange Rows.rowBackSpec) false w args) (Rows.rowBackSpec.post enc Tryz.prog Tryz.f5 false true false false) := by
  refine of_change_and_shaped (C := Tryz.checked) (X := fun w _ => laidMetH Tryz.prog Rows.rowBackRow.laid w) (fun _ _ _ hh h => h.of_heap hh) own started (by kernel_rfl) Tryz.func5
    (ChangeSpec.witness_shaped (enc := enc) (C := Tryz.checked) (os := os) (X := fun w _ => laidMetH Tryz.prog Rows.rowBackRow.laid w) false (World.laidAll Tryz.prog os Rows.rowBackRow.laid) #[.slice none 0 0, .string ByteArray.empty] 8 (World.laidAll_os _ _ _)
      (World.shaped_of_ZipB (by kernel_rfl) (by kernel_rfl)) (by kernel_rfl) (by kernel_rfl) (by kernel_rfl)
      (by rw [MakeChecks.laidMetH_plain _ _ _ (by kernel_rfl)]; exact laidMet_laidAll _ (by kernel_rfl) (by kernel_rfl))) ?_
  intro W base args ds gs before hval0 hW hcnd hsz0 hlaid hsh _
  have hsz : (DataW.weightsEach Tryz.prog (Tryz.f5.params.toList ++ Rows.rowBackSpec.plain.varTypes Tryz.prog) (ds ++ gs)).all (· ≤ reachBytes) = true := hsz0
  clear hsz0
  have hval : ∀ (j : Nat) t v, Tryz.f5.params[j]? = some t → args[j]? = some v → Value.okWide Tryz.prog W .any base t v := hval0
  have hW' := hW
  obtain ⟨p, q, hA0, hV, rfl, hfz, hnd⟩ := hW
  have hA : DataW.TrodAll enc Tryz.prog W 0 (fun _ => true) true Tryz.f5.params.toList args.toList ds p := hA0
  rw [Tryz.params5] at hA hval hsz
  obtain ⟨v0, vs0, d0, ds0, p0, q0, hargs, rfl, rfl, h0, r0⟩ := trodAll_cons hA
  obtain ⟨v1, vs1, d1, ds1, p1, q1, rfl, rfl, rfl, h1, r1⟩ := trodAll_cons r0
  obtain ⟨rfl, rfl, rfl⟩ := trodAll_nil r1
  obtain rfl : args = #[v0, v1] := by cases args; simp_all
  obtain ⟨rfl, rfl⟩ := trodVars_none hV
  have k0 := h0
  have lt0 : ∀ x ∈ p0, x.block < W.heap.size := by obtain ⟨m, hm⟩ := k0; exact DataW.trod_lt m _ _ _ hm
  have k1 := h1
  have lt1 : ∀ x ∈ p1, x.block < W.heap.size := by obtain ⟨m, hm⟩ := k1; exact DataW.trod_lt m _ _ _ hm
  obtain ⟨o0, len0, cp0, rfl⟩ := okWide_slice Tryz.underlying23 (hval 0 23 v0 rfl rfl)
  obtain ⟨fu0, hf0⟩ := h0
  replace hf0 : DataW.trod enc Tryz.prog W 0 (fun _ => true) true fu0 23 [.slice o0 len0 cp0] = some (d0, p0) := hf0
  obtain ⟨v0', cap0, L0, e0, s0, q0, _, w0, z0⟩ := open_list (fun y : Int × Int × ByteArray => [.int .i64 y.1, .int .i64 y.2.1, .string y.2.2]) (fun y : Int × Int × ByteArray => (Lit.int .i64 y.1).wf = true ∧ (Lit.int .i64 y.2.1).wf = true ∧ y.2.2.size ≤ maxLen) 3 (fun _ => rfl) (by decide) Tryz.underlying23 cellsOf43 (fun _ => rfl) elem43 hf0
  simp only [List.cons.injEq, and_true] at e0; subst e0
  dsimp only at z0
  have b0 : cap0 ≤ 140737488351232 := by
    obtain ⟨es, rest, ⟨hd, hl⟩ | ⟨_, h0⟩⟩ := z0
    · subst hd
      have := List.all_eq_true.1 hsz ((es.length + rest.length) * Tryz.prog.bytesOf 43) (DataW.weights_mem_each (j := 0) (t := 23) rfl rfl _ (by simp [DataW.weights, DataW.weightsAll, DataW.weightsEach, Tryz.underlying23]))
      have := of_decide_eq_true this
      rw [hl, bytesOf43] at this
      simp only [reachBytes] at this
      omega
    · omega
  obtain ⟨a1, rfl, rfl, rfl, w1⟩ := open_string Tryz.underlying9 (hval 1 9 v1 rfl rfl) h1
  have b1 : a1.size ≤ 140737488351232 := by
    have := sized_string hsz (j := 1) (t := 9) rfl rfl
    simpa [reachBytes] using this
  clear hA0 hval0
  refine (walk _ cap0 L0 a1 W hlaid hsh s0 q0 b0 w0 b1).mono fun e W' ⟨he, bel⟩ => ?_
  subst he
  exact ⟨_, rfl, _, _, _, [], _, [], hW', trodAll_mk1 (shut_bool Tryz.underlying4 _), (trodAll_cons_mk (Below.trod laidOut (by kernel_rfl) (of_decide_eq_true (by kernel_rfl)) k0 bel lt0) (trodAll_cons_mk (Below.trod laidOut (by kernel_rfl) (of_decide_eq_true (by kernel_rfl)) k1 bel lt1) trodAll_mk0)), rfl, bel.frame _, fun h => by cases h⟩

theorem row_holds : Rows.RowBackSaid :=
  OpenClaim.holds_of_wide 5 Tryz.f5 rfl rfl rfl rfl rfl rfl rfl ⟨rfl, rfl, rfl, rfl, rfl⟩ rfl rfl rfl rfl rfl (by kernel_rfl) Tryz.func5 (by kernel_rfl)
    (of_decide_eq_true (by kernel_rfl)) (by unfold Func.isWrapper; first | (rw [if_pos (by decide +kernel)]; kernel_rfl) | (rw [if_neg (by decide +kernel)]; exact ⟨rfl, rfl⟩))
    (fun os started H enc _ => lifted os started H enc)
theorem proved : Rows.RowBackCardSaid :=
  Claim7.holds_tied_plain_at .later [] [.data, .data, .data, .data, .sentinel, .sentinel, .pinned] true (true, "96ad25f851b15a5de087e08acd7e35bd0df376faae3439217d4f394cb67a8be2") true
    row_holds (fun _ h => by cases h) (by kernel_rfl) (fun _ h => by cases h) rowBack_row_tie rfl ⟨rfl, rfl⟩ (by kernel_rfl) rfl
    (fun f fn hf hfn => by
      obtain rfl : f = 5 := Option.some.inj ((show Tryz.prog.funcNamed "cahier/cahierlaw07.RowBack" = some 5 by kernel_rfl).symm.trans hf) |>.symm
      obtain rfl : fn = Tryz.f5 := (Option.some.inj (Tryz.func5.symm.trans hfn)).symm
      exact ⟨by kernel_rfl, fun j t ht => by
        rw [Tryz.params5] at ht
        have hm : t ∈ [23, 9] := by simpa using Array.mem_of_getElem? ht
        have hall : ([23, 9].all fun u => !Tryz.prog.wantsStandIn u) = true := by kernel_rfl
        exact (show Tryz.prog.wantsStandIn t = false by simpa using List.all_eq_true.1 hall t hm)⟩)
    (by kernel_rfl)
#print axioms proved
end Go.Proofs.YtajmmolfnjdanaaGreatDoor.rowBack
