/- ChainReads: for every input the law returns true; each argument reads as it did. Conditions: none. -/
import Derived.Test.YtpndofpcghfjdaaGreatDoorChainReadsW
import Derived.WalkKit
import Derived.ProofKit
import Derived.OpenShut
import Derived.ShutString
import Derived.ChangeOld
import Derived.Below
import Derived.SizedLaws
import Derived.LaidMore
import Derived.Lay
import Derived.SevenTiedAt
import Derived.Stop.Joined
import Derived.Test.YtpndofpcghfjdaaGreatDoorCards
import Derived.Test.YtpndofpcghfjdaaGreatDoorTie
namespace Go.Proofs.YtpndofpcghfjdaaGreatDoor.chainReads
open Go.ChangeShapes Go.WideShapes Go.ChangeAt Go.RowKit
open Go.ChangeMaps (open_string shut_string)
set_option linter.unusedVariables false
set_option linter.unusedSimpArgs false

theorem own : ownKnob Tryz.prog.godebug = none := by kernel_rfl
theorem laidOut : laidOutB Tryz.prog = true := by kernel_rfl
theorem array_3 {α : Type} {cs : Array α} (h : cs.size = 3) : ∃ c0 c1 c2, cs = #[c0, c1, c2] := by
  obtain ⟨l⟩ := cs
  match l, h with
  | [c0, c1, c2], _ => exact ⟨c0, c1, c2, rfl⟩
theorem list_3 {α : Type} {l : List α} (h : l.length = 3) : ∃ c0 c1 c2, l = [c0, c1, c2] := by
  match l, h with
  | [c0, c1, c2], _ => exact ⟨c0, c1, c2, rfl⟩
theorem cellsOf3 : Tryz.prog.cellsOf 3 = 1 := by kernel_rfl
theorem cellsOf9 : Tryz.prog.cellsOf 9 = 1 := by kernel_rfl
theorem cellsOf24 : Tryz.prog.cellsOf 24 = 3 := by kernel_rfl
theorem bytesOf9 : Tryz.prog.bytesOf 9 = 16 := by kernel_rfl
set_option maxRecDepth 100000 in
theorem elem9 {H : Type} {enc : TypeId × Value → H} {W : World} {sp : Nat → Bool} (m : Nat) (cs : List Value) (x : DataW H × List MemPlace) (h : DataW.trod enc Tryz.prog W 0 sp true m 9 cs = some x) :
    ∃ y : ByteArray, cs = [.string y] ∧ (y.size ≤ maxLen) := by
  obtain ⟨a, e, _, w⟩ := DataW.trod_string Tryz.underlying9 h
  subst e
  exact ⟨a, rfl, w⟩
set_option maxRecDepth 100000 in
theorem open24 {H : Type} {enc : TypeId × Value → H} {W : World} {sp : Nat → Bool} {b : Nat} {v : Value} {d : DataW H} {p : List MemPlace} (hv : Value.okWide Tryz.prog W .any b 24 v) (h : DataW.Trod enc Tryz.prog W 0 sp true 24 v d p) :
    ∃ (a_0 : Int) (a_1 : ByteArray) (a_2 : Int), v = .agg #[.int .i64 a_0, .string a_1, .int .i64 a_2] ∧ d = .agg [.lit (.int .i64 a_0), .lit (.string a_1.data.toList), .lit (.int .i64 a_2)] ∧ (Lit.int .i64 a_0).wf = true ∧ a_1.size ≤ maxLen ∧ (Lit.int .i64 a_2).wf = true := by
  unfold Value.okWide at hv; rw [Tryz.underlying24] at hv; obtain ⟨cs, rfl, sz, _⟩ := hv
  obtain ⟨c0, c1, c2, rfl⟩ := array_3 (sz.trans cellsOf24)
  obtain ⟨fu, hf⟩ := h
  replace hf : DataW.trod enc Tryz.prog W 0 sp true fu 24 [c0, c1, c2] = some (d, p) := hf
  obtain ⟨xs, m, _, hx, _, hn, hg⟩ := DataW.trod_struct Tryz.underlying24 hf
  obtain ⟨x_0, x_1, x_2, rfl⟩ := list_3 hn
  have g_0 : DataW.trod enc Tryz.prog W 0 sp true m 3 [c0] = some x_0 := by simpa [cellsOf3] using hg 0 _ rfl
  have g_1 : DataW.trod enc Tryz.prog W 0 sp true m 9 [c1] = some x_1 := by simpa [cellsOf9] using hg 1 _ rfl
  have g_2 : DataW.trod enc Tryz.prog W 0 sp true m 3 [c2] = some x_2 := by simpa [cellsOf3] using hg 2 _ rfl
  clear hg hn
  have hd := congrArg Prod.fst hx
  obtain ⟨a_0, e_0, x_0, w_0⟩ := DataW.trod_int Tryz.underlying3 g_0
  simp only [List.cons.injEq, and_true] at e_0; subst e_0; subst x_0
  obtain ⟨a_1, e_1, x_1, w_1⟩ := DataW.trod_string Tryz.underlying9 g_1
  simp only [List.cons.injEq, and_true] at e_1; subst e_1; subst x_1
  obtain ⟨a_2, e_2, x_2, w_2⟩ := DataW.trod_int Tryz.underlying3 g_2
  simp only [List.cons.injEq, and_true] at e_2; subst e_2; subst x_2
  exact ⟨a_0, a_1, a_2, rfl, hd, w_0, w_1, w_2⟩

set_option maxRecDepth 100000 in
theorem lifted (os : Os) (started : os.Started) (H : Type) (enc : TypeId × Value → H) :
    ReturnsInHanded {} Tryz.checked os 3 .any (fun w args => ((Rows.chainReadsSpec.pre enc Tryz.prog Tryz.f3 Rows.chainReadsRow.domain false w args) ∧ laidMetH Tryz.prog Rows.chainReadsRow.laid w) ∧ sizedMet enc Tryz.prog Tryz.f3 (OpenSpec.ofChange Rows.chainReadsSpec) false w args) (Rows.chainReadsSpec.post enc Tryz.prog Tryz.f3 false true false false) := by
  refine returnsInHanded_of_change_and (C := Tryz.checked) (X := fun w _ => laidMetH Tryz.prog Rows.chainReadsRow.laid w) (fun _ _ _ hh h => h.of_heap hh) own started (by kernel_rfl) Tryz.func3
    (ChangeSpec.witness_shaped (enc := enc) (C := Tryz.checked) (os := os) (X := fun w _ => laidMetH Tryz.prog Rows.chainReadsRow.laid w) false (World.laidAll Tryz.prog os Rows.chainReadsRow.laid) #[.slice none 0 0, .agg #[.int .i64 0, .string ByteArray.empty, .int .i64 0]] 8 (World.laidAll_os _ _ _)
      (World.shaped_of_ZipB (by kernel_rfl) (by kernel_rfl)) (by kernel_rfl) (by kernel_rfl) (by kernel_rfl)
      (by rw [MakeChecks.laidMetH_plain _ _ _ (by kernel_rfl)]; exact laidMet_laidAll _ (by kernel_rfl) (by kernel_rfl))) ?_
  intro W base args ds gs before hval0 hW hcnd hsz0 hlaid _
  have hsz : (DataW.weightsEach Tryz.prog (Tryz.f3.params.toList ++ Rows.chainReadsSpec.plain.varTypes Tryz.prog) (ds ++ gs)).all (· ≤ reachBytes) = true := hsz0
  clear hsz0
  have hval : ∀ (j : Nat) t v, Tryz.f3.params[j]? = some t → args[j]? = some v → Value.okWide Tryz.prog W .any base t v := hval0
  have hW' := hW
  obtain ⟨p, q, hA0, hV, rfl, hfz, hnd⟩ := hW
  have hA : DataW.TrodAll enc Tryz.prog W 0 (fun _ => true) true Tryz.f3.params.toList args.toList ds p := hA0
  rw [Tryz.params3] at hA hval hsz
  obtain ⟨v0, vs0, d0, ds0, p0, q0, hargs, rfl, rfl, h0, r0⟩ := trodAll_cons hA
  obtain ⟨v1, vs1, d1, ds1, p1, q1, rfl, rfl, rfl, h1, r1⟩ := trodAll_cons r0
  obtain ⟨rfl, rfl, rfl⟩ := trodAll_nil r1
  obtain rfl : args = #[v0, v1] := by cases args; simp_all
  obtain ⟨rfl, rfl⟩ := trodVars_none hV
  have k0 := h0
  have lt0 : ∀ x ∈ p0, x.block < W.heap.size := by obtain ⟨m, hm⟩ := k0; exact DataW.trod_lt m _ _ _ hm
  have k1 := h1
  have lt1 : ∀ x ∈ p1, x.block < W.heap.size := by obtain ⟨m, hm⟩ := k1; exact DataW.trod_lt m _ _ _ hm
  obtain ⟨o0, len0, cp0, rfl⟩ := okWide_slice Tryz.underlying22 (hval 0 22 v0 rfl rfl)
  obtain ⟨fu0, hf0⟩ := h0
  replace hf0 : DataW.trod enc Tryz.prog W 0 (fun _ => true) true fu0 22 [.slice o0 len0 cp0] = some (d0, p0) := hf0
  obtain ⟨v0', cap0, L0, e0, s0, q0, _, w0, z0⟩ := open_list (fun y : ByteArray => [.string y]) (fun y : ByteArray => y.size ≤ maxLen) 1 (fun _ => rfl) (by decide) Tryz.underlying22 cellsOf9 (fun _ => rfl) elem9 hf0
  simp only [List.cons.injEq, and_true] at e0; subst e0
  dsimp only at z0
  have b0 : cap0 ≤ 140737488351232 := by
    obtain ⟨es, rest, ⟨hd, hl⟩ | ⟨_, h0⟩⟩ := z0
    · subst hd
      have := List.all_eq_true.1 hsz ((es.length + rest.length) * Tryz.prog.bytesOf 9) (DataW.weights_mem_each (j := 0) (t := 22) rfl rfl _ (by simp [DataW.weights, DataW.weightsAll, DataW.weightsEach, Tryz.underlying22]))
      have := of_decide_eq_true this
      rw [hl, bytesOf9] at this
      simp only [reachBytes] at this
      omega
    · omega
  obtain ⟨a1_0, a1_1, a1_2, rfl, rfl, w1_0, w1_1, w1_2⟩ := open24 (hval 1 24 v1 rfl rfl) h1
  have b1_1 : a1_1.size ≤ 140737488351232 := by
    have := List.all_eq_true.1 hsz a1_1.data.toList.length (DataW.weights_mem_each (j := 1) (t := 24) rfl rfl _ (by simp [DataW.weights, DataW.weightsAll, DataW.weightsEach, Tryz.underlying24, Tryz.underlying3, Tryz.underlying9]))
    have := of_decide_eq_true this
    simpa [reachBytes] using this
  clear hA0 hval0
  refine (walk _ cap0 L0 a1_0 a1_1 a1_2 W s0 q0 b0 w0 w1_0 b1_1 w1_2).mono fun e W' ⟨he, bel⟩ => ?_
  subst he
  exact ⟨_, rfl, _, _, _, [], _, [], hW', trodAll_mk1 (shut_bool Tryz.underlying4 _), (trodAll_cons_mk (Below.trod laidOut (by kernel_rfl) (of_decide_eq_true (by kernel_rfl)) k0 bel lt0) (trodAll_cons_mk (Below.trod laidOut (by kernel_rfl) (of_decide_eq_true (by kernel_rfl)) k1 bel lt1) trodAll_mk0)), rfl, bel.frame _, fun h => by cases h⟩

theorem row_holds : Rows.ChainReadsSaid :=
  OpenClaim.holds_of_wide 3 Tryz.f3 rfl rfl rfl rfl rfl rfl rfl ⟨rfl, rfl, rfl, rfl, rfl⟩ rfl rfl rfl rfl rfl (by kernel_rfl) Tryz.func3 (by kernel_rfl)
    (of_decide_eq_true (by kernel_rfl)) (by unfold Func.isWrapper; first | (rw [if_pos (by decide +kernel)]; kernel_rfl) | (rw [if_neg (by decide +kernel)]; exact ⟨rfl, rfl⟩))
    (fun os started H enc _ => lifted os started H enc)
theorem proved : Rows.ChainReadsCardSaid :=
  Claim7.holds_tied_plain_at .later [] [.data, .pinned] true (true, "2a5ab87320c2792922f647d1614323d6cce105328f7451100fe99c81ac964361") false
    row_holds (fun _ h => by cases h) (by kernel_rfl) (fun _ h => by cases h) chainReads_row_tie rfl ⟨rfl, rfl⟩ (by kernel_rfl) rfl
    (fun f fn hf hfn => by
      obtain rfl : f = 3 := Option.some.inj ((show Tryz.prog.funcNamed "cahier/cahierlaw11.ChainReads" = some 3 by kernel_rfl).symm.trans hf) |>.symm
      obtain rfl : fn = Tryz.f3 := (Option.some.inj (Tryz.func3.symm.trans hfn)).symm
      exact ⟨by kernel_rfl, fun j t ht => by
        rw [Tryz.params3] at ht
        have hm : t ∈ [22, 24] := by simpa using Array.mem_of_getElem? ht
        have hall : ([22, 24].all fun u => !Tryz.prog.wantsStandIn u) = true := by kernel_rfl
        exact (show Tryz.prog.wantsStandIn t = false by simpa using List.all_eq_true.1 hall t hm)⟩)
    (by kernel_rfl)
#print axioms proved
end Go.Proofs.YtpndofpcghfjdaaGreatDoor.chainReads
