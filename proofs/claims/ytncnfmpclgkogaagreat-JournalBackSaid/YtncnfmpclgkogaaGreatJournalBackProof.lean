/- JournalBack: for every input the law returns true; each argument reads as it did. Conditions: none. -/
import Derived.Test.YtncnfmpclgkogaaGreatJrnBackW
import Derived.WalkKit
import Derived.ProofKit
import Derived.OpenShut
import Derived.ShutString
import Derived.ChangeOld
import Derived.Below
import Derived.SizedLaws
namespace Go.Proofs.YtncnfmpclgkogaaGreat.journalBack
open Go.ChangeShapes Go.WideShapes Go.ChangeAt Go.RowKit
open Go.ChangeMaps (open_string shut_string)
set_option linter.unusedVariables false
set_option linter.unusedSimpArgs false

theorem own : ownKnob Tryz.prog.godebug = none := by kernel_rfl
theorem laidOut : laidOutB Tryz.prog = true := by kernel_rfl
theorem array_2 {α : Type} {cs : Array α} (h : cs.size = 2) : ∃ c0 c1, cs = #[c0, c1] := by
  obtain ⟨l⟩ := cs
  match l, h with
  | [c0, c1], _ => exact ⟨c0, c1, rfl⟩
theorem list_2 {α : Type} {l : List α} (h : l.length = 2) : ∃ c0 c1, l = [c0, c1] := by
  match l, h with
  | [c0, c1], _ => exact ⟨c0, c1, rfl⟩
theorem list_3 {α : Type} {l : List α} (h : l.length = 3) : ∃ c0 c1 c2, l = [c0, c1, c2] := by
  match l, h with
  | [c0, c1, c2], _ => exact ⟨c0, c1, c2, rfl⟩
theorem cellsOf3 : Tryz.prog.cellsOf 3 = 1 := by kernel_rfl
theorem cellsOf4 : Tryz.prog.cellsOf 4 = 1 := by kernel_rfl
theorem cellsOf5 : Tryz.prog.cellsOf 5 = 1 := by kernel_rfl
theorem cellsOf46 : Tryz.prog.cellsOf 46 = 1 := by kernel_rfl
theorem cellsOf47 : Tryz.prog.cellsOf 47 = 2 := by kernel_rfl
theorem cellsOf114 : Tryz.prog.cellsOf 114 = 3 := by kernel_rfl
theorem bytesOf3 : Tryz.prog.bytesOf 3 = 8 := by kernel_rfl
theorem bytesOf114 : Tryz.prog.bytesOf 114 = 16 := by kernel_rfl
set_option maxRecDepth 100000 in
theorem elem114 {H : Type} {enc : TypeId × Value → H} {W : World} {sp : Nat → Bool} (m : Nat) (cs : List Value) (x : DataW H × List MemPlace) (h : DataW.trod enc Tryz.prog W 0 sp true m 114 cs = some x) :
    ∃ y : Int × Int × Bool, cs = [.int .i64 y.1, .int .u8 y.2.1, .bool y.2.2] ∧ ((Lit.int .i64 y.1).wf = true ∧ (Lit.int .u8 y.2.1).wf = true) := by
  have hlen : cs.length = 3 := by
    obtain ⟨_, _, _, _, hl, _⟩ := DataW.trod_struct Tryz.underlying114 h
    rw [hl, cellsOf114]
  obtain ⟨c0, c1, c2, rfl⟩ := list_3 hlen
  obtain ⟨xs, m, _, _, _, hn, hg⟩ := DataW.trod_struct Tryz.underlying114 h
  obtain ⟨x_0, x_1, x_2, rfl⟩ := list_3 hn
  have g_0 : DataW.trod enc Tryz.prog W 0 sp true m 3 [c0] = some x_0 := by simpa [cellsOf3] using hg 0 _ rfl
  have g_1 : DataW.trod enc Tryz.prog W 0 sp true m 5 [c1] = some x_1 := by simpa [cellsOf5] using hg 1 _ rfl
  have g_2 : DataW.trod enc Tryz.prog W 0 sp true m 4 [c2] = some x_2 := by simpa [cellsOf4] using hg 2 _ rfl
  obtain ⟨a_0, e_0, _, w_0⟩ := DataW.trod_int Tryz.underlying3 g_0
  simp only [List.cons.injEq, and_true] at e_0; subst e_0
  obtain ⟨a_1, e_1, _, w_1⟩ := DataW.trod_int Tryz.underlying5 g_1
  simp only [List.cons.injEq, and_true] at e_1; subst e_1
  obtain ⟨a_2, e_2, _⟩ := DataW.trod_bool Tryz.underlying4 g_2
  simp only [List.cons.injEq, and_true] at e_2; subst e_2
  exact ⟨(a_0, a_1, a_2), rfl, ⟨w_0, w_1⟩⟩
set_option maxRecDepth 100000 in
theorem elem3 {H : Type} {enc : TypeId × Value → H} {W : World} {sp : Nat → Bool} (m : Nat) (cs : List Value) (x : DataW H × List MemPlace) (h : DataW.trod enc Tryz.prog W 0 sp true m 3 cs = some x) :
    ∃ y : Int, cs = [.int .i64 y] ∧ ((Lit.int .i64 y).wf = true) := by
  obtain ⟨a, e, _, w⟩ := DataW.trod_int Tryz.underlying3 h
  subst e
  exact ⟨a, rfl, w⟩
set_option maxRecDepth 100000 in
theorem open47 {H : Type} {enc : TypeId × Value → H} {W : World} {b : Nat} {v : Value} {d : DataW H} {p : List MemPlace} (hv : Value.okWide Tryz.prog W .any b 47 v) (h : DataW.Trod enc Tryz.prog W 0 (fun _ => true) true 47 v d p) :
    ∃ (v_0 : Value) (cap_0 : Nat) (L_0 : List (Int)) (d_0 : DataW H) (v_1 : Value) (cap_1 : Nat) (L_1 : List (Int)) (d_1 : DataW H), v = .agg #[v_0, v_1] ∧ d = .agg [d_0, d_1] ∧ SlcAt W v_0 L_0.length cap_0 (L_0.flatMap (fun y : Int => [.int .i64 y])) ∧ L_0.length ≤ cap_0 ∧ (∀ y ∈ L_0, (fun y : Int => (Lit.int .i64 y).wf = true) y) ∧ (∃ es rest, (d_0 = .slice es rest ∧ es.length + rest.length = cap_0) ∨ (d_0 = .nil ∧ cap_0 = 0)) ∧ SlcAt W v_1 L_1.length cap_1 (L_1.flatMap (fun y : Int => [.int .i64 y])) ∧ L_1.length ≤ cap_1 ∧ (∀ y ∈ L_1, (fun y : Int => (Lit.int .i64 y).wf = true) y) ∧ (∃ es rest, (d_1 = .slice es rest ∧ es.length + rest.length = cap_1) ∨ (d_1 = .nil ∧ cap_1 = 0)) := by
  unfold Value.okWide at hv; rw [Tryz.underlying47] at hv; obtain ⟨cs, rfl, sz, _⟩ := hv
  obtain ⟨c0, c1, rfl⟩ := array_2 (sz.trans cellsOf47)
  obtain ⟨fu, hf⟩ := h
  replace hf : DataW.trod enc Tryz.prog W 0 (fun _ => true) true fu 47 [c0, c1] = some (d, p) := hf
  obtain ⟨xs, m, _, hx, _, hn, hg⟩ := DataW.trod_array Tryz.underlying47 hf
  obtain ⟨x_0, x_1, rfl⟩ := list_2 hn
  have g_0 : DataW.trod enc Tryz.prog W 0 (fun _ => true) true m 46 [c0] = some x_0 := by simpa [cellsOf46] using hg 0 (by decide)
  have g_1 : DataW.trod enc Tryz.prog W 0 (fun _ => true) true m 46 [c1] = some x_1 := by simpa [cellsOf46] using hg 1 (by decide)
  clear hg hn
  have hd := congrArg Prod.fst hx
  obtain ⟨v_0, cap_0, L_0, e_0, s_0, q_0, _, w_0, z_0⟩ := open_list (fun y : Int => [.int .i64 y]) (fun y : Int => (Lit.int .i64 y).wf = true) 1 (fun _ => rfl) (by decide) Tryz.underlying46 cellsOf3 (fun _ => rfl) elem3 g_0
  simp only [List.cons.injEq, and_true] at e_0; subst c0
  obtain ⟨v_1, cap_1, L_1, e_1, s_1, q_1, _, w_1, z_1⟩ := open_list (fun y : Int => [.int .i64 y]) (fun y : Int => (Lit.int .i64 y).wf = true) 1 (fun _ => rfl) (by decide) Tryz.underlying46 cellsOf3 (fun _ => rfl) elem3 g_1
  simp only [List.cons.injEq, and_true] at e_1; subst c1
  exact ⟨v_0, cap_0, L_0, x_0.1, v_1, cap_1, L_1, x_1.1, rfl, hd, s_0, q_0, w_0, z_0, s_1, q_1, w_1, z_1⟩

set_option maxRecDepth 100000 in
theorem lifted (os : Os) (started : os.Started) (H : Type) (enc : TypeId × Value → H) :
    ReturnsInHanded {} Tryz.checked os 4 .any (Rows.journalBackSpec.pre6 enc Tryz.prog Tryz.f4 Rows.journalBackRow.domain false) (Rows.journalBackSpec.post enc Tryz.prog Tryz.f4 false true false false) := by
  refine returnsInHanded_of_change_sized (C := Tryz.checked) own started (by kernel_rfl) Tryz.func4
    (ChangeSpec.witness6 (enc := enc) (C := Tryz.checked) false ⟨#[], #[.int .i64 0, .slice none 0 0, .agg #[.slice none 0 0, .slice none 0 0]], []⟩ 8 (by kernel_rfl) (by kernel_rfl) (by kernel_rfl) (by kernel_rfl)) ?_
  intro W base args ds gs before hval0 hW hcnd hsz0 _
  have hsz : (DataW.weightsEach Tryz.prog (Tryz.f4.params.toList ++ Rows.journalBackSpec.plain.varTypes Tryz.prog) (ds ++ gs)).all (· ≤ reachBytes) = true := hsz0
  clear hsz0
  have hval : ∀ (j : Nat) t v, Tryz.f4.params[j]? = some t → args[j]? = some v → Value.okWide Tryz.prog W .any base t v := hval0
  have hW' := hW
  obtain ⟨p, q, hA0, hV, rfl, hfz, hnd⟩ := hW
  have hA : DataW.TrodAll enc Tryz.prog W 0 (fun _ => true) true Tryz.f4.params.toList args.toList ds p := hA0
  rw [Tryz.params4] at hA hval hsz
  obtain ⟨v0, vs0, d0, ds0, p0, q0, hargs, rfl, rfl, h0, r0⟩ := trodAll_cons hA
  obtain ⟨v1, vs1, d1, ds1, p1, q1, rfl, rfl, rfl, h1, r1⟩ := trodAll_cons r0
  obtain ⟨v2, vs2, d2, ds2, p2, q2, rfl, rfl, rfl, h2, r2⟩ := trodAll_cons r1
  obtain ⟨rfl, rfl, rfl⟩ := trodAll_nil r2
  obtain rfl : args = #[v0, v1, v2] := by cases args; simp_all
  obtain ⟨rfl, rfl⟩ := trodVars_none hV
  have k0 := h0
  have lt0 : ∀ x ∈ p0, x.block < W.heap.size := by obtain ⟨m, hm⟩ := k0; exact DataW.trod_lt m _ _ _ hm
  have k1 := h1
  have lt1 : ∀ x ∈ p1, x.block < W.heap.size := by obtain ⟨m, hm⟩ := k1; exact DataW.trod_lt m _ _ _ hm
  have k2 := h2
  have lt2 : ∀ x ∈ p2, x.block < W.heap.size := by obtain ⟨m, hm⟩ := k2; exact DataW.trod_lt m _ _ _ hm
  obtain ⟨a0, rfl, rfl, rfl, w0⟩ := open_int Tryz.underlying3 (hval 0 3 v0 rfl rfl) h0
  obtain ⟨o1, len1, cp1, rfl⟩ := okWide_slice Tryz.underlying45 (hval 1 45 v1 rfl rfl)
  obtain ⟨fu1, hf1⟩ := h1
  replace hf1 : DataW.trod enc Tryz.prog W 0 (fun _ => true) true fu1 45 [.slice o1 len1 cp1] = some (d1, p1) := hf1
  obtain ⟨v1', cap1, L1, e1, s1, q1, _, w1, z1⟩ := open_list (fun y : Int × Int × Bool => [.int .i64 y.1, .int .u8 y.2.1, .bool y.2.2]) (fun y : Int × Int × Bool => (Lit.int .i64 y.1).wf = true ∧ (Lit.int .u8 y.2.1).wf = true) 3 (fun _ => rfl) (by decide) Tryz.underlying45 cellsOf114 (fun _ => rfl) elem114 hf1
  simp only [List.cons.injEq, and_true] at e1; subst e1
  dsimp only at z1
  have b1 : cap1 ≤ 140737488351232 := by
    obtain ⟨es, rest, ⟨hd, hl⟩ | ⟨_, h0⟩⟩ := z1
    · subst hd
      have := List.all_eq_true.1 hsz ((es.length + rest.length) * Tryz.prog.bytesOf 114) (DataW.weights_mem_each (j := 1) (t := 45) rfl rfl _ (by simp [DataW.weights, DataW.weightsAll, DataW.weightsEach, Tryz.underlying45]))
      have := of_decide_eq_true this
      rw [hl, bytesOf114] at this
      simp only [reachBytes] at this
      omega
    · omega
  obtain ⟨v2_0, cap2_0, L2_0, d2_0, v2_1, cap2_1, L2_1, d2_1, rfl, rfl, s2_0, q2_0, w2_0, z2_0, s2_1, q2_1, w2_1, z2_1⟩ := open47 (hval 2 47 v2 rfl rfl) h2
  have b2_0 : cap2_0 ≤ 140737488351232 := by
    obtain ⟨es, rest, ⟨hd, hl⟩ | ⟨_, h0⟩⟩ := z2_0
    · subst hd
      have := List.all_eq_true.1 hsz ((es.length + rest.length) * Tryz.prog.bytesOf 3) (DataW.weights_mem_each (j := 2) (t := 47) rfl rfl _ (by simp [DataW.weights, DataW.weightsAll, DataW.weightsEach, Tryz.underlying46, Tryz.underlying47]))
      have := of_decide_eq_true this
      rw [hl, bytesOf3] at this
      simp only [reachBytes] at this
      omega
    · omega
  have b2_1 : cap2_1 ≤ 140737488351232 := by
    obtain ⟨es, rest, ⟨hd, hl⟩ | ⟨_, h0⟩⟩ := z2_1
    · subst hd
      have := List.all_eq_true.1 hsz ((es.length + rest.length) * Tryz.prog.bytesOf 3) (DataW.weights_mem_each (j := 2) (t := 47) rfl rfl _ (by simp [DataW.weights, DataW.weightsAll, DataW.weightsEach, Tryz.underlying46, Tryz.underlying47]))
      have := of_decide_eq_true this
      rw [hl, bytesOf3] at this
      simp only [reachBytes] at this
      omega
    · omega
  clear hA0 hval0
  refine (walk a0 _ cap1 L1 v2_0 cap2_0 L2_0 v2_1 cap2_1 L2_1 W w0 s1 q1 b1 w1 s2_0 q2_0 b2_0 w2_0 s2_1 q2_1 b2_1 w2_1).mono fun e W' ⟨he, bel⟩ => ?_
  subst he
  exact ⟨_, rfl, _, _, _, [], _, [], hW', trodAll_mk1 (shut_bool Tryz.underlying4 _), (trodAll_cons_mk (Below.trod laidOut (by kernel_rfl) (of_decide_eq_true (by kernel_rfl)) k0 bel lt0) (trodAll_cons_mk (Below.trod laidOut (by kernel_rfl) (of_decide_eq_true (by kernel_rfl)) k1 bel lt1) (trodAll_cons_mk (Below.trod laidOut (by kernel_rfl) (of_decide_eq_true (by kernel_rfl)) k2 bel lt2) trodAll_mk0))), rfl, bel.frame _, fun h => by cases h⟩

theorem proved : Rows.JournalBackSaid :=
  OpenClaim.holds_of_wide 4 Tryz.f4 rfl rfl rfl rfl rfl rfl rfl ⟨rfl, rfl, rfl, rfl, rfl⟩ rfl rfl rfl rfl rfl (by kernel_rfl) Tryz.func4 (by kernel_rfl)
    (of_decide_eq_true (by kernel_rfl)) (by unfold Func.isWrapper; first | (rw [if_pos (by decide +kernel)]; kernel_rfl) | (rw [if_neg (by decide +kernel)]; exact ⟨rfl, rfl⟩))
    (fun os started H enc _ => lifted os started H enc)
#print axioms proved
end Go.Proofs.YtncnfmpclgkogaaGreat.journalBack
