/- LogExact: for every input the law returns true; each argument reads as it did. Conditions: none. -/
import Derived.Test.YtcojbjakopkfbaaGreatLogExactW
import Derived.WalkKit
import Derived.ProofKit
import Derived.OpenShut
import Derived.ChangeOld
import Derived.Below
import Derived.SizedLaws
namespace Go.Proofs.YtcojbjakopkfbaaGreat.logExact
open Go.ChangeShapes Go.WideShapes Go.ChangeAt Go.RowKit
set_option linter.unusedVariables false
set_option linter.unusedSimpArgs false
section
variable {H : Type} {enc : TypeId × Value → H} {P : Program} {w : World} {base : Nat} {sp : Nat → Bool} {held : Bool}
theorem chl {T : Type} {p : Nat → T → Prop} (k : Nat) (h : ∀ i, i < k → ∃ y, p i y) : ∃ L : List T, L.length = k ∧ ∀ i y, L[i]? = some y → p i y :=
 ⟨List.ofFn fun i : Fin k => (h i.1 i.2).choose, List.length_ofFn, fun i y e => by
  obtain ⟨w, rfl⟩ := List.getElem?_eq_some_iff.1 e
  rw [List.getElem_ofFn]; exact (h i (by simpa using w)).choose_spec⟩
theorem open_list {T : Type} (f : T → List Value) (ok : T → Prop) (n : Nat) (hn : ∀ y, (f y).length = n) (hpos : 1 ≤ n) {t e : TypeId} {fuel : Nat} {cs : List Value} {x : DataW H × List MemPlace} (ht : P.underlying t = some (.slice e)) (hc : P.cellsOf e = n)
 (hsp : ∀ b, sp b = true) (hdec : ∀ m cs' x, DataW.trod enc P w base sp held m e cs' = some x → ∃ y, cs' = f y ∧ ok y) (h : DataW.trod enc P w base sp held fuel t cs = some x) :
 ∃ (v : Value) (cap : Nat) (L : List T), cs = [v] ∧ SlcAt w v L.length cap (L.flatMap f) ∧ L.length ≤ cap ∧ cap ≤ maxLen ∧ (∀ y ∈ L, ok y) ∧ (∃ es rest, (x.1 = .slice es rest ∧ es.length + rest.length = cap) ∨ (x.1 = .nil ∧ cap = 0)) := by
 rcases Go.Deep.open_slice ht h with ⟨rfl, rfl⟩ | ⟨a, len, cap, m, k, D, Pl, rfl, hb, hl, hm, hmm, rfl, hx⟩
 · exact ⟨_, 0, [], rfl, .inl ⟨none, rfl, rfl, rfl, rfl⟩, Nat.le_refl _, Nat.zero_le _, (fun y hy => by cases hy), [], [], .inr ⟨rfl, rfl⟩⟩
 · rw [hsp] at hmm
   obtain rfl : m = cap := hmm
   rw [hc] at hx
   obtain ⟨L, hlen, hL⟩ := chl (T := T) (p := fun i y => w.cells? base (a.add (i * n)) n = some (f y) ∧ ok y) len fun i hi => by
    obtain ⟨cs', h1, h2⟩ := hx i (by omega)
    obtain ⟨y, rfl, hy⟩ := hdec _ _ _ h2
    exact ⟨y, h1, hy⟩
   subst hlen
   refine ⟨_, m, L, rfl, ?_, hl, hm, fun y hy => ?_, _, _, .inl ⟨rfl, by simp; omega⟩⟩
   · rcases Nat.eq_zero_or_pos m with h0 | h0
     · subst h0
       have : L = [] := List.eq_nil_of_length_eq_zero (by omega)
       subst this
       exact .inl ⟨some a, rfl, rfl, rfl, rfl⟩
     · obtain ⟨cs0, c0, _⟩ := hx 0 h0
       obtain ⟨_, hl0, hc0⟩ := World.cells?_some c0
       have hlive := cell_lives ((hc0 0 (by omega)).trans (List.getElem?_eq_getElem (by omega)))
       refine .inr ⟨a, rfl, ?_, ?_, fun j u hj => ?_⟩
       · have := hlive.1; simpa [Addr.add] using this
       · have := hlive.2; simpa [Addr.add] using this
       · have hjl : j < L.length * n := by
          rcases Nat.lt_or_ge j (L.length * n) with h | h
          · exact h
          · rw [List.getElem?_eq_none (by rw [flat_length hn]; omega)] at hj; cases hj
         have hi : j / n < L.length := Nat.div_lt_of_lt_mul (by rw [Nat.mul_comm]; exact hjl)
         have hjm : j % n < n := Nat.mod_lt _ hpos
         have hdm : j / n * n + j % n = j := by rw [Nat.mul_comm]; exact Nat.div_add_mod j n
         have hLi := List.getElem?_eq_getElem hi
         obtain ⟨hcell, _⟩ := hL _ _ hLi
         obtain ⟨_, _, hcc⟩ := World.cells?_some hcell
         have h3 := hcc (j % n) hjm
         have h4 := flat_getElem hn L (j / n) (j % n) _ hLi hjm
         rw [hdm] at h4
         rw [← h4, hj] at h3
         have hs : a.spot = none := by have := hlive.1; simpa [Addr.add] using this
         obtain ⟨b, o, p⟩ := a
         dsimp only at hs
         subst hs
         rw [add_lit', add_lit', Nat.add_assoc, hdm] at h3
         rw [add_lit']
         exact h3
   · obtain ⟨i, hi⟩ := List.mem_iff_getElem?.1 hy
     exact (hL i y hi).2
end
theorem own : ownKnob Tryz.prog.godebug = none := by kernel_rfl
theorem laidOut : laidOutB Tryz.prog = true := by kernel_rfl
theorem list_5 {α : Type} {l : List α} (h : l.length = 5) : ∃ c0 c1 c2 c3 c4, l = [c0, c1, c2, c3, c4] := by
 match l, h with
 | [c0, c1, c2, c3, c4], _ => exact ⟨c0, c1, c2, c3, c4, rfl⟩
theorem cellsOf3 : Tryz.prog.cellsOf 3 = 1 := by kernel_rfl
theorem cellsOf4 : Tryz.prog.cellsOf 4 = 1 := by kernel_rfl
theorem cellsOf5 : Tryz.prog.cellsOf 5 = 1 := by kernel_rfl
theorem cellsOf46 : Tryz.prog.cellsOf 46 = 1 := by kernel_rfl
theorem cellsOf66 : Tryz.prog.cellsOf 66 = 5 := by kernel_rfl
theorem bytesOf66 : Tryz.prog.bytesOf 66 = 48 := by kernel_rfl
set_option maxRecDepth 100000 in
theorem elem3 {H : Type} {enc : TypeId × Value → H} {W : World} {sp : Nat → Bool} (m : Nat) (cs : List Value) (x : DataW H × List MemPlace) (h : DataW.trod enc Tryz.prog W 0 sp true m 3 cs = some x) :
 ∃ y : Int, cs = [.int .i64 y] ∧ ((Lit.int .i64 y).wf = true) := by
 obtain ⟨a, e, _, w⟩ := DataW.trod_int Tryz.underlying3 h
 subst e
 exact ⟨a, rfl, w⟩
set_option maxRecDepth 100000 in
theorem elem66 {H : Type} {enc : TypeId × Value → H} {W : World} (m : Nat) (cs : List Value) (x : DataW H × List MemPlace) (h : DataW.trod enc Tryz.prog W 0 (fun _ => true) true m 66 cs = some x) :
 ∃ y : Int × Int × Int × Bool × (Value × Nat × List (Int)), cs = [.int .i64 (y.1), .int .i64 (y.2.1), .int .u8 (y.2.2.1), .bool (y.2.2.2.1), (y.2.2.2.2).1] ∧ ((Lit.int .i64 (y.1)).wf = true ∧ (Lit.int .i64 (y.2.1)).wf = true ∧ (Lit.int .u8 (y.2.2.1)).wf = true ∧ (SlcAt W (y.2.2.2.2).1 (y.2.2.2.2).2.2.length (y.2.2.2.2).2.1 ((y.2.2.2.2).2.2.flatMap (fun y : Int => [.int .i64 y])) ∧ (y.2.2.2.2).2.2.length ≤ (y.2.2.2.2).2.1 ∧ (y.2.2.2.2).2.1 ≤ maxLen ∧ ∀ z ∈ (y.2.2.2.2).2.2, (fun y : Int => (Lit.int .i64 y).wf = true) z)) := by
 have hlen : cs.length = 5 := by
  obtain ⟨_, _, _, _, hl, _⟩ := DataW.trod_struct Tryz.underlying66 h
  rw [hl, cellsOf66]
 obtain ⟨c0, c1, c2, c3, c4, rfl⟩ := list_5 hlen
 obtain ⟨xs, m, _, _, _, hn, hg⟩ := DataW.trod_struct Tryz.underlying66 h
 obtain ⟨x_0, x_1, x_2, x_3, x_4, rfl⟩ := list_5 hn
 have g_0 : DataW.trod enc Tryz.prog W 0 (fun _ => true) true m 3 [c0] = some x_0 := by simpa [cellsOf3] using hg 0 _ rfl
 have g_1 : DataW.trod enc Tryz.prog W 0 (fun _ => true) true m 3 [c1] = some x_1 := by simpa [cellsOf3] using hg 1 _ rfl
 have g_2 : DataW.trod enc Tryz.prog W 0 (fun _ => true) true m 5 [c2] = some x_2 := by simpa [cellsOf5] using hg 2 _ rfl
 have g_3 : DataW.trod enc Tryz.prog W 0 (fun _ => true) true m 4 [c3] = some x_3 := by simpa [cellsOf4] using hg 3 _ rfl
 have g_4 : DataW.trod enc Tryz.prog W 0 (fun _ => true) true m 46 [c4] = some x_4 := by simpa [cellsOf46] using hg 4 _ rfl
 obtain ⟨a_0, e_0, _, w_0⟩ := DataW.trod_int Tryz.underlying3 g_0
 cases e_0
 obtain ⟨a_1, e_1, _, w_1⟩ := DataW.trod_int Tryz.underlying3 g_1
 cases e_1
 obtain ⟨a_2, e_2, _, w_2⟩ := DataW.trod_int Tryz.underlying5 g_2
 cases e_2
 obtain ⟨a_3, e_3, _⟩ := DataW.trod_bool Tryz.underlying4 g_3
 cases e_3
 obtain ⟨va_4, ca_4, La_4, e_4, sa_4, qa_4, ma_4, wa_4, _⟩ := open_list (fun y : Int => [.int .i64 y]) (fun y : Int => (Lit.int .i64 y).wf = true) 1 (fun _ => rfl) (by decide) Tryz.underlying46 cellsOf3 (fun _ => rfl) elem3 g_4
 simp only [List.cons.injEq, and_true] at e_4; replace e_4 := e_4.symm; subst e_4
 exact ⟨(a_0, a_1, a_2, a_3, (va_4, ca_4, La_4)), rfl, ⟨w_0, w_1, w_2, ⟨sa_4, qa_4, ma_4, wa_4⟩⟩⟩
set_option maxRecDepth 100000 in
theorem lifted (os : Os) (started : os.Started) (H : Type) (enc : TypeId × Value → H) :
 ReturnsInHanded {} Tryz.checked os 6 .any (Rows.logExactSpec.pre6 enc Tryz.prog Tryz.f6 Rows.logExactRow.domain false) (Rows.logExactSpec.post enc Tryz.prog Tryz.f6 false true false false) := by
 refine returnsInHanded_of_change_sized (C := Tryz.checked) own started (by kernel_rfl) Tryz.func6
  (ChangeSpec.witness6 (enc := enc) (C := Tryz.checked) false ⟨#[], #[.slice none 0 0], []⟩ 8 (by kernel_rfl) (by kernel_rfl) (by kernel_rfl) (by kernel_rfl)) ?_
 intro W base args ds gs before hval0 hW hcnd hsz0 _
 have hsz : (DataW.weightsEach Tryz.prog (Tryz.f6.params.toList ++ Rows.logExactSpec.plain.varTypes Tryz.prog) (ds ++ gs)).all (· ≤ reachBytes) = true := hsz0
 clear hsz0
 have hval : ∀ (j : Nat) t v, Tryz.f6.params[j]? = some t → args[j]? = some v → Value.okWide Tryz.prog W .any base t v := hval0
 have hW' := hW
 obtain ⟨p, q, hA0, hV, rfl, hfz, hnd⟩ := hW
 have hA : DataW.TrodAll enc Tryz.prog W 0 (fun _ => true) true Tryz.f6.params.toList args.toList ds p := hA0
 rw [Tryz.params6] at hA hval hsz
 obtain ⟨v0, vs0, d0, ds0, p0, q0, hargs, rfl, rfl, h0, r0⟩ := trodAll_cons hA
 obtain ⟨rfl, rfl, rfl⟩ := trodAll_nil r0
 obtain rfl : args = #[v0] := by cases args; simp_all
 obtain ⟨rfl, rfl⟩ := trodVars_none hV
 have k0 := h0
 have lt0 : ∀ x ∈ p0, x.block < W.heap.size := by obtain ⟨m, hm⟩ := k0; exact DataW.trod_lt m _ _ _ hm
 obtain ⟨o0, len0, cp0, rfl⟩ := okWide_slice Tryz.underlying64 (hval 0 64 v0 rfl rfl)
 obtain ⟨fu0, hf0⟩ := h0
 replace hf0 : DataW.trod enc Tryz.prog W 0 (fun _ => true) true fu0 64 [.slice o0 len0 cp0] = some (d0, p0) := hf0
 obtain ⟨v0', cap0, L0, e0, s0, q0, _, w0, z0⟩ := open_list (fun y : Int × Int × Int × Bool × (Value × Nat × List (Int)) => [.int .i64 (y.1), .int .i64 (y.2.1), .int .u8 (y.2.2.1), .bool (y.2.2.2.1), (y.2.2.2.2).1]) (fun y : Int × Int × Int × Bool × (Value × Nat × List (Int)) => (Lit.int .i64 (y.1)).wf = true ∧ (Lit.int .i64 (y.2.1)).wf = true ∧ (Lit.int .u8 (y.2.2.1)).wf = true ∧ (SlcAt W (y.2.2.2.2).1 (y.2.2.2.2).2.2.length (y.2.2.2.2).2.1 ((y.2.2.2.2).2.2.flatMap (fun y : Int => [.int .i64 y])) ∧ (y.2.2.2.2).2.2.length ≤ (y.2.2.2.2).2.1 ∧ (y.2.2.2.2).2.1 ≤ maxLen ∧ ∀ z ∈ (y.2.2.2.2).2.2, (fun y : Int => (Lit.int .i64 y).wf = true) z)) 5 (fun _ => rfl) (by decide) Tryz.underlying64 cellsOf66 (fun _ => rfl) elem66 hf0
 simp only [List.cons.injEq, and_true] at e0; subst e0
 dsimp only at z0
 have b0 : cap0 ≤ 140737488351232 := by
  obtain ⟨es, rest, ⟨hd, hl⟩ | ⟨_, h0⟩⟩ := z0
  · subst hd
    have := List.all_eq_true.1 hsz ((es.length + rest.length) * Tryz.prog.bytesOf 66) (DataW.weights_mem_each (j := 0) (t := 64) rfl rfl _ (by simp [DataW.weights, DataW.weightsAll, DataW.weightsEach, Tryz.underlying64]))
    have := of_decide_eq_true this
    rw [hl, bytesOf66] at this
    simp only [reachBytes] at this
    omega
  · omega
 clear hA0 hval0
 refine (walk _ cap0 L0 W s0 q0 b0 w0).mono fun e W' ⟨he, bel⟩ => ?_
 subst he
 exact ⟨_, rfl, _, _, _, [], _, [], hW', trodAll_mk1 (shut_bool Tryz.underlying4 _), (trodAll_cons_mk (Below.trod laidOut (by kernel_rfl) (of_decide_eq_true (by kernel_rfl)) k0 bel lt0) trodAll_mk0), rfl, bel.frame _, fun h => by cases h⟩
theorem proved : Rows.LogExactSaid :=
 OpenClaim.holds_of_wide 6 Tryz.f6 rfl rfl rfl rfl rfl rfl rfl ⟨rfl, rfl, rfl, rfl, rfl⟩ rfl rfl rfl rfl rfl (by kernel_rfl) Tryz.func6 (by kernel_rfl)
  (of_decide_eq_true (by kernel_rfl)) (by unfold Func.isWrapper; first | (rw [if_pos (by decide +kernel)]; kernel_rfl) | (rw [if_neg (by decide +kernel)]; exact ⟨rfl, rfl⟩))
  (fun os started H enc _ => lifted os started H enc)
#print axioms proved
end Go.Proofs.YtcojbjakopkfbaaGreat.logExact
