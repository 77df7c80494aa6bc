/- The law on every row of calls: its walk, from arguments that lie in memory. -/
import Derived.Test.YtcfnokifghpnpaaSpareExactW
namespace Go.Proofs.Ytcfnokifghpnpaa
open Go.RowKit
set_option linter.unusedSimpArgs false
set_option linter.unusedVariables false
namespace spareExact
theorem walk (m p t x r c : Int) (v1 : Value) (cap1 : Nat) (L1 : List (Int × ByteArray)) (v2 : Value) (cap2 : Nat) (L2 : List Int) (w : World) (_w0 : (Lit.int .i64 m).wf = true) (_w1 : (Lit.int .i64 p).wf = true) (_w2 : (Lit.int .i64 t).wf = true) (_w3 : (Lit.int .i64 x).wf = true) (_w4 : (Lit.int .i64 r).wf = true) (_w5 : (Lit.int .u64 c).wf = true)
    (S1 : SlcAt w v1 L1.length cap1 (L1.flatMap (fun y : Int × ByteArray => [.int .i64 y.1, .string y.2]))) (q1 : L1.length ≤ cap1) (b1 : cap1 ≤ 140737488351232) (_w6 : ∀ y ∈ L1, (fun y : Int × ByteArray => (Lit.int .i64 y.1).wf = true ∧ y.2.size ≤ maxLen) y)
    (S2 : SlcAt w v2 L2.length cap2 (L2.flatMap (fun y : Int => [.int .i64 y]))) (q2 : L2.length ≤ cap2) (b2 : cap2 ≤ 140737488351232) (_w7 : ∀ y ∈ L2, (fun y : Int => (Lit.int .i64 y).wf = true) y) :
    Calls Try.prog 4 #[headV m p t x r c, v1, v2] w fun e w' => e = .returned (.bool true) ∧ Below w.heap.size w w' := by
  rw [flatMap_one] at S2
  obtain ⟨m1, hl1, H1, hm1, hv1⟩ := (HRel.start w).see (fun i it e => by cases e) S1 (flat_bind (f := pgv) (fun _ => rfl) L1)
  obtain ⟨m2, hl2, H2, hm2, hv2⟩ := H1.see hm1 S2 (flat_map (fun _ => rfl) L2)
  have H3 := H2.sub_of (h' := [(0, .lview (L1.flatMap pgv)), (1, .lview (L2.map iv))]) (fun i it e => by
    match i, e with
    | 0, e => exact e
    | 1, e => exact e
    | k + 2, e => cases e)
  exact law_of (cs := [headV m p t x r c, v1, v2]) (spareExact_c m p t x r c L1 cap1 L2 cap2 (by omega) (by omega)) H3 ⟨VR.same rfl, (VR.of0 rfl).2 (hv1.mono hl2), (VR.of0 rfl).2 hv2, trivial⟩ (fun v hh m ⟨_, hz, h, _⟩ => by rw [h, hz])
end spareExact
end Go.Proofs.Ytcfnokifghpnpaa
