/- The law that armed calls fail and change nothing: its walk, from arguments that lie in memory. -/
import Derived.Test.YtcfnokifghpnpaaShelfFailsW
namespace Go.Proofs.Ytcfnokifghpnpaa
open Go.RowKit
set_option linter.unusedSimpArgs false
set_option linter.unusedVariables false
namespace shelfFails
theorem walk (v1 : Value) (cap1 : Nat) (L1 : List (Int × Int × ByteArray × Bool)) (a1 : Int) (v2 : Value) (cap2 : Nat) (L2 : List (Int × Int × ByteArray × Bool)) (w : World) (S1 : SlcAt w v1 L1.length cap1 (L1.flatMap (fun y : Int × Int × ByteArray × Bool => [.int .i64 y.1, .int .i64 y.2.1, .string y.2.2.1, .bool y.2.2.2]))) (q1 : L1.length ≤ cap1) (b1 : cap1 ≤ 140737488351232) (f1 : ∀ y ∈ L1, (fun y : Int × Int × ByteArray × Bool => (Lit.int .i64 y.1).wf = true ∧ (Lit.int .i64 y.2.1).wf = true ∧ y.2.2.1.size ≤ maxLen) y) (wa : (Lit.int .i64 a1).wf = true) (S2 : SlcAt w v2 L2.length cap2 (L2.flatMap (fun y : Int × Int × ByteArray × Bool => [.int .i64 y.1, .int .i64 y.2.1, .string y.2.2.1, .bool y.2.2.2]))) (q2 : L2.length ≤ cap2) (b2 : cap2 ≤ 140737488351232) (f2 : ∀ y ∈ L2, (fun y : Int × Int × ByteArray × Bool => (Lit.int .i64 y.1).wf = true ∧ (Lit.int .i64 y.2.1).wf = true ∧ y.2.2.1.size ≤ maxLen) y) :
    Calls Try.prog 9 #[v1, .int .i64 a1, v2] w fun e w' => e = .returned (.bool true) ∧ Below w.heap.size w w' := by
  obtain ⟨m1, hl1, H1, hm1, hv1⟩ := (HRel.start w).see (fun i it e => by cases e) S1 (flat_bindF (f := actv) (fun _ => rfl) L1)
  obtain ⟨m2, hl2, H2, hm2, hv2⟩ := H1.see hm1 S2 (flat_bindF (f := actv) (fun _ => rfl) L2)
  have H3 := H2.sub_of (h' := [(0, .lview (L1.flatMap actv)), (1, .lview (L2.flatMap actv))]) (fun i it e => by
    match i, e with
    | 0, e => exact e
    | 1, e => exact e
    | k + 2, e => cases e)
  exact law_of (cs := [v1, .int .i64 a1, v2]) (shelfFails_c L1 L2 cap1 cap2 a1 (bounds_i64 wa) (by omega) (by omega) (fun y hy => (f1 y hy).2.2) (fun y hy => (f2 y hy).2.2)) H3 ⟨(VR.of0 rfl).2 (hv1.mono hl2), VR.same rfl, (VR.of0 rfl).2 hv2, trivial⟩ (fun v hh m ⟨_, hz, h, _⟩ => by rw [h, hz])
end shelfFails
end Go.Proofs.Ytcfnokifghpnpaa
