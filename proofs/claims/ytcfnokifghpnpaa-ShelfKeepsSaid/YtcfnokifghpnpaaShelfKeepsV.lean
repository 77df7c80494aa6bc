/- The law that a page is what was put to it last: its walk, from arguments that lie in memory. -/
import Derived.Test.YtcfnokifghpnpaaShelfKeepsW
namespace Go.Proofs.Ytcfnokifghpnpaa
open Go.RowKit
set_option linter.unusedSimpArgs false
set_option linter.unusedVariables false
namespace shelfKeeps
theorem walk (v : Value) (cap : Nat) (L : List Int) (w : World) (S : SlcAt w v L.length cap (L.flatMap (fun y : Int => [.int .i64 y]))) (hq : L.length ≤ cap) (hb : cap ≤ 140737488351232) (_hw : ∀ y ∈ L, (fun y : Int => (Lit.int .i64 y).wf = true) y) :
    Calls Try.prog 8 #[v] w fun e w' => e = .returned (.bool true) ∧ Below w.heap.size w w' := by
  rw [flatMap_one] at S
  obtain ⟨m, _, H, _, hv⟩ := (HRel.start w).see (fun i it e => by cases e) S (flat_map (fun _ => rfl) L)
  exact law_of (cs := [v]) (shelfKeeps_c L cap (by omega)) H ⟨(VR.of0 rfl).2 hv, trivial⟩ (fun v hh m ⟨_, hz, h, _⟩ => by rw [h, hz])
end shelfKeeps
end Go.Proofs.Ytcfnokifghpnpaa
