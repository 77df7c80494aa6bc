/- The law that no page is had twice: its walk, from arguments that lie in memory. -/
import Derived.Test.YtcfnokifghpnpaaShelfOnceW
namespace Go.Proofs.Ytcfnokifghpnpaa
open Go.RowKit
set_option linter.unusedSimpArgs false
set_option linter.unusedVariables false
namespace shelfOnce
theorem walk (limit : Int) (v : Value) (cap : Nat) (L : List Bool) (w : World) (w0 : (Lit.int .i64 limit).wf = true) (S : SlcAt w v L.length cap (L.flatMap (fun y : Bool => [.bool y]))) (hq : L.length ≤ cap) (hb : cap ≤ 140737488351232) (_hw : ∀ y ∈ L, (fun y : Bool => True) y) :
    Calls Try.prog 10 #[.int .i64 limit, v] w fun e w' => e = .returned (.bool true) ∧ Below w.heap.size w w' := by
  rw [flatMap_one] at S
  obtain ⟨m, _, H, _, hv⟩ := (HRel.start w).see (fun i it e => by cases e) S (flat_map (fun _ => rfl) L)
  have hl : -9223372036854775808 ≤ limit ∧ limit ≤ 9223372036854775807 := bounds_i64 w0
  exact law_of (cs := [.int .i64 limit, v]) (shelfOnce_c limit hl L cap (by omega)) H ⟨VR.same rfl, (VR.of0 rfl).2 hv, trivial⟩ (fun v hh m ⟨_, hz, h, _⟩ => by rw [h, hz])
end shelfOnce
end Go.Proofs.Ytcfnokifghpnpaa
