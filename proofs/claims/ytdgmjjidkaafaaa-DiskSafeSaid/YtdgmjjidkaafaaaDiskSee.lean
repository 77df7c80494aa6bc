/- The disk's laws: the acts as they came in. -/
import Derived.Test.YtdgmjjidkaafaaaDiskFilled
import Derived.OpenShut
namespace Go.Proofs.Ytdgmjjidkaafaaa
open Go.RowKit
set_option linter.unusedSimpArgs false
set_option linter.unusedVariables false
abbrev ActF (w : World) (y : ActT) : Prop := (Lit.int .i64 (y.1)).wf = true ∧ (y.2.1).size ≤ maxLen ∧ (Lit.int .i64 (y.2.2.1)).wf = true ∧ (Lit.int .u8 (y.2.2.2.1)).wf = true ∧ (Lit.int .i64 (y.2.2.2.2.1)).wf = true ∧ (SlcAt w (y.2.2.2.2.2).1 (y.2.2.2.2.2).2.2.length (y.2.2.2.2.2).2.1 ((y.2.2.2.2.2).2.2.flatMap (fun y : Int => [.int .i64 y])) ∧ (y.2.2.2.2.2).2.2.length ≤ (y.2.2.2.2.2).2.1 ∧ (y.2.2.2.2.2).2.1 ≤ maxLen ∧ ∀ z ∈ (y.2.2.2.2.2).2.2, (fun y : Int => (Lit.int .i64 y).wf = true) z)
theorem ActF.slc {w : World} {y : ActT} (h : ActF w y) : SlcIn w.heap.size w y.2.2.2.2.2.1 y.2.2.2.2.2.2.2.length y.2.2.2.2.2.2.1 (y.2.2.2.2.2.2.2.map iv) := by
  have := h.2.2.2.2.2.1
  rw [flatMap_one] at this
  exact this.slcIn
theorem ActF.ok {w : World} {y : ActT} (h : ActF w y) : ActOk y :=
  ⟨bounds_i64 h.1, bounds_i64 h.2.2.1, bounds_u8 h.2.2.2.1, bounds_i64 h.2.2.2.2.1, Nat.le_trans h.2.2.2.2.2.2.1 h.2.2.2.2.2.2.2.1, h.slc.slice⟩
theorem rsl_V1 {m : BM} {p : Option Addr} {l k : Nat} : V1 m (rsl (.slice p l k)) (.slice p l k) := by
  have h := (rsl_V0 (m := m) (p := p) (l := l) (k := k)).2 rfl
  cases p with
  | none => exact (V1.of0 rfl).2 h
  | some a => exact (V1.of0 rfl).2 h
theorem acts_LR {m : BM} : ∀ {L : List ActT}, (∀ y ∈ L, ∃ p, y.2.2.2.2.2.1 = .slice p y.2.2.2.2.2.2.2.length y.2.2.2.2.2.2.1) → LR (V1 m) (L.flatMap actV) (L.flatMap actW)
  | [], _ => trivial
  | y :: L, h => by
    rw [List.flatMap_cons, List.flatMap_cons]
    refine LR.append ?_ (acts_LR fun z hz => h z (.tail _ hz))
    obtain ⟨p, hp⟩ := h y (.head _)
    exact ⟨(V1.flat rfl).2 rfl, (V1.flat rfl).2 rfl, (V1.flat rfl).2 rfl, (V1.flat rfl).2 rfl, (V1.flat rfl).2 rfl, by rw [hp]; exact rsl_V1, trivial⟩
/-- The acts, and what is known of them. -/
theorem acts_see {F : Nat → Prop} {B : Nat} {w0 : World} {m : BM} {h : HP} {n : Nat} {w : World} (H : HRel F B w0 m h n w) (hv : ∀ i it, lkH h i = some it → it.mine = false) {L : List ActT} {v : Value} {cap : Nat} (S : SlcAt w v L.length cap (L.flatMap actW)) (hw : ∀ y ∈ L, ActF w y) :
    ∃ m', m.le m' ∧ HRel F B w0 m' ((n + 1, actsI w.heap.size L) :: (n, .lview (L.flatMap actV)) :: h) (n + 1 + 1) w ∧ V0 m' (mslice n L.length cap) v := by
  obtain ⟨m1, l1, H1, hv1, hs⟩ := H.seeR hv S (fun m => acts_LR (m := m) fun y hy => (hw y hy).slc.slice)
  obtain ⟨m2, l2, H2, _⟩ := H1.fact hv1 (fun b => b < w.heap.size) (ActsAt w.heap.size L) (fun _ h => h) (ActsAt.stab _ _) (fun y hy => (hw y hy).slc)
  exact ⟨m2, fun a b c e => l2 _ _ _ (l1 _ _ _ e), H2, hs.mono l2⟩
end Go.Proofs.Ytdgmjjidkaafaaa
