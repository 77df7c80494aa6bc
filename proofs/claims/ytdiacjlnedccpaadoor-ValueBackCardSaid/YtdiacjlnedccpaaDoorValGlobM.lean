/- The library's own variable that holds a number, from the world's shape; a law that reads the four. -/
import Derived.Test.YtdiacjlnedccpaaDoorValKey
import Derived.Test.YtdiacjlnedccpaaDoorValOrderW
import Derived.Test.YtdiacjlnedccpaaDoorFrameS
namespace Go.Proofs.YtdiacjlnedccpaaDoor
open Go.RowKit
set_option linter.unusedSimpArgs false
set_option linter.unusedVariables false
theorem cell_at {g : Nat} {W : World} {v : Value} (h : W.cell? ⟨g, 0, none⟩ = some v) : ∃ o, W.heap[g]? = some o ∧ ∀ w : World, w.heap[g]? = some o → w.cell? ⟨g, 0, none⟩ = some v := by
  unfold World.cell? at *
  dsimp only at *
  cases hg : W.heap[g]? with
  | none => rw [hg] at h; cases h
  | some o =>
    refine ⟨o, rfl, fun w hw => ?_⟩
    rw [hg] at h; rw [hw]; exact h
theorem laid_max {W : World} (SH : W.ShapedOpen Tryd.prog) : ∃ o, W.heap[0]? = some o ∧ MaxAt 0 o := by
  obtain ⟨m, hm⟩ := Tryd.laysM155.s1_3 W SH
  obtain ⟨o, ho, hc⟩ := cell_at (g := 0) hm
  exact ⟨o, ho, fun w hw => ⟨m, hc w hw⟩⟩
theorem law_globM {f : FuncId} {args : List Value} {W : World} (G : Glob W) {oM : Obj} (wM : W.heap[0]? = some oM) (C : CallOb Tryd.prog f args [(0, .gv G.gP G.oP), (1, .gv G.gR G.oR), (2, .gv G.gS G.oS), (3, .gv 0 oM)] 4 (fun v hh m => ∃ z : Bool, z = true ∧ v = .bool z ∧ hh = [] ∧ m = 4)) (ha : args.all flatR = true) :
    Calls Tryd.prog f args.toArray W fun e w' => e = .returned (.bool true) ∧ Below W.heap.size W w' := by
  obtain ⟨m1, _, H1, v1⟩ := (HRel.start W).gvar (fun i it e => by cases e) G.wP
  obtain ⟨m2, _, H2, v2⟩ := H1.gvar v1 G.wR
  obtain ⟨m3, _, H3, v3⟩ := H2.gvar v2 G.wS
  obtain ⟨m4, _, H4, v4⟩ := H3.gvar v3 wM
  refine law_of C (H4.sub_of (fun i it e => ?_)) (LR.flat ha) (fun v hh m ⟨_, hz, h, _⟩ => by rw [h, hz])
  match i, e with
  | 0, e => exact e
  | 1, e => exact e
  | 2, e => exact e
  | 3, e => exact e
  | n + 4, e => exact absurd e (by intro h; cases h)
end Go.Proofs.YtdiacjlnedccpaaDoor
