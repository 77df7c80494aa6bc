/- The program's variables, each at its own block: seen, and handed to contracts that read them. -/
import Derived.Test.YtajmmolfnjdanaaGreatDoorEngV
namespace Go.Proofs.YtajmmolfnjdanaaGreatDoor
open Go.RowKit
theorem HRel.gvar {F : Nat → Prop} {B : Nat} {w0 : World} {m : BM} {h : HP} {n : Nat} {w : World} (H : HRel F B w0 m h n w) (hv : ∀ i it, lkH h i = some it → it.mine = false) {g : Nat} {o : Obj} (hg : w.heap[g]? = some o) :
    ∃ m', m.le m' ∧ HRel F B w0 m' ((n, .gv g o) :: h) (n + 1) w ∧ (∀ i it, lkH ((n, .gv g o) :: h) i = some it → it.mine = false) := by
  have hmine : ∀ i it, lkH ((n, .gv g o) :: h) i = some it → it.mine = false := fun i it e => by
    by_cases hi : n = i
    · subst hi
      have : it = .gv g o := by simpa [lkH] using e.symm
      subst this; rfl
    · unfold lkH at e
      rw [beq_no hi] at e
      exact hv i it e
  refine ⟨m.put n g 0, BM.le_put _ _ _ _, ⟨H.keep, H.base, ?_, ?_, ?_, ?_⟩, hmine⟩
  · rintro i g1 s1 g2 s2 (x | ⟨rfl, rfl, rfl⟩) (y | ⟨e, rfl, rfl⟩)
    · exact H.fn _ _ _ _ _ x y
    · have := H.fresh _ _ _ x; omega
    · have := H.fresh _ _ _ y; omega
    · exact ⟨rfl, rfl⟩
  · rintro i g1 s1 (x | ⟨rfl, -, -⟩)
    · have := H.fresh _ _ _ x; omega
    · omega
  · intro i it e
    by_cases hi : n = i
    · subst hi
      have : it = .gv g o := by simpa [lkH] using e.symm
      subst this
      exact ⟨g, 0, .inr ⟨rfl, rfl, rfl⟩, rfl, rfl, hg⟩
    · unfold lkH at e
      rw [beq_no hi] at e
      obtain ⟨g', s', x, ok'⟩ := H.dom i it e
      exact ⟨g', s', .inl x, ok'.mono (BM.le_put m n g 0)⟩
  · intro i it j jt g1 s1 s2 e hm
    rw [hmine i it e] at hm; cases hm
/-- What stands at a variable's block. -/
theorem HRel.var {F : Nat → Prop} {B : Nat} {w0 : World} {m : BM} {h : HP} {n : Nat} {w : World} (H : HRel F B w0 m h n w) {i g : Nat} {o : Obj} (e : lkH h i = some (.gv g o)) : w.heap[g]? = some o := by
  obtain ⟨g', s, _, rfl, _, ho⟩ := H.dom i _ e
  exact ho
/-- A call that reads variables and gives what holds no address. -/
theorem call_var {P : Program} {f : FuncId} (hok : FnOk P f) {args : List Value} {h : HP} {n : Nat} {K : Value → HP → Nat → Prop} {v : Value} (hc : ∀ w, (∀ i g o, lkH h i = some (.gv g o) → w.heap[g]? = some o) → Calls P f args.toArray w fun e w' => e = .returned v ∧ Below w.heap.size w w')
    (ha : args.all flatR = true) (hv : flatR v = true) (hk : K v h n) : CallOb P f args h n K :=
  ⟨hok, fun F B w0 m w cs H hcs => by
    rw [LR.flat_eq ha hcs]
    refine (hc w (fun i g o e => H.var e)).mono ?_
    rintro e w' ⟨rfl, hb⟩
    exact ⟨m, v, v, h, n, rfl, BM.le_refl m, VR.same hv, H.later hb, hk⟩⟩
end Go.Proofs.YtajmmolfnjdanaaGreatDoor
