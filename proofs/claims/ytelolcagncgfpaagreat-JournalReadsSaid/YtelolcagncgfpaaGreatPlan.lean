/- A region that draws its order, walked in one order of our choice: operations that yield a value in every world that meets S, and leave it, are taken as they come up; another operation is carried out where it alone can come up. No program in sight. -/
import Derived.OrdersHeld
import Derived.Deep.RegionHeld3
import Derived.Test.YtelolcagncgfpaaGreatBase
namespace Go.Proofs.YtelolcagncgfpaaGreat
section
variable {P : Program} {ops : Array Oper} {Q : Exit → Act → World → Prop} {S : World → Prop}
def planB (ops : Array Oper) : List (Nat × Bool) → Array Bool → Bool
 | [], listed => (Region.ready .any ops listed).isEmpty
 | (i, true) :: rest, listed => Region.free .any ops listed i && (Region.ready .any ops listed).contains i && planB ops rest (listed.setIfInBounds i true)
 | (i, false) :: rest, listed => (Region.ready .any ops listed == [i]) && planB ops rest (listed.setIfInBounds i true)
def planOps (l : List Oper) (plan : List (Nat × Bool)) : List (Bool × Oper) := plan.map fun x => (x.2, l.getD x.1 default)
def wpPlan (P : Program) (ops : Array Oper) (Q : Exit → Act → World → Prop) (S : World → Prop) : List (Bool × Oper) → Act → World → Prop
 | [], a, w => Q .normal a w
 | (true, o) :: rest, a, w => ∃ v, YieldsIf P ops S o v a ∧ wpPlan P ops Q S rest (a.put o.dst v) w
 | (false, o) :: rest, a, w => if Region.wanted o (yielded ops a.tmps) = true then Oper.wp P o a w (fun a' w' => S w' ∧ wpPlan P ops Q S rest a' w') Q else wpPlan P ops Q S rest (a.put o.dst undef) w
theorem getD_of_ready {l : List Oper} {listed : Array Bool} {i : Nat} (h : i ∈ Region.ready .any l.toArray listed) : l.toArray[i]? = some (l.getD i default) := by
 obtain ⟨_, o, ho, _⟩ := mem_ready.1 h
 rw [ho]
 simp at ho
 simp [List.getD, ho]
theorem plan_sound {l : List Oper} (hsel : Region.noSelect l.toArray = true) (hQ : ∀ (c : List PanicEntry) (a : Act) (t : Tmp) (v : Value) (w : World), Q (.panic c) (a.put (some t) v) w → Q (.panic c) a w) :
 ∀ (plan : List (Nat × Bool)) (listed : Array Bool) (a : Act) (w : World), planB l.toArray plan listed = true → S w →
  wpPlan P l.toArray Q S (planOps l plan) a w → wpAnyH P .any l.toArray Q S plan.length listed a w := by
 intro plan
 induction plan with
 | nil =>
  intro listed a w hp hS h
  exact wpAnyH_done (by simpa [planB] using hp) h 0
 | cons x rest ih =>
  intro listed a w hp hS h
  obtain ⟨i, b⟩ := x
  cases b with
  | true =>
   simp only [planB, Bool.and_eq_true] at hp
   obtain ⟨⟨hf, hr⟩, hrest⟩ := hp
   have hmem : i ∈ Region.ready .any l.toArray listed := by simpa using hr
   have hi := getD_of_ready hmem
   obtain ⟨v, hy, hw⟩ := h
   refine wpAnyH_take hi hsel hf hr (fun c a w => ?_) hy hS (ih _ _ _ hrest hS hw)
   cases (l.getD i default).dst with
   | none => exact fun h => h
   | some t => exact hQ c a t v w
  | false =>
   simp only [planB, Bool.and_eq_true, beq_iff_eq] at hp
   obtain ⟨hr, hrest⟩ := hp
   have hi := getD_of_ready (l := l) (listed := listed) (i := i) (by rw [hr]; simp)
   refine wpAnyH_all hr (by simp) ?_
   intro j hj
   obtain rfl : j = i := by simpa using hj
   unfold wpOp
   simp only [hi]
   change (if Region.wanted (l.getD j default) (yielded l.toArray a.tmps) = true then Oper.wp P (l.getD j default) a w (fun a' w' => S w' ∧ wpPlan P l.toArray Q S (planOps l rest) a' w') Q else wpPlan P l.toArray Q S (planOps l rest) (a.put (l.getD j default).dst undef) w) at h
   split
   · rename_i hw
     rw [if_pos hw] at h
     exact .inl (Oper.wp_mono (fun a' w' ⟨h1, h2⟩ => ⟨h1, ih _ _ _ hrest h1 h2⟩) h)
   · rename_i hw
     rw [if_neg hw] at h
     exact ⟨hS, ih _ _ _ hrest hS h⟩
theorem wp_region_plan {id : Nat} {a : Act} {w : World} {l : List Oper} (S : World → Prop) (plan : List (Nat × Bool)) (hm : P.follows .mixedOrders = true)
 (hB : (Region.noSelect l.toArray && (plan.length == l.length) && planB l.toArray plan (Array.replicate l.toArray.size false)) = true)
 (hQ : ∀ (c : List PanicEntry) (a : Act) (t : Tmp) (v : Value) (w : World), Q (.panic c) (a.put (some t) v) w → Q (.panic c) a w)
 (hS : S w.drew) (h : wpPlan P l.toArray Q S (planOps l plan) a w.drew) : (Code.region id l.toArray true).wp P Q a w := by
 simp only [Bool.and_eq_true, beq_iff_eq] at hB
 obtain ⟨⟨h1, h2⟩, h3⟩ := hB
 refine wp_region_held (S := S) hm ?_
 have := plan_sound (S := S) (P := P) h1 hQ plan _ a w.drew h3 hS h
 rw [h2] at this
 simpa using this
theorem wpPlan_pure {o : Oper} {rest : List (Bool × Oper)} {a : Act} {w : World}
 (h : ∀ K : Act → Prop, (∀ a', wpPlan P ops Q S rest a' w → K a') →
  (Region.wanted o (yielded ops a.tmps) = true ∧ ∃ v, (∀ w', S w' → (execOp a.eval o).run P w' = .ok (.value v) w') ∧ K (a.put o.dst v)) ∨
  (Region.wanted o (yielded ops a.tmps) = false ∧ K (a.put o.dst undef))) : wpPlan P ops Q S ((true, o) :: rest) a w := by
 rcases h (fun a' => wpPlan P ops Q S rest a' w) (fun _ h => h) with ⟨hw, v, hv, hk⟩ | ⟨hw, hk⟩
 · exact ⟨v, .inl ⟨hw, hv⟩, hk⟩
 · exact ⟨undef, .inr ⟨hw, rfl⟩, hk⟩
theorem wpPlan_lone {o : Oper} {rest : List (Bool × Oper)} {a : Act} {w : World}
 (h : ∀ K : Act → World → Prop, (∀ a' w', S w' → wpPlan P ops Q S rest a' w' → K a' w') → Region.wanted o (yielded ops a.tmps) = true ∧ Oper.wp P o a w K Q) :
 wpPlan P ops Q S ((false, o) :: rest) a w := by
 obtain ⟨hw, h⟩ := h (fun a' w' => S w' ∧ wpPlan P ops Q S rest a' w') (fun _ _ h1 h2 => ⟨h1, h2⟩)
 show (if Region.wanted o (yielded ops a.tmps) = true then _ else _)
 rw [if_pos hw]
 exact h
theorem wpPlan_omit {o : Oper} {rest : List (Bool × Oper)} {a : Act} {w : World} (hw : Region.wanted o (yielded ops a.tmps) = false)
 (h : ∀ K : Act → Prop, (∀ a', wpPlan P ops Q S rest a' w → K a') → K (a.put o.dst undef)) : wpPlan P ops Q S ((false, o) :: rest) a w := by
 show (if Region.wanted o (yielded ops a.tmps) = true then _ else _)
 rw [if_neg (by rw [hw]; decide)]
 exact h (fun a' => wpPlan P ops Q S rest a' w) (fun _ h => h)
theorem wpPlan_nil {a : Act} {w : World} (h : Q .normal a w) : wpPlan P ops Q S [] a w := h
end
end Go.Proofs.YtelolcagncgfpaaGreat
