/- A generator of conditions for a walk, part 17: regions that draw their order, where some blocks are read by no operation of the region ahead of what changes them. No program in sight. -/
import Derived.Test.YtajmmolfnjdanaaGreatDoorEngU
namespace Go.Proofs.YtajmmolfnjdanaaGreatDoor
open Go.RowKit
set_option linter.unusedSimpArgs false
set_option linter.unusedVariables false
noncomputable def rmHs : List Nat → HP → HP := fun l => List.rec (motive := fun _ => HP → HP) (fun h => h) (fun b _ ih h => ih (rmH h b)) l
theorem HRel.rms {F : Nat → Prop} {B : Nat} {w0 : World} {m : BM} {n : Nat} {w : World} : ∀ (l : List Nat) {h : HP}, HRel F B w0 m h n w → HRel F B w0 m (rmHs l h) n w
  | [], _, H => H
  | b :: l, _, H => HRel.rms l (H.rm b)
/-- A REGION THAT DRAWS ITS ORDER, BY A PLAN; the blocks of the list are not held. -/
theorem reg_hold {P : Program} {T : Tab} (hT : TabOk P T) (hmix : P.follows .mixedOrders = true) {N np id : Nat} {ops : Array Oper} {K : TM → HP → Nat → Prop} {t : TM} {h : HP} {n : Nat} (drop : List Nat) (plan : List (Nat × Bool)) (hc : planChk ops.toList plan = true)
    (hv : vcPlan P T N ops.toList (planOpsD ops.toList.toArray plan) (rmHs drop h) t h n K) : RegOb P N np id ops K t h n := by
  refine ⟨fun F B w0 m w a H ht => ?_⟩
  have e : ops = ops.toList.toArray := by simp
  unfold planChk at hc
  rw [← e] at hc hv
  have H' := H.later (Below.drew' w)
  refine wp_region_planD (fun w' => HRel F B w0 m (rmHs drop h) n w') (barsOf plan) plan hmix hc (fun c a t v w hq => ?_) (H'.rms drop) ?_
  · cases hq.1
  · exact vcPlan_ok (ops := ops) hT hv m w.drew a _ (BM.le_refl m) (H'.rms drop) H' ht fun m' t' h' n' a' w' hm H' ht' hk => ⟨rfl, m', t', h', n', hm, H', ht', hk⟩
end Go.Proofs.YtajmmolfnjdanaaGreatDoor
