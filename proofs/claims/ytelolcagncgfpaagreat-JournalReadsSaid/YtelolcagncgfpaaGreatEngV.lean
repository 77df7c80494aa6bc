/- A generator of conditions for a walk, part 17: regions that draw their order, where some blocks are read by no operation of the region ahead of what changes them. No program in sight. -/
import Derived.Test.YtelolcagncgfpaaGreatEngU
import Derived.Test.YtelolcagncgfpaaGreatEngT
namespace Go.Proofs.YtelolcagncgfpaaGreat
open Go.RowKit
set_option linter.unusedSimpArgs false
set_option linter.unusedVariables false
noncomputable def rmHs : List Nat → HP → HP := fun l => List.rec (motive := fun _ => HP → HP) (fun h => h) (fun b _ ih h => ih (rmH h b)) l
theorem HRel.rms {F : Nat → Prop} {B : Nat} {w0 : World} {m : BM} {n : Nat} {w : World} : ∀ (l : List Nat) {h : HP}, HRel F B w0 m h n w → HRel F B w0 m (rmHs l h) n w
 | [], _, H => H
 | b :: l, _, H => HRel.rms l (H.rm b)
theorem reg_hold {P : Program} {T : Tab} (hT : TabOk P T) (hmix : P.follows .mixedOrders = true) {N np id : Nat} {ops : Array Oper} {K : TM → HP → Nat → Prop} {t : TM} {h : HP} {n : Nat} (drop : List Nat) (plan : List (Nat × Bool)) (hc : planChk ops.toList plan = true)
 (hv : vcPlan P T N ops.toList (planOpsD ops.toList.toArray plan) (rmHs drop h) t h n K) : RegOb P N np id ops K t h n := by
 refine ⟨fun ds F B w0 m w a H ht => ?_⟩
 have e : ops = ops.toList.toArray := by simp
 unfold planChk at hc
 rw [← e] at hc hv
 have H' := H.later (Below.drew' w)
 refine wp_region_planD (fun w' => HRel F B w0 m (rmHs drop h) n w') (barsOf plan) plan hmix hc (fun c a t v w hq => ?_) (H'.rms drop) ?_
 · cases hq.1
 · exact vcPlan_ok (ops := ops) hT hv m w.drew a _ (BM.le_refl m) (H'.rms drop) H' ht fun m' t' h' n' a' w' hm H' ht' hk => ⟨rfl, m', t', h', n', hm.leN, H', ht', hk⟩
theorem reg_join {P : Program} {T : Tab} (hT : TabOk P T) (hmix : P.follows .mixedOrders = true) {N np id : Nat} {ops : Array Oper} {K : TM → HP → Nat → Prop} {t : TM} {h : HP} {n : Nat} (drop : List Nat) (p : PT) (hc : ptChk ops.toList p = true)
 {α : Type} (n1 : Nat) (I : α → TM) (J : α → HP) (E : α → Prop) (hv : vcPT P T N ops.toList p (rmHs drop h) t h n (fun t h _ => Gone np n1 I J E t h)) (after : ∀ x, E x → K (I x) (J x) n1) : RegOb P N np id ops K t h n := by
 refine ⟨fun ds F B w0 m w a H ht => ?_⟩
 unfold ptChk at hc
 rw [show ops.toList.toArray = ops by simp] at hc
 simp only [Bool.and_eq_true] at hc
 obtain ⟨⟨h1, h2⟩, h3⟩ := hc
 have hdc : DC ops (Array.replicate ops.size false) := by
  intro j o ho hj
  have hlt : j < ops.size := by
   rcases Nat.lt_or_ge j ops.size with h | h
   · exact h
   · rw [Array.getElem?_eq_none h] at ho; cases ho
  simp [hlt] at hj
 have H' := H.later (Below.drew' w)
 have hw := vcPT_ok (ops := ops) hT hv m w.drew a (fun e a' w' => e = .normal ∧ ∃ m' t' h' n', BM.leN np m m' ∧ HRel F B w0 m' h' n' w' ∧ TD ds m' N t' a' ∧ K t' h' n') (BM.le_refl m) (H'.rms drop) H' ht fun m' t' h' n' a' w' hm H' ht' hk => by
  cases hk with
  | no h => exact h.elim
  | go x hE L s => exact ⟨rfl, _, _, _, _, BM.leN_trans hm.leN (via_leN m' np L), H'.sub s.ok s.oki s.hp, ht'.sub s.tm, after x hE⟩
 have := PT.sound (P := P) h1 (fun c a t v w hq => by cases hq.1) p _ _ a w.drew h3 hdc (H'.rms drop) hw
 exact wp_region_any hmix (wpAny_of_D _ _ _ _ _ (wpAnyD_more (Nat.le_of_ble_eq_true h2) this))
end Go.Proofs.YtelolcagncgfpaaGreat
