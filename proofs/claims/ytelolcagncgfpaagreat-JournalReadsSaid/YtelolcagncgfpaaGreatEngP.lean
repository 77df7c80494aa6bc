/- A region that draws its order, walked in one order of our choice; what holds of the world may be another thing behind an operation that waits for all that was read. No program in sight. -/
import Derived.Test.YtelolcagncgfpaaGreatEngI
namespace Go.Proofs.YtelolcagncgfpaaGreat
open Go.RowKit
set_option linter.unusedSimpArgs false
set_option linter.unusedVariables false
section
variable {P : Program} {ops : Array Oper} {Q : Exit → Act → World → Prop}
def aft (ops : Array Oper) (e : Nat) : List Nat := match ops[e]? with
 | some o => (o.after.toList.filter fun x => Region.binds .any x).map fun x => x.on
 | none => []
def bfs (ops : Array Oper) : Nat → List Nat → List Nat → List Nat
 | 0, _, vis => vis
 | _ + 1, [], vis => vis
 | k + 1, x :: fr, vis => match vis.any (fun y => Nat.beq y x) with
  | true => bfs ops k fr vis
  | false => bfs ops k (aft ops x ++ fr) (x :: vis)
def reachB (ops : Array Oper) (k e i : Nat) : Bool := (bfs ops k (aft ops e) []).any fun y => Nat.beq y i
def DC (ops : Array Oper) (listed : Array Bool) : Prop := ∀ j o, ops[j]? = some o → listed.getD j true = true → ∀ e ∈ o.after, Region.binds .any e = true → listed.getD e.on false = true
theorem getD_both {listed : Array Bool} {i : Nat} (h : listed.getD i true = false) (h' : listed.getD i false = true) : False := by
 rcases Nat.lt_or_ge i listed.size with hi | hi
 · simp [hi] at h h'; rw [h] at h'; cases h'
 · simp [Array.getElem?_eq_none hi] at h
theorem getD_up {listed : Array Bool} {i : Nat} (h : listed.getD i false = true) : listed.getD i true = true := by
 cases e : listed.getD i true with
 | true => rfl
 | false => exact (getD_both e h).elim
theorem bfs_listed {listed : Array Bool} (hdc : DC ops listed) : ∀ (k : Nat) (fr vis : List Nat), (∀ x ∈ fr, listed.getD x false = true) → (∀ x ∈ vis, listed.getD x false = true) → ∀ x ∈ bfs ops k fr vis, listed.getD x false = true
 | 0, _, _, _, hv => hv
 | _ + 1, [], _, _, hv => hv
 | k + 1, y :: fr, vis, hf, hv => by
  unfold bfs
  split
  · exact bfs_listed hdc k fr vis (fun x hx => hf x (by simp [hx])) hv
  · refine bfs_listed hdc k _ _ (fun x hx => ?_) (fun x hx => ?_)
    · rcases List.mem_append.1 hx with hx | hx
      · unfold aft at hx
        split at hx
        · rename_i o ho
          obtain ⟨z, hz, rfl⟩ := List.mem_map.1 hx
          obtain ⟨hz1, hz2⟩ := List.mem_filter.1 hz
          exact hdc y o ho (getD_up (hf y (by simp))) z (by simpa using hz1) hz2
        · cases hx
      · exact hf x (by simp [hx])
    · cases hx with
      | head => exact hf _ (by simp)
      | tail _ hx => exact hv x hx
theorem reach_listed {listed : Array Bool} (hdc : DC ops listed) (k e i : Nat) (h : reachB ops k e i = true) (hall : ∀ o, ops[e]? = some o → ∀ x ∈ o.after, Region.binds .any x = true → listed.getD x.on false = true) : listed.getD i false = true := by
 unfold reachB at h
 obtain ⟨y, hy, hyi⟩ := List.any_eq_true.1 h
 obtain rfl := Nat.eq_of_beq_eq_true hyi
 refine bfs_listed hdc k _ _ (fun x hx => ?_) (fun x hx => by cases hx) y hy
 unfold aft at hx
 split at hx
 · rename_i o ho
   obtain ⟨z, hz, rfl⟩ := List.mem_map.1 hx
   obtain ⟨hz1, hz2⟩ := List.mem_filter.1 hz
   exact hall o ho z (by simpa using hz1) hz2
 · cases hx
theorem DC.set {listed : Array Bool} (hdc : DC ops listed) {j : Nat} (hj : j ∈ Region.ready .any ops listed) : DC ops (listed.setIfInBounds j true) := by
 intro k o ho hk e he hb
 obtain ⟨_, oj, hoj, hall⟩ := mem_ready.1 hj
 refine getD_set_true ?_
 by_cases hkj : j = k
 · subst hkj
   rw [hoj] at ho
   cases ho
   exact hall e he hb
 · rw [getD_set_ne true hkj] at hk
   exact hdc k o ho hk e he hb
def wpAnyD (P : Program) (ops : Array Oper) (Q : Exit → Act → World → Prop) (Bs : Nat → Bool) : Nat → Array Bool → (World → Prop) → Act → World → Prop
 | 0, listed, S, a, w => Region.ready .any ops listed = [] ∧ Q .normal a w
 | fuel + 1, listed, S, a, w =>
  (Region.ready .any ops listed = [] → Q .normal a w) ∧
  ∀ i ∈ Region.ready .any ops listed, wpOp P ops Q i (fun a' w' => ∃ S', S' w' ∧ (Bs i = true ∨ S' = S) ∧ wpAnyD P ops Q Bs fuel (listed.setIfInBounds i true) S' a' w') a w
theorem wpAny_of_D {Bs : Nat → Bool} : ∀ (fuel : Nat) (listed : Array Bool) (S : World → Prop) (a : Act) (w : World), wpAnyD P ops Q Bs fuel listed S a w → wpAny P .any ops Q fuel listed a w
 | 0, _, _, _, _, h => h
 | fuel + 1, _, _, _, _, h => ⟨h.1, fun i hi => wpOp_mono (fun a' w' ⟨S', _, _, h'⟩ => wpAny_of_D fuel _ S' a' w' h') (h.2 i hi)⟩
theorem wpAnyD_first {Bs : Nat → Bool} {i : Nat} {oi : Oper} {v : Value} {C : World → Prop} (hi : ops[i]? = some oi) (hsel : ∀ (j : Nat) (o : Oper) cs b, ops[j]? = some o → o.op ≠ .select cs b)
 (hQ : ∀ c a w, Q (.panic c) (a.put oi.dst v) w → Q (.panic c) a w) :
 ∀ (fuel : Nat) (listed : Array Bool) (S : World → Prop) (a : Act) (w : World),
  (∀ j oj, ops[j]? = some oj → j ≠ i → listed.getD j true = false → (∀ e ∈ oj.after, Region.binds .any e = true → e.on ≠ i) → oi.apart ops oj = true) →
  DC ops listed → i ∈ Region.ready .any ops listed → YieldsIf P ops C oi v a → (∀ w, S w → C w) → ((∀ w, C w) ∨ ∀ j, Bs j = true → listed.getD j true = true ∨ reachB ops 400 j i = true) → S w →
  wpAnyD P ops Q Bs fuel (listed.setIfInBounds i true) S (a.put oi.dst v) w → wpAnyD P ops Q Bs (fuel + 1) listed S a w := by
 intro fuel
 induction fuel with
 | zero =>
  intro listed S a w _ _ hr hy hSC _ hS H
  refine ⟨fun h => (by rw [h] at hr; cases hr), fun j hj => ?_⟩
  by_cases hji : j = i
  · subst hji; exact hy.wpOp hi (hSC w hS) ⟨S, hS, .inr rfl, H⟩
  · have := ready_mono hj hji
    rw [H.1] at this
    cases this
 | succ fuel ih =>
  intro listed S a w hfree hdc hr hy hSC hbar hS H
  refine ⟨fun h => (by rw [h] at hr; cases hr), fun j hj => ?_⟩
  by_cases hji : j = i
  · subst hji; exact hy.wpOp hi (hSC w hS) ⟨S, hS, .inr rfl, H⟩
  · have h1 := H.2 j (ready_mono hj hji)
    obtain ⟨hjun, oj, hoj, hall⟩ := mem_ready.1 hj
    have hiun := (mem_ready.1 hr).1
    have hnot : ∀ e ∈ oj.after, Region.binds .any e = true → e.on ≠ i := fun e he hb heq => by
     have h1 := hall e he hb
     rw [heq] at h1
     exact getD_both hiun h1
    have h2 := wpOp_putIf hoj (hfree j oj hoj hji hjun hnot) (fun cs b => hsel i oi cs b hi) (fun cs b => hsel j oj cs b hoj) hQ hy h1
    have hfree' : ∀ k ok, ops[k]? = some ok → k ≠ i → (listed.setIfInBounds j true).getD k true = false →
     (∀ e ∈ ok.after, Region.binds .any e = true → e.on ≠ i) → oi.apart ops ok = true := fun k ok hk hki hun hno => by
     refine hfree k ok hk hki ?_ hno
     by_cases hjk : j = k
     · subst hjk; exact hjun
     · rw [getD_set_ne true hjk] at hun; exact hun
    have hbar' : (∀ w, C w) ∨ ∀ k, Bs k = true → (listed.setIfInBounds j true).getD k true = true ∨ reachB ops 400 k i = true := by
     rcases hbar with h | h
     · exact .inl h
     · refine .inr fun k hk => ?_
       rcases h k hk with h | h
       · left
         by_cases hjk : j = k
         · subst hjk; rw [hjun] at h; cases h
         · rw [getD_set_ne true hjk]; exact h
       · exact .inr h
    refine wpOp_mono (fun a' w' h3 => ?_) h2
    obtain ⟨hy', S', hS', hb, H'⟩ := h3
    refine ⟨S', hS', hb, ih (listed.setIfInBounds j true) S' a' w' hfree' (hdc.set hj) (ready_mono hr (Ne.symm hji)) hy' ?_ hbar' hS' ?_⟩
    · rcases hb with hb | rfl
      · rcases hbar with h | h
        · exact fun w _ => h w
        · rcases h j hb with h | h
          · rw [hjun] at h; cases h
          · exact (getD_both hiun (reach_listed hdc _ _ _ h fun o ho x hx hbx => by rw [hoj] at ho; cases ho; exact hall x hx hbx)).elim
      · exact hSC
    · rw [Array.setIfInBounds_comm _ _ hji]
      exact H'
def memOp : Op → Bool
 | .load _ _ => true
 | .convert _ _ _ => true
 | .call _ => true
 | .lookup .. => true
 | _ => false
def num1 (x : Nat) : Nat := match Nat.ble 1000 x with | true => x - 1000 | false => x
def planD (ops : Array Oper) (Bl : List Nat) : List (Nat × Bool) → Array Bool → Bool
 | [], listed => (Region.ready .any ops listed).isEmpty
 | (i, true) :: rest, listed => Region.free .any ops listed (num1 i) && (Region.ready .any ops listed).contains (num1 i) &&
  (match ops[num1 i]? with | some o => !memOp o.op || Bl.all (fun j => listed.getD j true || reachB ops 400 j (num1 i)) | none => false) && planD ops Bl rest (listed.setIfInBounds (num1 i) true)
 | (i, false) :: rest, listed => (Region.ready .any ops listed == [num1 i]) && (!Nat.ble 1000 i || Bl.contains (num1 i)) && planD ops Bl rest (listed.setIfInBounds (num1 i) true)
def barsOf (plan : List (Nat × Bool)) : List Nat := (plan.filter fun x => Nat.ble 1000 x.1).map fun x => num1 x.1
def planOpsD (ops : Array Oper) (plan : List (Nat × Bool)) : List (Bool × Bool × Oper) := plan.map fun x => (x.2, Nat.ble 1000 x.1, (ops[num1 x.1]?).getD default)
def wpPlanD (P : Program) (ops : Array Oper) (Q : Exit → Act → World → Prop) : List (Bool × Bool × Oper) → (World → Prop) → Act → World → Prop
 | [], S, a, w => Q .normal a w
 | (true, _, o) :: rest, S, a, w => ∃ v, YieldsIf P ops (match memOp o.op with | true => S | false => fun _ => True) o v a ∧ wpPlanD P ops Q rest S (a.put o.dst v) w
 | (false, bar, o) :: rest, S, a, w => if Region.wanted o (yielded ops a.tmps) = true then Oper.wp P o a w (fun a' w' => ∃ S', S' w' ∧ (bar = true ∨ S' = S) ∧ wpPlanD P ops Q rest S' a' w') Q else wpPlanD P ops Q rest S (a.put o.dst undef) w
theorem planD_sound {Bl : List Nat} (hsel : Region.noSelect ops = true) (hQ : ∀ (c : List PanicEntry) (a : Act) (t : Tmp) (v : Value) (w : World), Q (.panic c) (a.put (some t) v) w → Q (.panic c) a w) :
 ∀ (plan : List (Nat × Bool)) (listed : Array Bool) (S : World → Prop) (a : Act) (w : World), planD ops Bl plan listed = true → DC ops listed → S w →
  wpPlanD P ops Q (planOpsD ops plan) S a w → wpAnyD P ops Q (fun i => Bl.contains i) plan.length listed S a w := by
 intro plan
 induction plan with
 | nil =>
  intro listed S a w hp hdc hS h
  exact ⟨by simpa [planD] using hp, h⟩
 | cons x rest ih =>
  intro listed S a w hp hdc hS h
  obtain ⟨i0, b⟩ := x
  obtain ⟨i, hi0⟩ : ∃ i, num1 i0 = i := ⟨_, rfl⟩
  cases b with
  | true =>
   simp only [planD, Bool.and_eq_true, hi0] at hp
   obtain ⟨⟨⟨hf, hr⟩, hm⟩, hrest⟩ := hp
   have hmem : i ∈ Region.ready .any ops listed := by simpa using hr
   obtain ⟨hun, o, ho, hall⟩ := mem_ready.1 hmem
   have h' : ∃ v, YieldsIf P ops (match memOp o.op with | true => S | false => fun _ => True) o v a ∧ wpPlanD P ops Q (planOpsD ops rest) S (a.put o.dst v) w := by
    have h2 := h
    simp only [planOpsD, List.map_cons, wpPlanD, hi0, ho, Option.getD_some] at h2
    exact h2
   obtain ⟨v, hy, hw⟩ := h'
   rw [ho] at hm
   dsimp only at hm
   have hQ' : ∀ c a w, Q (.panic c) (a.put o.dst v) w → Q (.panic c) a w := by
    intro c a w
    cases o.dst with
    | none => exact fun h => h
    | some t => exact hQ c a t v w
   refine wpAnyD_first ho (Region.noSelect_spec hsel) hQ' rest.length listed S a w (Region.free_spec ho hf) hdc hmem hy ?_ ?_ hS (ih _ _ _ _ hrest (hdc.set hmem) hS hw)
   · intro w hw'
     cases e : memOp o.op with
     | true => exact hw'
     | false => trivial
   · cases e : memOp o.op with
     | true =>
      rw [e] at hm
      refine .inr fun j hj => ?_
      simp only [Bool.not_true, Bool.false_or] at hm
      have := List.all_eq_true.1 hm j (by simpa using hj)
      simpa using this
     | false => exact .inl fun _ => trivial
  | false =>
   simp only [planD, Bool.and_eq_true, beq_iff_eq, hi0] at hp
   obtain ⟨⟨hr, hfl⟩, hrest⟩ := hp
   have hmem : i ∈ Region.ready .any ops listed := by rw [hr]; simp
   obtain ⟨hun, o, ho, hall⟩ := mem_ready.1 hmem
   refine ⟨fun h0 => (by rw [h0] at hmem; cases hmem), fun j hj => ?_⟩
   rw [hr] at hj
   obtain rfl : j = i := by simpa using hj
   have h' : (if Region.wanted o (yielded ops a.tmps) = true then Oper.wp P o a w (fun a' w' => ∃ S', S' w' ∧ (Nat.ble 1000 i0 = true ∨ S' = S) ∧ wpPlanD P ops Q (planOpsD ops rest) S' a' w') Q else wpPlanD P ops Q (planOpsD ops rest) S (a.put o.dst undef) w) := by
    have h2 := h
    simp only [planOpsD, List.map_cons, wpPlanD, hi0, ho, Option.getD_some] at h2
    exact h2
   have hfl' : Nat.ble 1000 i0 = true → Bl.contains j = true := fun e => by rw [e] at hfl; simpa using hfl
   unfold wpOp
   simp only [ho]
   split
   · rename_i hw
     rw [if_pos hw] at h'
     exact .inl (Oper.wp_mono (fun a' w' ⟨S', h1, hb, h2⟩ => ⟨S', h1, hb.imp hfl' id, ih _ _ _ _ hrest (hdc.set hmem) h1 h2⟩) h')
   · rename_i hw
     rw [if_neg hw] at h'
     exact ⟨S, hS, .inr rfl, ih _ _ _ _ hrest (hdc.set hmem) hS h'⟩
theorem wp_region_planD {id : Nat} {a : Act} {w : World} (S : World → Prop) (Bl : List Nat) (plan : List (Nat × Bool)) (hm : P.follows .mixedOrders = true)
 (hB : (Region.noSelect ops && (plan.length == ops.size) && planD ops Bl plan (Array.replicate ops.size false)) = true)
 (hQ : ∀ (c : List PanicEntry) (a : Act) (t : Tmp) (v : Value) (w : World), Q (.panic c) (a.put (some t) v) w → Q (.panic c) a w)
 (hS : S w.drew) (h : wpPlanD P ops Q (planOpsD ops plan) S a w.drew) : (Code.region id ops true).wp P Q a w := by
 simp only [Bool.and_eq_true, beq_iff_eq] at hB
 obtain ⟨⟨h1, h2⟩, h3⟩ := hB
 have hdc : DC ops (Array.replicate ops.size false) := by
  intro j o ho hj
  have hlt : j < ops.size := by
   rcases Nat.lt_or_ge j ops.size with h | h
   · exact h
   · rw [Array.getElem?_eq_none h] at ho; cases ho
  simp [hlt] at hj
 have := planD_sound (Q := Q) (P := P) h1 hQ plan _ S a w.drew h3 hdc hS h
 rw [h2] at this
 exact wp_region_any hm (wpAny_of_D _ _ _ _ _ this)
end
end Go.Proofs.YtelolcagncgfpaaGreat
