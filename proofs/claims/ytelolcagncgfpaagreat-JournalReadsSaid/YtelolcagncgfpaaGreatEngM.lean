/- A generator of conditions for a walk, part 13: contracts over memory, used; what comes back in plain forms. No program in sight. -/
import Derived.Test.YtelolcagncgfpaaGreatEngL
namespace Go.Proofs.YtelolcagncgfpaaGreat
open Go.RowKit
set_option linter.unusedSimpArgs false
set_option linter.unusedVariables false
theorem bk_old {L : IdMap} {n i b : Nat} (h : lkL L i = some (some b)) : bk L n i = b := by unfold bk; rw [h]
theorem bk_new {L : IdMap} {n i : Nat} (h : lkL L i = none) : bk L n i = n + i := by unfold bk; rw [h]
theorem bk_nil {L : IdMap} {n i : Nat} (h : lkL L i = some none) : bk L n i = n + i := by unfold bk; rw [h]
section
variable {r : Nat → Nat}
theorem rn_ptr {i j o : Nat} (e : r i = j) : ren1 r (.pointer (some ⟨i, o, none⟩)) = .pointer (some ⟨j, o, none⟩) := by subst e; rfl
theorem rn_iface {t : TypeId} {i j o : Nat} (e : r i = j) : ren1 r (.iface t (.pointer (some ⟨i, o, none⟩))) = .iface t (.pointer (some ⟨j, o, none⟩)) := by subst e; rfl
theorem rn_slice {i j o n k : Nat} (e : r i = j) : ren1 r (.slice (some ⟨i, o, some 0⟩) n k) = .slice (some ⟨j, o, some 0⟩) n k := by subst e; rfl
theorem rn_slice0 {i j o n k : Nat} (e : r i = j) : ren1 r (.slice (some ⟨i, o, none⟩) n k) = .slice (some ⟨j, o, none⟩) n k := by subst e; rfl
theorem r1_rig {g o q : Nat} : ren1 r (.pointer (some ⟨g, o, some (q + 1)⟩)) = .pointer (some ⟨g, o, some (q + 1)⟩) := rfl
theorem r1_rigs {g o q n k : Nat} : ren1 r (.slice (some ⟨g, o, some (q + 1)⟩) n k) = .slice (some ⟨g, o, some (q + 1)⟩) n k := rfl
theorem rn_flat {v : Value} (h : flat1 v = true) (h' : parts1 v = none) : ren1 r v = v := by
 unfold ren1
 rw [h']
 unfold flat1 at h
 rw [h'] at h
 unfold flat0 at h
 dsimp only
 unfold ren0
 cases e : ref0 v with
 | none => rfl
 | some x => rw [e] at h; cases h
theorem r0_ptr {i j o : Nat} (e : r i = j) : ren0 r (.pointer (some ⟨i, o, none⟩)) = .pointer (some ⟨j, o, none⟩) := by subst e; rfl
theorem r0_iface {t : TypeId} {i j o : Nat} (e : r i = j) : ren0 r (.iface t (.pointer (some ⟨i, o, none⟩))) = .iface t (.pointer (some ⟨j, o, none⟩)) := by subst e; rfl
theorem r0_slice {i j o n k : Nat} (e : r i = j) : ren0 r (.slice (some ⟨i, o, some 0⟩) n k) = .slice (some ⟨j, o, some 0⟩) n k := by subst e; rfl
theorem r0_slice0 {i j o n k : Nat} (e : r i = j) : ren0 r (.slice (some ⟨i, o, none⟩) n k) = .slice (some ⟨j, o, none⟩) n k := by subst e; rfl
theorem r0_rig {g o q : Nat} : ren0 r (.pointer (some ⟨g, o, some (q + 1)⟩)) = .pointer (some ⟨g, o, some (q + 1)⟩) := rfl
theorem r0_rigs {g o q n k : Nat} : ren0 r (.slice (some ⟨g, o, some (q + 1)⟩) n k) = .slice (some ⟨g, o, some (q + 1)⟩) n k := rfl
theorem r0_map {i j : Nat} (e : r i = j) : ren0 r (.map (some i)) = .map (some j) := by subst e; rfl
theorem r0_ifacem {t : TypeId} {i j : Nat} (e : r i = j) : ren0 r (.iface t (.map (some i))) = .iface t (.map (some j)) := by subst e; rfl
theorem rn_map {i j : Nat} (e : r i = j) : ren1 r (.map (some i)) = .map (some j) := by subst e; rfl
theorem rn_ifacem {t : TypeId} {i j : Nat} (e : r i = j) : ren1 r (.iface t (.map (some i))) = .iface t (.map (some j)) := by subst e; rfl
theorem r0_int {k : IntKind} {n : Int} : ren0 r (.int k n) = .int k n := rfl
theorem r0_str {s : ByteArray} : ren0 r (.string s) = .string s := rfl
theorem r0_bool {b : Bool} : ren0 r (.bool b) = .bool b := rfl
theorem r0_nils {n k : Nat} : ren0 r (.slice none n k) = .slice none n k := rfl
theorem r0_nilp : ren0 r (.pointer none) = .pointer none := rfl
theorem r1_int {k : IntKind} {n : Int} : ren1 r (.int k n) = .int k n := rfl
theorem r1_str {s : ByteArray} : ren1 r (.string s) = .string s := rfl
theorem r1_bool {b : Bool} : ren1 r (.bool b) = .bool b := rfl
theorem r1_nils {n k : Nat} : ren1 r (.slice none n k) = .slice none n k := rfl
theorem r1_nilp : ren1 r (.pointer none) = .pointer none := rfl
theorem r1_nili {r : Nat → Nat} : ren1 r .nilIface = .nilIface := rfl
theorem r0_nili {r : Nat → Nat} : ren0 r .nilIface = .nilIface := rfl
theorem r0_flat {v : Value} (h : flat0 v = true) : ren0 r v = v := by
 unfold flat0 at h
 unfold ren0
 cases e : ref0 v with
 | none => rfl
 | some x => rw [e] at h; cases h
theorem map_flat0 {l : List Value} (h : l.all flat0 = true) : l.map (ren0 r) = l := by
 induction l with
 | nil => rfl
 | cons v l ih =>
  rw [List.all_cons, Bool.and_eq_true] at h
  rw [List.map_cons, r0_flat h.1, ih h.2]
theorem r1_flat {v : Value} (h : flat1 v = true) : ren1 r v = v := by
 unfold ren1
 unfold flat1 at h
 cases e : parts1 v with
 | none => rw [e] at h; exact r0_flat h
 | some x =>
  obtain ⟨l, f⟩ := x
  rw [e] at h
  dsimp only at h ⊢
  rw [map_flat0 h]
  exact parts1_self e
theorem rl_nil {f : Value → Value} : [].map f = [] := rfl
theorem rl_cons {f : Value → Value} {v v' : Value} {vs vs' : List Value} (h : f v = v') (hs : vs.map f = vs') : (v :: vs).map f = v' :: vs' := by rw [List.map_cons, h, hs]
theorem r1_agg {cs cs' : List Value} (h : cs.map (ren0 r) = cs') : ren1 r (.agg ⟨cs⟩) = .agg ⟨cs'⟩ := by subst h; rfl
theorem rR_tuple {cs cs' : List Value} (h : cs.map (ren1 r) = cs') : .tuple ⟨cs'⟩ = renR r (.tuple ⟨cs⟩) := by subst h; rfl
theorem rR_one {v v' : Value} (hn : tup v = none) (h : ren1 r v = v') : v' = renR r v := by unfold renR; rw [hn, h]
theorem relL_to {cs cs' : List Value} (h : cs.map (ren1 r) = cs') : relL r cs cs' := .inr h.symm
end
theorem lkH_cong {a b a' b' : HP} (h1 : a = a') (h2 : b = b') : a ++ b = a' ++ b' := by rw [h1, h2]
def drops (L : IdMap) : HP → List Nat
 | [] => []
 | (i, it) :: r => match it.mine, lkL L i with | true, some (some b) => b :: drops L r | _, _ => drops L r
def without (ids : List Nat) : HP → HP
 | [] => []
 | (i, it) :: r => match ids.any (fun x => Nat.beq x i) with | true => without ids r | false => (i, it) :: without ids r
theorem rmH_without (b : Nat) (ids : List Nat) : ∀ h : HP, rmH (without ids h) b = without (b :: ids) h
 | [] => rfl
 | (i, it) :: r => by
  unfold without
  rw [List.any_cons]
  by_cases hb : b = i
  · subst hb
    rw [beq_refl', Bool.true_or]
    cases ids.any (fun x => Nat.beq x b) with
    | true => exact rmH_without b ids r
    | false =>
     show rmH ((b, it) :: without ids r) b = _
     unfold rmH
     rw [beq_refl']
     exact rmH_without b ids r
  · rw [beq_no hb, Bool.false_or]
    cases ids.any (fun x => Nat.beq x i) with
    | true => exact rmH_without b ids r
    | false =>
     show rmH ((i, it) :: without ids r) b = _
     unfold rmH
     rw [beq_no (fun e => hb e.symm)]
     show (i, it) :: rmH (without ids r) b = _
     rw [rmH_without b ids r]
theorem without_nil : ∀ h : HP, without [] h = h
 | [] => rfl
 | (i, it) :: r => by
  unfold without
  show (i, it) :: without [] r = _
  rw [without_nil r]
theorem dropM_without (L : IdMap) (h : HP) : ∀ h0 : HP, dropM L h0 h = without (drops L h0) h
 | [] => (without_nil h).symm
 | (i, it) :: r => by
  unfold dropM drops
  split
  · rename_i b h1 h2
    rw [dropM_without L h r, rmH_without]
    simp only [h1, h2]
  · rename_i hn
    have e : (match it.mine, lkL L i with | true, some (some b) => b :: drops L r | _, _ => drops L r) = drops L r := by
     cases hm : it.mine with
     | false => rfl
     | true =>
      cases hl : lkL L i with
      | none => rfl
      | some x =>
       cases x with
       | none => rfl
       | some b => exact absurd hl (hn b hm)
    rw [dropM_without L h r, e]
theorem wo_nil {ids : List Nat} : without ids [] = [] := rfl
theorem wo_keep {ids : List Nat} {i : Nat} {it : Itm} {h h' : HP} (e : ids.any (fun x => Nat.beq x i) = false) (hs : without ids h = h') : without ids ((i, it) :: h) = (i, it) :: h' := by unfold without; rw [e, hs]
theorem wo_drop {ids : List Nat} {i : Nat} {it : Itm} {h h' : HP} (e : ids.any (fun x => Nat.beq x i) = true) (hs : without ids h = h') : without ids ((i, it) :: h) = h' := by unfold without; rw [e]; exact hs
theorem rn_own {r : Nat → Nat} {i j : Nat} {ty : TypeId} {cs cs' : List Value} {h h' : HP} (e : r i = j) (hl : relL r cs cs') (hh : relH r h h') : relH r ((i, .own ty cs) :: h) ((j, .own ty cs') :: h') := by subst e; exact relH_own hl hh
theorem rn_abs {r : Nat → Nat} {i j : Nat} {S : Nat → Prop} {Φ : Nat → World → Prop} {h h' : HP} (e : r i = j) (hh : relH r h h') : relH r ((i, .abs true S Φ) :: h) ((j, .abs true S Φ) :: h') := by subst e; exact relH_abs hh
theorem rn_row {r : Nat → Nat} {i j : Nat} {ty : TypeId} {size cap : Nat} {cs cs' : List Value} {h h' : HP} (e : r i = j) (hl : relL r cs cs') (hh : relH r h h') : relH r ((i, .row ty size cap cs) :: h) ((j, .row ty size cap cs') :: h') := by subst e; exact relH_row hl hh
theorem rn_lst {r : Nat → Nat} {i j : Nat} {ty : TypeId} {size cap : Nat} {cs cs' : List Value} {h h' : HP} (e : r i = j) (hl : relL r cs cs') (hh : relH r h h') : relH r ((i, .lst ty size cap cs) :: h) ((j, .lst ty size cap cs') :: h') := by subst e; exact relH_lst hl hh
theorem rn_mp {r : Nat → Nat} {i j : Nat} {ks vs vs' : List Value} {h h' : HP} (e : r i = j) (hl : relL r vs vs') (hh : relH r h h') : relH r ((i, .mp ks vs) :: h) ((j, .mp ks vs') :: h') := by subst e; exact relH_mp hl hh
theorem call_framedN {P : Program} {f : FuncId} {args0 args : List Value} {h0 h : HP} {n0 n : Nat} {Post K : Value → HP → Nat → Prop} (C : CallOb P f args0 h0 n0 Post) (L : IdMap)
 (ha : LR (covR 0 L) args0 args) (hh : subH 0 L h h0) (hok : okK 0 n0 L = true) (oki : okI 0 L h0 = true) (hky : keyed h0 L = true)
 (hk : ∀ v h1 n1, Post v h1 n1 → ∃ v' hN hR, v' = renR (bk L n) v ∧ relH (bk L n) h1 hN ∧ without (drops L h0) h = hR ∧ K v' (hN ++ hR) (n + n1)) : CallOb P f args h n K :=
 call_framed C L ha hh hok oki hky fun v h1 n1 hp => let ⟨v', hN, hR, e1, e2, e3, hK⟩ := hk v h1 n1 hp; ⟨v', hN, e1, e2, by rw [dropM_without, e3]; exact hK⟩
theorem call_q {P : Program} {f : FuncId} {args0 args : List Value} {h0 h : HP} {n0 n : Nat} {Post K : Value → HP → Nat → Prop} (C : CallOb P f args0 h0 n0 Post) (L : IdMap)
 (hs : LR (covR 0 L) args0 args ∧ subH 0 L h h0) (hok : okK 0 n0 L = true) (oki : okI 0 L h0 = true) (hky : keyed h0 L = true)
 (hk : ∀ v h1 n1, Post v h1 n1 → ∃ v' hN hR, (v' = renR (bk L n) v ∧ relH (bk L n) h1 hN ∧ without (drops L h0) h = hR) ∧ K v' (hN ++ hR) (n + n1)) : CallOb P f args h n K :=
 call_framedN C L hs.1 hs.2 hok oki hky fun v h1 n1 hp => let ⟨v', hN, hR, ⟨e1, e2, e3⟩, hK⟩ := hk v h1 n1 hp; ⟨v', hN, hR, e1, e2, e3, hK⟩
end Go.Proofs.YtelolcagncgfpaaGreat
